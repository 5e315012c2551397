/- The program's functions, compiled for the abstract machine. -/
import Derived.Test.YtloboklomhlkhabGreatDoorKP
set_option linter.unusedVariables false
set_option linter.unusedSimpArgs false
namespace Go.Kev.Tryz
set_option maxRecDepth 100000
set_option autoImplicit false
noncomputable section
def b1 : AC := (.reg [.p p0 (.mv (.c (.bool false)))])
def b3 : AC := (.reg [.p p7 (.build [([], 1, (.c (.str 1 120))), ([], 1, (.c (.str 1 49)))] []),
   .p p8 (.build [([], 1, (.c (.str 2 11640))), ([], 1, (.c (.str 1 50)))] []),
   .p p9 (.bslice 29 2 2 [([], 2, (.t p7)), ([], 2, (.t p8))] []),
   .p p10 (.call 5 [(.c (.str 11 43692173460145949191644257)), (.t p9)]),
   .p p6 (.mv (.t p10)),
   .p p11 (.extract 0 (.t p6)),
   .p p12 (.extract 1 (.t p6)),
   .p p1 (.mv (.t p11)),
   .p p2 (.mv (.t p12))])
def b5 : AC := (.reg [.p p14 (.call 7 []),
   .p p15 (.call 6 [(.t p14), (.c (.str 2 26979)), (.c (.nils))]),
   .p p13 (.mv (.t p15)),
   .p p16 (.extract 0 (.t p13)),
   .p p17 (.extract 1 (.t p13)),
   .p p18 (.extract 2 (.t p13)),
   .p p4 (.alloc 32 [.str 0 0, .int .i64 (.ofNat 0)]),
   .p p3 (.mv (.t p16)),
   .n (.store 2 (.t p4) (.t p17)),
   .p p5 (.mv (.t p18))])
def b6 : AC := (.seq (.reg [.p p19 (.mv (.t p2)),
   .p p20 (.bin .eql (.t p19) (.c (.int .i64 (.ofNat 0)))),
   .p p21 (.mv (.t p20)),
   .g p22 (.mv (.t p1)) p21 true,
   .g p23 (.bin .eql (.t p22) (.c (.str 5 155464118625))) p21 true,
   .p p24 (.pick (.t p21) (.t p23) (.c (.bool false))),
   .p p25 (.mv (.t p24)),
   .g p26 (.mv (.t p5)) p25 true,
   .g p27 (.bin .eql (.t p26) (.c (.int .i64 (.ofNat 0)))) p25 true,
   .p p28 (.pick (.t p25) (.t p27) (.c (.bool false))),
   .p p29 (.mv (.t p28)),
   .g p30 (.mv (.t p3)) p29 true,
   .g p31 (.lenSlc (.t p30)) p29 true,
   .g p32 (.bin .eql (.t p31) (.c (.int .i64 (.ofNat 1)))) p29 true,
   .p p33 (.pick (.t p29) (.t p32) (.c (.bool false))),
   .p p34 (.mv (.t p33)),
   .g p35 (.mv (.t p3)) p34 true,
   .g p36 (.iaddrS 5 (.t p35) (.c (.int .i64 (.ofNat 0)))) p34 true,
   .g p37 (.faddr 0 (.t p36)) p34 true,
   .g p38 (.load1 (.t p37)) p34 true,
   .g p39 (.bin .eql (.t p38) (.c (.str 1 98))) p34 true,
   .p p40 (.pick (.t p34) (.t p39) (.c (.bool false))),
   .p p41 (.mv (.t p40)),
   .g p42 (.mv (.t p3)) p41 true,
   .g p43 (.iaddrS 5 (.t p42) (.c (.int .i64 (.ofNat 0)))) p41 true,
   .g p44 (.faddr 3 (.t p43)) p41 true,
   .g p45 (.load1 (.t p44)) p41 true,
   .g p46 (.lenSlc (.t p45)) p41 true,
   .g p47 (.bin .eql (.t p46) (.c (.int .i64 (.ofNat 3)))) p41 true,
   .p p48 (.pick (.t p41) (.t p47) (.c (.bool false))),
   .p p49 (.mv (.t p48)),
   .g p50 (.mv (.t p3)) p49 true,
   .g p51 (.iaddrS 5 (.t p50) (.c (.int .i64 (.ofNat 0)))) p49 true,
   .g p52 (.faddr 3 (.t p51)) p49 true,
   .g p53 (.load1 (.t p52)) p49 true,
   .g p54 (.iaddrS 3 (.t p53) (.c (.int .i64 (.ofNat 0)))) p49 true,
   .g p55 (.faddr 1 (.t p54)) p49 true,
   .g p56 (.load1 (.t p55)) p49 true,
   .g p57 (.bin .eql (.t p56) (.c (.str 5 495622648436))) p49 true,
   .p p58 (.pick (.t p49) (.t p57) (.c (.bool false))),
   .p p59 (.mv (.t p58)),
   .g p60 (.mv (.t p3)) p59 true,
   .g p61 (.iaddrS 5 (.t p60) (.c (.int .i64 (.ofNat 0)))) p59 true,
   .g p62 (.faddr 3 (.t p61)) p59 true,
   .g p63 (.load1 (.t p62)) p59 true,
   .g p64 (.iaddrS 3 (.t p63) (.c (.int .i64 (.ofNat 2)))) p59 true,
   .g p65 (.faddr 2 (.t p64)) p59 true,
   .g p66 (.load1 (.t p65)) p59 true,
   .g p67 (.iaddrS 1 (.t p66) (.c (.int .i64 (.ofNat 0)))) p59 true,
   .g p68 (.load1 (.t p67)) p59 true,
   .g p69 (.bin .eql (.t p68) (.c (.str 3 7954803))) p59 true,
   .p p70 (.pick (.t p59) (.t p69) (.c (.bool false))),
   .p p71 (.mv (.t p70)),
   .g p72 (.mv (.t p3)) p71 true,
   .g p73 (.iaddrS 5 (.t p72) (.c (.int .i64 (.ofNat 0)))) p71 true,
   .g p74 (.faddr 4 (.t p73)) p71 true,
   .g p75 (.load1 (.t p74)) p71 true,
   .g p76 (.build [([], 1, (.c (.str 1 97))), ([], 1, (.c (.str 1 51)))] []) p71 true,
   .g p77 (.build [([], 1, (.c (.str 1 98))), ([], 1, (.c (.str 1 49)))] []) p71 true,
   .g p78 (.bslice 29 2 2 [([], 2, (.t p76)), ([], 2, (.t p77))] []) p71 true,
   .g p79 (.call 8 [(.t p75), (.t p78)]) p71 true,
   .p p80 (.pick (.t p71) (.t p79) (.c (.bool false))),
   .p p0 (.mv (.t p80))])
   .ret)
def b4 : AC := .seq b5 b6
def b2 : AC := .seq b3 b4
def b0 : AC := .seq b1 b2
/- bastion/bastionlaw13.works -/
def a4 : AF :=
  .code [] b0
   [.t p0]
/- bastion/expand.Subst -/
def a5 : AF :=
  .code [p0, p1] (.seq (.reg [.p p3 (.box 22 (.t p1)),
   .p p4 (.mv (.c (.str 0 0))),
   .p p5 (.mv (.c (.int .i64 (.ofNat 0))))])
   (.seq (.reg [.p p15 (.mkfn 9 [] [(.t p3)]),
   .p p6 (.mv (.t p15))])
   (.seq (.reg [.p p7 (.alloc 48 [.nilp, .nils])])
   (.seq (.block 0 (.loop (.block 1 (.seq (.reg [.p p17 (.mv (.t p0)),
   .p p18 (.call 10 [(.t p17), (.c (.str 1 36))]),
   .p p16 (.mv (.t p18)),
   .p p19 (.extract 0 (.t p16)),
   .p p20 (.extract 1 (.t p16)),
   .p p21 (.extract 2 (.t p16)),
   .p p8 (.mv (.t p19)),
   .p p9 (.mv (.t p20)),
   .p p10 (.mv (.t p21))])
   (.seq (.reg [.p p22 (.mv (.t p8)),
   .p p23 (.call 11 [(.t p7), (.t p22)])])
   (.seq (.seq (.reg [.p p24 (.mv (.t p10)),
   .p p25 (.not (.t p24))])
   (.cond (.t p25) (.exit 0) .skip))
   (.seq (.seq (.reg [.p p26 (.mv (.t p9)),
   .p p27 (.call 12 [(.t p26), (.c (.str 1 36))])])
   (.cond (.t p27) (.seq (.reg [.p p28 (.call 13 [(.t p7), (.c (.int .u8 (.ofNat 36)))])])
   (.seq (.reg [.p p29 (.mv (.t p9)),
   .p p30 (.sliceStr (.t p29) (some (.c (.int .i64 (.ofNat 1)))) none),
   .p p0 (.mv (.t p30))])
   (.exit 1))) .skip))
   (.seq (.reg [.p p32 (.mv (.t p9)),
   .p p33 (.call 14 [(.t p32)]),
   .p p31 (.mv (.t p33)),
   .p p34 (.extract 0 (.t p31)),
   .p p35 (.extract 1 (.t p31)),
   .p p36 (.extract 2 (.t p31)),
   .p p11 (.mv (.t p34)),
   .p p12 (.mv (.t p35)),
   .p p13 (.mv (.t p36))])
   (.seq (.seq (.reg [.p p37 (.mv (.t p13)),
   .p p38 (.not (.t p37))])
   (.cond (.t p38) (.seq (.reg [.p p4 (.mv (.c (.str 0 0))),
   .p p5 (.mv (.c (.int .i64 (.ofNat 4))))])
   .ret) .skip))
   (.seq (.reg [.p p40 (.mv (.t p6)),
   .p p41 (.mv (.t p11)),
   .p p42 (.callv (.t p40) [(.t p41)]),
   .p p39 (.mv (.t p42)),
   .p p43 (.extract 0 (.t p39)),
   .p p44 (.extract 1 (.t p39)),
   .p p14 (.mv (.t p43)),
   .p p13 (.mv (.t p44))])
   (.seq (.seq (.reg [.p p45 (.mv (.t p13)),
   .p p46 (.not (.t p45))])
   (.cond (.t p46) (.seq (.reg [.p p4 (.mv (.c (.str 0 0))),
   .p p5 (.mv (.c (.int .i64 (.ofNat 63))))])
   .ret) .skip))
   (.seq (.reg [.p p47 (.mv (.t p14)),
   .p p48 (.call 11 [(.t p7), (.t p47)])])
   (.reg [.p p49 (.mv (.t p9)),
   .p p50 (.mv (.t p12)),
   .p p51 (.sliceStr (.t p49) (some (.t p50)) none),
   .p p0 (.mv (.t p51))])))))))))))))
   (.seq (.seq (.reg [.p p52 (.call 15 [(.t p7)]),
   .p p53 (.bin .gtr (.t p52) (.c (.int .i64 (.ofNat 400))))])
   (.cond (.t p53) (.seq (.reg [.p p4 (.mv (.c (.str 0 0))),
   .p p5 (.mv (.c (.int .i64 (.ofNat 40))))])
   .ret) .skip))
   (.seq (.reg [.p p54 (.call 16 [(.t p7)]),
   .p p4 (.mv (.t p54)),
   .p p5 (.mv (.c (.int .i64 (.ofNat 0))))])
   .ret))))))
   [.t p4, .t p5]
/- bastion/expand.Expand -/
def a6 : AF :=
  .code [p0, p1, p2] (.seq (.reg [.p p6 (.mv (.c (.nils))),
   .p p7 (.alloc 32 [.str 0 0, .int .i64 (.ofNat 0)]),
   .p p8 (.mv (.c (.int .i64 (.ofNat 0))))])
   (.seq (.reg [.p p29 (.mv (.t p0)),
   .p p30 (.mv (.t p1)),
   .p p31 (.call 17 [(.t p29), (.t p30)]),
   .p p28 (.mv (.t p31)),
   .p p32 (.extract 0 (.t p28)),
   .p p33 (.extract 1 (.t p28)),
   .p p34 (.extract 2 (.t p28)),
   .p p10 (.alloc 32 [.str 0 0, .int .i64 (.ofNat 0)]),
   .p p9 (.mv (.t p32)),
   .n (.store 2 (.t p10) (.t p33)),
   .p p11 (.mv (.t p34))])
   (.seq (.seq (.reg [.p p35 (.mv (.t p11)),
   .p p36 (.bin .neq (.t p35) (.c (.int .i64 (.ofNat 0))))])
   (.cond (.t p36) (.seq (.dreg [(.p p37 (.loadn 2 (.t p10)), 0), (.p p38 (.mv (.t p11)), 0), (.p p6 (.mv (.c (.nils))), 0), (.n (.store 2 (.t p7) (.t p37)), 5), (.p p8 (.mv (.t p38)), 15)])
   .ret) .skip))
   (.seq (.reg [.p p40 (.mv (.t p9)),
   .p p41 (.call 18 [(.t p40)]),
   .p p39 (.mv (.t p41)),
   .p p42 (.extract 0 (.t p39)),
   .p p43 (.extract 1 (.t p39)),
   .p p44 (.extract 2 (.t p39)),
   .p p45 (.extract 3 (.t p39)),
   .p p12 (.mv (.t p42)),
   .p p13 (.mv (.t p43)),
   .n (.store 2 (.t p10) (.t p44)),
   .p p11 (.mv (.t p45))])
   (.seq (.seq (.reg [.p p46 (.mv (.t p11)),
   .p p47 (.bin .neq (.t p46) (.c (.int .i64 (.ofNat 0))))])
   (.cond (.t p47) (.seq (.dreg [(.p p48 (.loadn 2 (.t p10)), 0), (.p p49 (.mv (.t p11)), 0), (.p p6 (.mv (.c (.nils))), 0), (.n (.store 2 (.t p7) (.t p48)), 5), (.p p8 (.mv (.t p49)), 15)])
   .ret) .skip))
   (.seq (.reg [.p p14 (.mv (.c (.nils)))])
   (.seq (.seq (.reg [.p p50 (.mv (.t p2)),
   .p p51 (.lenSlc (.t p50)),
   .p p52 (.mv (.c (.int .i64 (.ofNat 0))))])
   (.block 0 (.loop (.seq (.reg [.p p53 (.bin .lss (.t p52) (.t p51))])
   (.seq (.cond (.t p53) .skip (.exit 0))
   (.seq (.block 1 (.seq (.reg [.p p54 (.iaddrS 2 (.t p50) (.t p52)),
   .p p55 (.loadn 2 (.t p54)),
   .p p16 (.alloc 29 [.str 0 0, .str 0 0]),
   .n (.store 2 (.t p16) (.t p55))])
   (.reg [.p p56 (.mv (.t p14)),
   .p p57 (.faddr 0 (.t p16)),
   .p p58 (.load1 (.t p57)),
   .p p59 (.faddr 1 (.t p16)),
   .p p60 (.load1 (.t p59)),
   .p p61 (.call 19 [(.t p56), (.t p58), (.t p60)]),
   .p p14 (.mv (.t p61))])))
   (.reg [.p p62 (.bin .add (.t p52) (.c (.int .i64 (.ofNat 1)))),
   .p p52 (.mv (.t p62))])))))))
   (.seq (.seq (.reg [.p p63 (.mv (.t p9)),
   .p p64 (.nilck (.t p63)),
   .p p65 (.faddr 3 (.t p64)),
   .p p66 (.load1 (.t p65)),
   .p p67 (.lenSlc (.t p66)),
   .p p68 (.mv (.c (.int .i64 (.ofNat 0))))])
   (.block 2 (.loop (.seq (.reg [.p p69 (.bin .lss (.t p68) (.t p67))])
   (.seq (.cond (.t p69) .skip (.exit 2))
   (.seq (.block 3 (.seq (.reg [.p p70 (.iaddrS 4 (.t p66) (.t p68)),
   .p p71 (.loadn 4 (.t p70)),
   .p p18 (.alloc 75 [.str 0 0, .int .i64 (.ofNat 0), .str 0 0, .nils]),
   .n (.store 4 (.t p18) (.t p71))])
   (.seq (.reg [.p p73 (.mv (.t p14)),
   .p p74 (.faddr 0 (.t p18)),
   .p p75 (.load1 (.t p74)),
   .p p76 (.faddr 1 (.t p18)),
   .p p77 (.loadn 3 (.t p76)),
   .p p78 (.bslice 42 1 3 [([], 3, (.t p77))] []),
   .p p79 (.call 20 [(.t p73), (.t p75), (.t p78)]),
   .p p72 (.mv (.t p79)),
   .p p80 (.extract 0 (.t p72)),
   .p p81 (.extract 1 (.t p72)),
   .p p82 (.extract 2 (.t p72)),
   .p p14 (.mv (.t p80)),
   .n (.store 2 (.t p10) (.t p81)),
   .p p11 (.mv (.t p82))])
   (.seq (.reg [.p p83 (.mv (.t p11)),
   .p p84 (.bin .neq (.t p83) (.c (.int .i64 (.ofNat 0))))])
   (.cond (.t p84) (.seq (.dreg [(.p p85 (.loadn 2 (.t p10)), 0), (.p p86 (.mv (.t p11)), 0), (.p p6 (.mv (.c (.nils))), 0), (.n (.store 2 (.t p7) (.t p85)), 5), (.p p8 (.mv (.t p86)), 15)])
   .ret) .skip)))))
   (.reg [.p p87 (.bin .add (.t p68) (.c (.int .i64 (.ofNat 1)))),
   .p p68 (.mv (.t p87))])))))))
   (.seq (.reg [.p p19 (.mv (.c (.nils)))])
   (.seq (.seq (.reg [.p p88 (.mv (.t p13)),
   .p p89 (.lenSlc (.t p88)),
   .p p90 (.mv (.c (.int .i64 (.ofNat 0))))])
   (.block 4 (.loop (.seq (.reg [.p p91 (.bin .lss (.t p90) (.t p89))])
   (.seq (.cond (.t p91) .skip (.exit 4))
   (.seq (.block 5 (.seq (.reg [.p p92 (.iaddrS 5 (.t p88) (.t p90)),
   .p p93 (.loadn 5 (.t p92)),
   .p p21 (.alloc 81 [.str 0 0, .int .i64 (.ofNat 0), .int .u8 (.ofNat 0), .str 0 0, .nils]),
   .n (.store 5 (.t p21) (.t p93))])
   (.seq (.reg [.p p22 (.alloc 81 [.str 0 0, .int .i64 (.ofNat 0), .int .u8 (.ofNat 0), .str 0 0, .nils])])
   (.seq (.seq (.reg [.p p94 (.faddr 1 (.t p21)),
   .p p95 (.faddr 3 (.t p94)),
   .p p96 (.load1 (.t p95)),
   .p p97 (.lenSlc (.t p96)),
   .p p98 (.bin .gtr (.t p97) (.c (.int .i64 (.ofNat 0)))),
   .p p99 (.mv (.t p98)),
   .g p100 (.faddr 1 (.t p21)) p99 true,
   .g p101 (.faddr 3 (.t p100)) p99 true,
   .g p102 (.load1 (.t p101)) p99 true,
   .g p103 (.iaddrS 3 (.t p102) (.c (.int .i64 (.ofNat 0)))) p99 true,
   .g p104 (.faddr 1 (.t p103)) p99 true,
   .g p105 (.load1 (.t p104)) p99 true,
   .g p106 (.bin .eql (.t p105) (.c (.str 3 6648693))) p99 true,
   .p p107 (.pick (.t p99) (.t p106) (.c (.bool false)))])
   (.cond (.t p107) (.seq (.reg [.p p109 (.mv (.t p12)),
   .p p110 (.faddr 1 (.t p21)),
   .p p111 (.faddr 3 (.t p110)),
   .p p112 (.load1 (.t p111)),
   .p p113 (.iaddrS 3 (.t p112) (.c (.int .i64 (.ofNat 0)))),
   .p p114 (.faddr 2 (.t p113)),
   .p p115 (.load1 (.t p114)),
   .p p116 (.iaddrS 1 (.t p115) (.c (.int .i64 (.ofNat 0)))),
   .p p117 (.load1 (.t p116)),
   .p p118 (.lookup .str true (.agg [.str 0 0, .int .i64 (.ofNat 0), .int .u8 (.ofNat 0), .str 0 0, .nils]) (.t p109) (.t p117)),
   .p p108 (.mv (.t p118)),
   .p p119 (.extract 0 (.t p108)),
   .p p120 (.extract 1 (.t p108)),
   .p p23 (.alloc 81 [.str 0 0, .int .i64 (.ofNat 0), .int .u8 (.ofNat 0), .str 0 0, .nils]),
   .n (.store 5 (.t p23) (.t p119)),
   .p p24 (.mv (.t p120))])
   (.seq (.seq (.reg [.p p121 (.mv (.t p24)),
   .p p122 (.not (.t p121))])
   (.cond (.t p122) (.seq (.dreg [(.p p123 (.faddr 0 (.t p21)), 0), (.p p124 (.load1 (.t p123)), 1), (.p p125 (.faddr 1 (.t p21)), 0), (.p p126 (.faddr 3 (.t p125)), 4), (.p p127 (.load1 (.t p126)), 12), (.p p128 (.iaddrS 3 (.t p127) (.c (.int .i64 (.ofNat 0)))), 28), (.p p129 (.faddr 0 (.t p128)), 60), (.p p130 (.load1 (.t p129)), 124), (.p p131 (.build [([], 1, (.t p124)), ([], 1, (.t p130))] []), 255), (.p p6 (.mv (.c (.nils))), 0), (.n (.store 2 (.t p7) (.t p131)), 1023), (.p p8 (.mv (.c (.int .i64 (.ofNat 63)))), 2047)])
   .ret) .skip))
   (.reg [.p p132 (.loadn 5 (.t p23)),
   .n (.store 5 (.t p22) (.t p132))]))) .skip))
   (.seq (.dreg [(.p p134 (.mv (.t p14)), 0), (.p p135 (.call 21 [(.t p134)]), 1), (.p p136 (.faddr 0 (.t p22)), 0), (.p p137 (.load1 (.t p136)), 4), (.p p138 (.faddr 1 (.t p22)), 0), (.p p139 (.faddr 3 (.t p138)), 16), (.p p140 (.load1 (.t p139)), 48), (.p p141 (.call 20 [(.t p135), (.t p137), (.t p140)]), 127), (.p p133 (.mv (.t p141)), 255), (.p p142 (.extract 0 (.t p133)), 511), (.p p143 (.extract 1 (.t p133)), 511), (.p p144 (.extract 2 (.t p133)), 511), (.p p26 (.alloc 32 [.str 0 0, .int .i64 (.ofNat 0)]), 0), (.p p25 (.mv (.t p142)), 5119), (.n (.store 2 (.t p26) (.t p143)), 14335), (.p p27 (.mv (.t p144)), 32767)])
   (.seq (.seq (.reg [.p p145 (.mv (.t p27)),
   .p p146 (.bin .eql (.t p145) (.c (.int .i64 (.ofNat 0))))])
   (.cond (.t p146) (.reg [.p p148 (.mv (.t p25)),
   .p p149 (.faddr 0 (.t p21)),
   .p p150 (.load1 (.t p149)),
   .p p151 (.faddr 1 (.t p21)),
   .p p152 (.faddr 3 (.t p151)),
   .p p153 (.load1 (.t p152)),
   .p p154 (.call 20 [(.t p148), (.t p150), (.t p153)]),
   .p p147 (.mv (.t p154)),
   .p p155 (.extract 0 (.t p147)),
   .p p156 (.extract 1 (.t p147)),
   .p p157 (.extract 2 (.t p147)),
   .p p25 (.mv (.t p155)),
   .n (.store 2 (.t p26) (.t p156)),
   .p p27 (.mv (.t p157))]) .skip))
   (.seq (.seq (.reg [.p p158 (.mv (.t p27)),
   .p p159 (.bin .neq (.t p158) (.c (.int .i64 (.ofNat 0))))])
   (.cond (.t p159) (.seq (.dreg [(.p p160 (.loadn 2 (.t p26)), 0), (.p p161 (.mv (.t p27)), 0), (.p p6 (.mv (.c (.nils))), 0), (.n (.store 2 (.t p7) (.t p160)), 5), (.p p8 (.mv (.t p161)), 15)])
   .ret) .skip))
   (.dreg [(.p p162 (.mv (.t p19)), 0), (.p p163 (.faddr 1 (.t p21)), 0), (.p p164 (.faddr 2 (.t p163)), 2), (.p p165 (.load1 (.t p164)), 6), (.p p166 (.faddr 0 (.t p21)), 0), (.p p167 (.load1 (.t p166)), 16), (.p p168 (.faddr 1 (.t p21)), 0), (.p p169 (.faddr 0 (.t p168)), 64), (.p p170 (.load1 (.t p169)), 192), (.p p171 (.faddr 1 (.t p22)), 0), (.p p172 (.faddr 3 (.t p171)), 512), (.p p173 (.load1 (.t p172)), 1536), (.p p174 (.faddr 1 (.t p21)), 0), (.p p175 (.faddr 3 (.t p174)), 4096), (.p p176 (.load1 (.t p175)), 12288), (.p p177 (.call 22 [(.t p173), (.t p176)]), 32256), (.p p178 (.mv (.t p25)), 0), (.p p179 (.build [([], 1, (.t p165)), ([], 1, (.t p167)), ([], 1, (.t p170)), ([], 1, (.t p177)), ([], 1, (.t p178))] []), 131070), (.p p180 (.bslice 39 1 5 [([], 5, (.t p179))] []), 262142), (.p p181 (.append 39 5 88 (.t p162) (.t p180)), 524287), (.p p19 (.mv (.t p181)), 1048575)]))))))))
   (.reg [.p p182 (.bin .add (.t p90) (.c (.int .i64 (.ofNat 1)))),
   .p p90 (.mv (.t p182))])))))))
   (.seq (.reg [.p p183 (.mv (.t p19)),
   .p p184 (.build [] [.str 0 0, .int .i64 (.ofNat 0)]),
   .p p6 (.mv (.t p183)),
   .n (.store 2 (.t p7) (.t p184)),
   .p p8 (.mv (.c (.int .i64 (.ofNat 0))))])
   .ret)))))))))))
   [.t p6, .cell p7 2, .t p8]
/- bastion/bastionlaw13.example -/
def a7 : AF :=
  .code [] (.seq (.reg [.p p0 (.mv (.c (.nils)))])
   (.seq (.reg [.p p1 (.build [([], 1, (.c (.str 2 26979))), ([], 1, (.c (.str 56 29469498631428871350540213927244114720242353121558996065064169425643370337486844185412396944338334610096400163843281923979727071309417)))] []),
   .p p2 (.build [([], 1, (.c (.str 3 6449516))), ([], 1, (.c (.str 41 22170386652633540049294109541182788604424464056673322048516384571610481356339314922769175274153332)))] []),
   .p p3 (.bslice 86 2 2 [([], 2, (.t p1)), ([], 2, (.t p2))] []),
   .p p0 (.mv (.t p3))])
   .ret))
   [.t p0]
/- bastion/bastionref13.SameVars -/
def a8 : AF :=
  .code [p0, p1] (.seq (.reg [.p p4 (.mv (.c (.bool false)))])
   (.seq (.seq (.reg [.p p6 (.mv (.t p0)),
   .p p7 (.lenSlc (.t p6)),
   .p p8 (.mv (.t p1)),
   .p p9 (.lenSlc (.t p8)),
   .p p10 (.bin .neq (.t p7) (.t p9))])
   (.cond (.t p10) (.seq (.reg [.p p4 (.mv (.c (.bool false)))])
   .ret) .skip))
   (.seq (.seq (.reg [.p p5 (.mv (.c (.int .i64 (.ofNat 0))))])
   (.block 0 (.loop (.seq (.seq (.reg [.p p11 (.mv (.t p5)),
   .p p12 (.mv (.t p0)),
   .p p13 (.lenSlc (.t p12)),
   .p p14 (.bin .lss (.t p11) (.t p13))])
   (.cond (.t p14) .skip (.exit 0)))
   (.seq (.block 1 (.seq (.dreg [(.p p17 (.mv (.t p0)), 0), (.p p18 (.mv (.t p5)), 0), (.p p19 (.iaddrS 2 (.t p17) (.t p18)), 3), (.p p20 (.loadn 2 (.t p19)), 7), (.p p21 (.mv (.t p1)), 0), (.p p22 (.mv (.t p5)), 0), (.p p23 (.iaddrS 2 (.t p21) (.t p22)), 48), (.p p24 (.loadn 2 (.t p23)), 112), (.p p25 (.eq true (.st [1, 1]) (.t p20) (.t p24)), 255)])
   (.cond (.t p25) (.seq (.reg [.p p4 (.mv (.c (.bool false)))])
   .ret) .skip)))
   (.reg [.p p15 (.mv (.t p5)),
   .p p16 (.bin .add (.t p15) (.c (.int .i64 (.ofNat 1)))),
   .p p5 (.mv (.t p16))]))))))
   (.seq (.reg [.p p4 (.mv (.c (.bool true)))])
   .ret))))
   [.t p4]
/- bastion/expand.Subst$1 -/
def a9 : AF :=
  .code [p0, p1] (.seq (.reg [.p p3 (.mv (.c (.str 0 0))),
   .p p4 (.mv (.c (.bool false)))])
   (.seq (.seq (.reg [.p p6 (.load1 (.t p1)),
   .p p7 (.lenSlc (.t p6)),
   .p p8 (.bin .sub (.t p7) (.c (.int .i64 (.ofNat 1)))),
   .p p5 (.mv (.t p8))])
   (.block 0 (.loop (.seq (.seq (.reg [.p p9 (.mv (.t p5)),
   .p p10 (.bin .geq (.t p9) (.c (.int .i64 (.ofNat 0))))])
   (.cond (.t p10) .skip (.exit 0)))
   (.seq (.block 1 (.seq (.reg [.p p13 (.load1 (.t p1)),
   .p p14 (.mv (.t p5)),
   .p p15 (.iaddrS 2 (.t p13) (.t p14)),
   .p p16 (.faddr 0 (.t p15)),
   .p p17 (.load1 (.t p16)),
   .p p18 (.mv (.t p0)),
   .p p19 (.bin .eql (.t p17) (.t p18))])
   (.cond (.t p19) (.seq (.reg [.p p20 (.load1 (.t p1)),
   .p p21 (.mv (.t p5)),
   .p p22 (.iaddrS 2 (.t p20) (.t p21)),
   .p p23 (.faddr 1 (.t p22)),
   .p p24 (.load1 (.t p23)),
   .p p3 (.mv (.t p24)),
   .p p4 (.mv (.c (.bool true)))])
   .ret) .skip)))
   (.reg [.p p11 (.mv (.t p5)),
   .p p12 (.bin .sub (.t p11) (.c (.int .i64 (.ofNat 1)))),
   .p p5 (.mv (.t p12))]))))))
   (.seq (.reg [.p p3 (.mv (.c (.str 0 0))),
   .p p4 (.mv (.c (.bool false)))])
   .ret)))
   [.t p3, .t p4]
/- strings.Cut -/
def a10 : AF :=
  .code [p0, p1] (.seq (.reg [.p p4 (.mv (.c (.str 0 0))),
   .p p5 (.mv (.c (.str 0 0))),
   .p p6 (.mv (.c (.bool false)))])
   (.seq (.reg [.p p7 (.mv (.t p0)),
   .p p8 (.mv (.t p1)),
   .p p9 (.call 23 [(.t p7), (.t p8)]),
   .p p10 (.extract 0 (.t p9)),
   .p p11 (.extract 1 (.t p9)),
   .p p12 (.extract 2 (.t p9)),
   .p p4 (.mv (.t p10)),
   .p p5 (.mv (.t p11)),
   .p p6 (.mv (.t p12))])
   .ret))
   [.t p4, .t p5, .t p6]
/- (*strings.Builder).WriteString -/
def a11 : AF :=
  .code [p0, p1] (.seq (.reg [.p p4 (.mv (.c (.int .i64 (.ofNat 0)))),
   .p p5 (.mv (.c (.nili)))])
   (.seq (.reg [.p p6 (.mv (.t p0)),
   .p p7 (.call 24 [(.t p6)])])
   (.seq (.reg [.p p8 (.mv (.t p0)),
   .p p9 (.mv (.t p0)),
   .p p10 (.nilck (.t p9)),
   .p p11 (.faddr 1 (.t p10)),
   .p p12 (.load1 (.t p11)),
   .p p13 (.mv (.t p1)),
   .p p14 (.append 5 1 1 (.t p12) (.t p13)),
   .p p15 (.nilck (.t p8)),
   .p p16 (.faddr 1 (.t p15)),
   .n (.store 1 (.t p16) (.t p14))])
   (.seq (.reg [.p p17 (.mv (.t p1)),
   .p p18 (.lenStr (.t p17)),
   .p p4 (.mv (.t p18)),
   .p p5 (.mv (.c (.nili)))])
   .ret))))
   [.t p4, .t p5]
/- strings.HasPrefix -/
def a12 : AF :=
  .code [p0, p1] (.seq (.reg [.p p4 (.mv (.c (.bool false)))])
   (.seq (.reg [.p p5 (.mv (.t p0)),
   .p p6 (.mv (.t p1)),
   .p p7 (.call 25 [(.t p5), (.t p6)]),
   .p p4 (.mv (.t p7))])
   .ret))
   [.t p4]
/- (*strings.Builder).WriteByte -/
def a13 : AF :=
  .code [p0, p1] (.seq (.reg [.p p4 (.mv (.c (.nili)))])
   (.seq (.reg [.p p5 (.mv (.t p0)),
   .p p6 (.call 24 [(.t p5)])])
   (.seq (.reg [.p p7 (.mv (.t p0)),
   .p p8 (.mv (.t p0)),
   .p p9 (.nilck (.t p8)),
   .p p10 (.faddr 1 (.t p9)),
   .p p11 (.load1 (.t p10)),
   .p p12 (.mv (.t p1)),
   .p p13 (.bslice 5 1 1 [([], 1, (.t p12))] []),
   .p p14 (.append 5 1 1 (.t p11) (.t p13)),
   .p p15 (.nilck (.t p7)),
   .p p16 (.faddr 1 (.t p15)),
   .n (.store 1 (.t p16) (.t p14))])
   (.seq (.reg [.p p4 (.mv (.c (.nili)))])
   .ret))))
   [.t p4]
/- bastion/expand.name -/
def a14 : AF :=
  .code [p0] (.seq (.reg [.p p2 (.mv (.c (.str 0 0))),
   .p p3 (.mv (.c (.int .i64 (.ofNat 0)))),
   .p p4 (.mv (.c (.bool false)))])
   (.seq (.reg [.p p5 (.mv (.c (.int .i64 (.ofNat 0))))])
   (.seq (.seq (.reg [.p p7 (.mv (.t p0)),
   .p p8 (.call 12 [(.t p7), (.c (.str 1 123))])])
   (.cond (.t p8) (.dreg [(.p p9 (.mv (.t p0)), 0), (.p p10 (.sliceStr (.t p9) (some (.c (.int .i64 (.ofNat 1)))) none), 1), (.p p5 (.mv (.c (.int .i64 (.ofNat 2)))), 0), (.p p0 (.mv (.t p10)), 7)]) .skip))
   (.seq (.reg [.p p11 (.mv (.t p0)),
   .p p12 (.call 26 [(.t p11)]),
   .p p6 (.mv (.t p12))])
   (.seq (.seq (.reg [.p p13 (.mv (.t p6)),
   .p p14 (.bin .eql (.t p13) (.c (.int .i64 (.ofNat 0)))),
   .p p15 (.mv (.t p14)),
   .g p16 (.mv (.t p6)) p15 false,
   .g p17 (.bin .gtr (.t p16) (.c (.int .i64 (.ofNat 24)))) p15 false,
   .p p18 (.pick (.t p15) (.c (.bool true)) (.t p17)),
   .p p19 (.mv (.t p18)),
   .g p20 (.mv (.t p5)) p19 false,
   .g p21 (.bin .gtr (.t p20) (.c (.int .i64 (.ofNat 0)))) p19 false,
   .g p22 (.mv (.t p21)) p19 false,
   .g p23 (.mv (.t p0)) p22 true,
   .g p24 (.mv (.t p6)) p22 true,
   .g p25 (.sliceStr (.t p23) (some (.t p24)) none) p22 true,
   .g p26 (.call 12 [(.t p25), (.c (.str 1 125))]) p22 true,
   .g p27 (.not (.t p26)) p22 true,
   .g p28 (.pick (.t p22) (.t p27) (.c (.bool false))) p19 false,
   .p p29 (.pick (.t p19) (.c (.bool true)) (.t p28))])
   (.cond (.t p29) (.seq (.reg [.p p2 (.mv (.c (.str 0 0))),
   .p p3 (.mv (.c (.int .i64 (.ofNat 0)))),
   .p p4 (.mv (.c (.bool false)))])
   .ret) .skip))
   (.seq (.reg [.p p30 (.mv (.t p0)),
   .p p31 (.mv (.t p6)),
   .p p32 (.sliceStr (.t p30) none (some (.t p31))),
   .p p33 (.mv (.t p6)),
   .p p34 (.mv (.t p5)),
   .p p35 (.bin .add (.t p33) (.t p34)),
   .p p2 (.mv (.t p32)),
   .p p3 (.mv (.t p35)),
   .p p4 (.mv (.c (.bool true)))])
   .ret))))))
   [.t p2, .t p3, .t p4]
/- (*strings.Builder).Len -/
def a15 : AF :=
  .code [p0] (.seq (.reg [.p p2 (.mv (.c (.int .i64 (.ofNat 0))))])
   (.seq (.reg [.p p3 (.mv (.t p0)),
   .p p4 (.nilck (.t p3)),
   .p p5 (.faddr 1 (.t p4)),
   .p p6 (.load1 (.t p5)),
   .p p7 (.lenSlc (.t p6)),
   .p p2 (.mv (.t p7))])
   .ret))
   [.t p2]
/- (*strings.Builder).String -/
def a16 : AF :=
  .code [p0] (.seq (.reg [.p p2 (.mv (.c (.str 0 0)))])
   (.seq (.dreg [(.p p3 (.mv (.t p0)), 0), (.p p4 (.nilck (.t p3)), 1), (.p p5 (.faddr 1 (.t p4)), 3), (.p p6 (.load1 (.t p5)), 7), (.p p7 (.usd (.t p6)), 15), (.p p8 (.mv (.t p0)), 0), (.p p9 (.nilck (.t p8)), 32), (.p p10 (.faddr 1 (.t p9)), 96), (.p p11 (.load1 (.t p10)), 224), (.p p12 (.lenSlc (.t p11)), 480), (.p p13 (.ustr 5 (.t p7) (.t p12)), 1023), (.p p2 (.mv (.t p13)), 2047)])
   .ret))
   [.t p2]
/- bastion/expand.taken -/
def a17 : AF :=
  .code [p0, p1] (.seq (.reg [.p p4 (.mv (.c (.nilp))),
   .p p5 (.alloc 32 [.str 0 0, .int .i64 (.ofNat 0)]),
   .p p6 (.mv (.c (.int .i64 (.ofNat 0))))])
   (.seq (.reg [.p p10 (.mv (.t p0)),
   .p p11 (.mkmap),
   .p p12 (.build [([], 1, (.t p10)), ([], 1, (.t p11))] [.int .i64 (.ofNat 0), .nils, .nils]),
   .p p13 (.box 73 (.t p12)),
   .p p7 (.mv (.t p13))])
   (.seq (.reg [.p p15 (.mv (.t p7)),
   .p p16 (.mv (.t p1)),
   .p p17 (.mv (.t p1)),
   .p p18 (.build [([], 1, (.t p17))] [.int .i64 (.ofNat 0)]),
   .p p19 (.call 27 [(.t p15), (.t p16), (.t p18)]),
   .p p14 (.mv (.t p19)),
   .p p20 (.extract 0 (.t p14)),
   .p p21 (.extract 1 (.t p14)),
   .p p8 (.alloc 32 [.str 0 0, .int .i64 (.ofNat 0)]),
   .n (.store 2 (.t p8) (.t p20)),
   .p p9 (.mv (.t p21))])
   (.seq (.dreg [(.p p22 (.mv (.t p7)), 0), (.p p23 (.loadn 2 (.t p8)), 0), (.p p24 (.mv (.t p9)), 0), (.p p4 (.mv (.t p22)), 1), (.n (.store 2 (.t p5) (.t p23)), 11), (.p p6 (.mv (.t p24)), 31)])
   .ret))))
   [.t p4, .cell p5 2, .t p6]
/- (*bastion/expand.all).sorted -/
def a18 : AF :=
  .code [p0] (.seq (.reg [.p p2 (.mv (.c (.nilm))),
   .p p3 (.mv (.c (.nils))),
   .p p4 (.alloc 32 [.str 0 0, .int .i64 (.ofNat 0)]),
   .p p5 (.mv (.c (.int .i64 (.ofNat 0))))])
   (.seq (.reg [.p p14 (.mkmap),
   .p p6 (.mv (.t p14))])
   (.seq (.reg [.p p15 (.mkmap),
   .p p7 (.mv (.t p15))])
   (.seq (.reg [.p p8 (.mv (.c (.nils)))])
   (.seq (.seq (.reg [.p p16 (.mv (.t p0)),
   .p p17 (.nilck (.t p16)),
   .p p18 (.faddr 4 (.t p17)),
   .p p19 (.load1 (.t p18)),
   .p p20 (.lenSlc (.t p19)),
   .p p21 (.mv (.c (.int .i64 (.ofNat 0))))])
   (.block 0 (.loop (.seq (.reg [.p p22 (.bin .lss (.t p21) (.t p20))])
   (.seq (.cond (.t p22) .skip (.exit 0))
   (.seq (.block 1 (.seq (.reg [.p p23 (.iaddrS 5 (.t p19) (.t p21)),
   .p p24 (.loadn 5 (.t p23)),
   .p p10 (.alloc 81 [.str 0 0, .int .i64 (.ofNat 0), .int .u8 (.ofNat 0), .str 0 0, .nils]),
   .n (.store 5 (.t p10) (.t p24))])
   (.seq (.reg [.p p25 (.faddr 0 (.t p10)),
   .p p26 (.load1 (.t p25)),
   .p p27 (.faddr 1 (.t p10)),
   .p p28 (.faddr 0 (.t p27)),
   .p p29 (.load1 (.t p28)),
   .p p30 (.build [([], 1, (.t p26)), ([], 1, (.t p29))] []),
   .p p11 (.alloc 32 [.str 0 0, .int .i64 (.ofNat 0)]),
   .n (.store 2 (.t p11) (.t p30))])
   (.seq (.seq (.reg [.p p31 (.faddr 1 (.t p10)),
   .p p32 (.faddr 1 (.t p31)),
   .p p33 (.load1 (.t p32)),
   .p p34 (.bin .eql (.t p33) (.c (.int .u8 (.ofNat 1))))])
   (.cond (.t p34) (.seq (.seq (.reg [.p p36 (.mv (.t p6)),
   .p p37 (.faddr 1 (.t p10)),
   .p p38 (.faddr 2 (.t p37)),
   .p p39 (.load1 (.t p38)),
   .p p40 (.lookup .str true (.agg [.str 0 0, .int .i64 (.ofNat 0), .int .u8 (.ofNat 0), .str 0 0, .nils]) (.t p36) (.t p39)),
   .p p35 (.mv (.t p40)),
   .p p41 (.extract 0 (.t p35)),
   .p p42 (.extract 1 (.t p35)),
   .p p12 (.alloc 81 [.str 0 0, .int .i64 (.ofNat 0), .int .u8 (.ofNat 0), .str 0 0, .nils]),
   .n (.store 5 (.t p12) (.t p41)),
   .p p13 (.mv (.t p42))])
   (.seq (.reg [.p p43 (.mv (.t p13))])
   (.cond (.t p43) (.seq (.dreg [(.p p44 (.loadn 2 (.t p11)), 0), (.p p2 (.mv (.c (.nilm))), 0), (.p p3 (.mv (.c (.nils))), 2), (.n (.store 2 (.t p4) (.t p44)), 7), (.p p5 (.mv (.c (.int .i64 (.ofNat 6)))), 15)])
   .ret) .skip)))
   (.reg [.p p45 (.mv (.t p6)),
   .p p46 (.faddr 1 (.t p10)),
   .p p47 (.faddr 2 (.t p46)),
   .p p48 (.load1 (.t p47)),
   .p p49 (.loadn 5 (.t p10)),
   .n (.insert .str (.t p45) (.t p48) (.t p49))])) (.seq (.seq (.reg [.p p50 (.mv (.t p7)),
   .p p51 (.faddr 1 (.t p10)),
   .p p52 (.faddr 2 (.t p51)),
   .p p53 (.load1 (.t p52)),
   .p p54 (.lookup .str false (.int .i64 (.ofNat 0)) (.t p50) (.t p53)),
   .p p55 (.bin .gtr (.t p54) (.c (.int .i64 (.ofNat 0))))])
   (.cond (.t p55) (.seq (.dreg [(.p p56 (.loadn 2 (.t p11)), 0), (.p p2 (.mv (.c (.nilm))), 0), (.p p3 (.mv (.c (.nils))), 2), (.n (.store 2 (.t p4) (.t p56)), 7), (.p p5 (.mv (.c (.int .i64 (.ofNat 6)))), 15)])
   .ret) .skip))
   (.seq (.reg [.p p57 (.mv (.t p7)),
   .p p58 (.faddr 1 (.t p10)),
   .p p59 (.faddr 2 (.t p58)),
   .p p60 (.load1 (.t p59)),
   .p p61 (.lookup .str false (.int .i64 (.ofNat 0)) (.t p57) (.t p60)),
   .p p62 (.bin .add (.t p61) (.c (.int .i64 (.ofNat 1)))),
   .n (.insert .str (.t p57) (.t p60) (.t p62))])
   (.reg [.p p63 (.mv (.t p8)),
   .p p64 (.loadn 5 (.t p10)),
   .p p65 (.bslice 81 1 5 [([], 5, (.t p64))] []),
   .p p66 (.append 81 5 72 (.t p63) (.t p65)),
   .p p8 (.mv (.t p66))])))))
   (.seq (.reg [.p p67 (.mv (.t p6)),
   .p p68 (.lenMap (.t p67)),
   .p p69 (.bin .gtr (.t p68) (.c (.int .i64 (.ofNat 24)))),
   .p p70 (.mv (.t p69)),
   .g p71 (.mv (.t p8)) p70 false,
   .g p72 (.lenSlc (.t p71)) p70 false,
   .g p73 (.bin .gtr (.t p72) (.c (.int .i64 (.ofNat 24)))) p70 false,
   .p p74 (.pick (.t p70) (.c (.bool true)) (.t p73))])
   (.cond (.t p74) (.seq (.dreg [(.p p75 (.loadn 2 (.t p11)), 0), (.p p2 (.mv (.c (.nilm))), 0), (.p p3 (.mv (.c (.nils))), 2), (.n (.store 2 (.t p4) (.t p75)), 7), (.p p5 (.mv (.c (.int .i64 (.ofNat 3)))), 15)])
   .ret) .skip))))))
   (.reg [.p p76 (.bin .add (.t p21) (.c (.int .i64 (.ofNat 1)))),
   .p p21 (.mv (.t p76))])))))))
   (.seq (.reg [.p p77 (.mv (.t p6)),
   .p p78 (.mv (.t p8)),
   .p p79 (.build [] [.str 0 0, .int .i64 (.ofNat 0)]),
   .p p2 (.mv (.t p77)),
   .p p3 (.mv (.t p78)),
   .n (.store 2 (.t p4) (.t p79)),
   .p p5 (.mv (.c (.int .i64 (.ofNat 0))))])
   .ret))))))
   [.t p2, .t p3, .cell p4 2, .t p5]
/- bastion/expand.set -/
def a19 : AF :=
  .code [p0, p1, p2] (.seq (.reg [.p p4 (.box 9 (.t p1)),
   .p p6 (.mv (.c (.nils)))])
   (.seq (.reg [.p p8 (.mv (.t p0)),
   .p p9 (.mkfn 29 [] [(.t p4)]),
   .p p10 (.call 28 [(.t p8), (.t p9)]),
   .p p7 (.mv (.t p10))])
   (.seq (.seq (.reg [.p p11 (.mv (.t p7)),
   .p p12 (.bin .lss (.t p11) (.c (.int .i64 (.ofNat 0))))])
   (.cond (.t p12) (.seq (.reg [.p p13 (.mv (.t p0)),
   .p p14 (.load1 (.t p4)),
   .p p15 (.mv (.t p2)),
   .p p16 (.build [([], 1, (.t p14)), ([], 1, (.t p15))] []),
   .p p17 (.bslice 29 1 2 [([], 2, (.t p16))] []),
   .p p18 (.append 29 2 32 (.t p13) (.t p17)),
   .p p6 (.mv (.t p18))])
   .ret) .skip))
   (.seq (.reg [.p p19 (.mv (.t p0)),
   .p p20 (.mv (.t p7)),
   .p p21 (.mv (.t p2)),
   .p p22 (.iaddrS 2 (.t p19) (.t p20)),
   .p p23 (.faddr 1 (.t p22)),
   .n (.store 1 (.t p23) (.t p21))])
   (.seq (.reg [.p p24 (.mv (.t p0)),
   .p p6 (.mv (.t p24))])
   .ret)))))
   [.t p6]
/- bastion/expand.vars -/
def a20 : AF :=
  .code [p0, p1, p2] (.seq (.reg [.p p6 (.mv (.c (.nils))),
   .p p7 (.alloc 32 [.str 0 0, .int .i64 (.ofNat 0)]),
   .p p8 (.mv (.c (.int .i64 (.ofNat 0))))])
   (.seq (.seq (.reg [.p p13 (.mv (.t p2)),
   .p p14 (.lenSlc (.t p13)),
   .p p15 (.mv (.c (.int .i64 (.ofNat 0))))])
   (.block 0 (.loop (.seq (.reg [.p p16 (.bin .lss (.t p15) (.t p14))])
   (.seq (.cond (.t p16) .skip (.exit 0))
   (.seq (.block 1 (.seq (.reg [.p p17 (.iaddrS 3 (.t p13) (.t p15)),
   .p p18 (.loadn 3 (.t p17)),
   .p p10 (.alloc 42 [.int .i64 (.ofNat 0), .str 0 0, .nils]),
   .n (.store 3 (.t p10) (.t p18))])
   (.seq (.seq (.reg [.p p19 (.faddr 1 (.t p10)),
   .p p20 (.load1 (.t p19)),
   .p p21 (.bin .neq (.t p20) (.c (.str 3 7496054)))])
   (.cond (.t p21) (.exit 1) .skip))
   (.seq (.reg [.p p23 (.faddr 2 (.t p10)),
   .p p24 (.load1 (.t p23)),
   .p p25 (.iaddrS 1 (.t p24) (.c (.int .i64 (.ofNat 1)))),
   .p p26 (.load1 (.t p25)),
   .p p27 (.mv (.t p0)),
   .p p28 (.call 5 [(.t p26), (.t p27)]),
   .p p22 (.mv (.t p28)),
   .p p29 (.extract 0 (.t p22)),
   .p p30 (.extract 1 (.t p22)),
   .p p11 (.mv (.t p29)),
   .p p12 (.mv (.t p30))])
   (.seq (.seq (.reg [.p p31 (.mv (.t p12)),
   .p p32 (.bin .neq (.t p31) (.c (.int .i64 (.ofNat 0))))])
   (.cond (.t p32) (.seq (.dreg [(.p p33 (.mv (.t p1)), 0), (.p p34 (.faddr 0 (.t p10)), 0), (.p p35 (.load1 (.t p34)), 2), (.p p36 (.build [([], 1, (.t p33)), ([], 1, (.t p35))] []), 7), (.p p37 (.mv (.t p12)), 0), (.p p6 (.mv (.c (.nils))), 0), (.n (.store 2 (.t p7) (.t p36)), 47), (.p p8 (.mv (.t p37)), 127)])
   .ret) .skip))
   (.reg [.p p38 (.mv (.t p0)),
   .p p39 (.faddr 2 (.t p10)),
   .p p40 (.load1 (.t p39)),
   .p p41 (.iaddrS 1 (.t p40) (.c (.int .i64 (.ofNat 0)))),
   .p p42 (.load1 (.t p41)),
   .p p43 (.mv (.t p11)),
   .p p44 (.call 19 [(.t p38), (.t p42), (.t p43)]),
   .p p0 (.mv (.t p44))]))))))
   (.reg [.p p45 (.bin .add (.t p15) (.c (.int .i64 (.ofNat 1)))),
   .p p15 (.mv (.t p45))])))))))
   (.seq (.reg [.p p46 (.mv (.t p0)),
   .p p47 (.build [] [.str 0 0, .int .i64 (.ofNat 0)]),
   .p p6 (.mv (.t p46)),
   .n (.store 2 (.t p7) (.t p47)),
   .p p8 (.mv (.c (.int .i64 (.ofNat 0))))])
   .ret)))
   [.t p6, .cell p7 2, .t p8]
/- slices.Clone[[]bastion/api.Var,bastion/api.Var] -/
def a21 : AF :=
  .code [p0] (.seq (.reg [.p p2 (.mv (.c (.nils)))])
   (.seq (.seq (.reg [.p p3 (.mv (.t p0)),
   .p p4 (.eq false .slc (.t p3) (.c (.nils)))])
   (.cond (.t p4) (.seq (.reg [.p p2 (.mv (.c (.nils)))])
   .ret) .skip))
   (.seq (.reg [.p p5 (.bslice 29 0 2 [] []),
   .p p6 (.mv (.t p0)),
   .p p7 (.append 29 2 32 (.t p5) (.t p6)),
   .p p2 (.mv (.t p7))])
   .ret)))
   [.t p2]
/- bastion/expand.merged -/
def a22 : AF :=
  .code [p0, p1] (.seq (.reg [.p p4 (.mv (.c (.nils)))])
   (.seq (.reg [.p p5 (.mv (.c (.nils)))])
   (.seq (.seq (.reg [.p p10 (.mv (.t p0)),
   .p p11 (.lenSlc (.t p10)),
   .p p12 (.mv (.c (.int .i64 (.ofNat 0))))])
   (.block 0 (.loop (.seq (.reg [.p p13 (.bin .lss (.t p12) (.t p11))])
   (.seq (.cond (.t p13) .skip (.exit 0))
   (.seq (.block 1 (.seq (.reg [.p p14 (.iaddrS 3 (.t p10) (.t p12)),
   .p p15 (.loadn 3 (.t p14)),
   .p p7 (.alloc 42 [.int .i64 (.ofNat 0), .str 0 0, .nils]),
   .n (.store 3 (.t p7) (.t p15))])
   (.seq (.reg [.p p16 (.faddr 1 (.t p7)),
   .p p17 (.load1 (.t p16)),
   .p p18 (.bin .neq (.t p17) (.c (.str 3 7496054))),
   .p p19 (.mv (.t p18)),
   .g p20 (.mv (.t p1)) p19 true,
   .g p21 (.mkfn 31 [] [(.t p7)]) p19 true,
   .g p22 (.call 30 [(.t p20), (.t p21)]) p19 true,
   .g p23 (.not (.t p22)) p19 true,
   .p p24 (.pick (.t p19) (.t p23) (.c (.bool false)))])
   (.cond (.t p24) (.reg [.p p25 (.mv (.t p5)),
   .p p26 (.loadn 3 (.t p7)),
   .p p27 (.call 33 [(.t p26)]),
   .p p28 (.bslice 42 1 3 [([], 3, (.t p27))] []),
   .p p29 (.append 42 3 48 (.t p25) (.t p28)),
   .p p5 (.mv (.t p29))]) .skip))))
   (.reg [.p p30 (.bin .add (.t p12) (.c (.int .i64 (.ofNat 1)))),
   .p p12 (.mv (.t p30))])))))))
   (.seq (.seq (.reg [.p p31 (.mv (.t p1)),
   .p p32 (.lenSlc (.t p31)),
   .p p33 (.mv (.c (.int .i64 (.ofNat 0))))])
   (.block 2 (.loop (.seq (.reg [.p p34 (.bin .lss (.t p33) (.t p32))])
   (.seq (.cond (.t p34) .skip (.exit 2))
   (.seq (.block 3 (.seq (.reg [.p p35 (.iaddrS 3 (.t p31) (.t p33)),
   .p p36 (.loadn 3 (.t p35)),
   .p p9 (.alloc 42 [.int .i64 (.ofNat 0), .str 0 0, .nils]),
   .n (.store 3 (.t p9) (.t p36))])
   (.seq (.reg [.p p37 (.faddr 1 (.t p9)),
   .p p38 (.load1 (.t p37)),
   .p p39 (.bin .neq (.t p38) (.c (.str 3 7496054))),
   .p p40 (.mv (.t p39)),
   .g p41 (.faddr 1 (.t p9)) p40 true,
   .g p42 (.load1 (.t p41)) p40 true,
   .g p43 (.bin .neq (.t p42) (.c (.str 3 6648693))) p40 true,
   .p p44 (.pick (.t p40) (.t p43) (.c (.bool false)))])
   (.cond (.t p44) (.reg [.p p45 (.mv (.t p5)),
   .p p46 (.loadn 3 (.t p9)),
   .p p47 (.call 33 [(.t p46)]),
   .p p48 (.bslice 42 1 3 [([], 3, (.t p47))] []),
   .p p49 (.append 42 3 48 (.t p45) (.t p48)),
   .p p5 (.mv (.t p49))]) .skip))))
   (.reg [.p p50 (.bin .add (.t p33) (.c (.int .i64 (.ofNat 1)))),
   .p p33 (.mv (.t p50))])))))))
   (.seq (.reg [.p p51 (.mv (.t p5)),
   .p p4 (.mv (.t p51))])
   .ret)))))
   [.t p4]
/- internal/stringslite.Cut -/
def a23 : AF :=
  .code [p0, p1] (.seq (.reg [.p p4 (.mv (.c (.str 0 0))),
   .p p5 (.mv (.c (.str 0 0))),
   .p p6 (.mv (.c (.bool false)))])
   (.seq (.seq (.reg [.p p8 (.mv (.t p0)),
   .p p9 (.mv (.t p1)),
   .p p10 (.call 34 [(.t p8), (.t p9)]),
   .p p7 (.mv (.t p10))])
   (.seq (.reg [.p p11 (.mv (.t p7)),
   .p p12 (.bin .geq (.t p11) (.c (.int .i64 (.ofNat 0))))])
   (.cond (.t p12) (.seq (.dreg [(.p p13 (.mv (.t p0)), 0), (.p p14 (.mv (.t p7)), 0), (.p p15 (.sliceStr (.t p13) none (some (.t p14))), 3), (.p p16 (.mv (.t p0)), 0), (.p p17 (.mv (.t p7)), 0), (.p p18 (.mv (.t p1)), 0), (.p p19 (.lenStr (.t p18)), 32), (.p p20 (.bin .add (.t p17) (.t p19)), 112), (.p p21 (.sliceStr (.t p16) (some (.t p20)) none), 248), (.p p4 (.mv (.t p15)), 7), (.p p5 (.mv (.t p21)), 1023), (.p p6 (.mv (.c (.bool true))), 2047)])
   .ret) .skip)))
   (.seq (.reg [.p p22 (.mv (.t p0)),
   .p p4 (.mv (.t p22)),
   .p p5 (.mv (.c (.str 0 0))),
   .p p6 (.mv (.c (.bool false)))])
   .ret)))
   [.t p4, .t p5, .t p6]
/- (*strings.Builder).copyCheck -/
def a24 : AF :=
  .code [p0] (.seq (.reg [.p p2 (.mv (.t p0)),
   .p p3 (.nilck (.t p2)),
   .p p4 (.faddr 0 (.t p3)),
   .p p5 (.load1 (.t p4)),
   .p p6 (.eq false .ptr (.t p5) (.c (.nilp)))])
   (.cond (.t p6) (.reg [.p p7 (.mv (.t p0)),
   .p p8 (.mv (.t p0)),
   .p p9 (.convU (.t p8)),
   .p p10 (.call 35 [(.t p9)]),
   .p p11 (.convP [(48, 0, 2)] (.t p10)),
   .p p12 (.nilck (.t p7)),
   .p p13 (.faddr 0 (.t p12)),
   .n (.store 1 (.t p13) (.t p11))]) (.seq (.reg [.p p14 (.mv (.t p0)),
   .p p15 (.nilck (.t p14)),
   .p p16 (.faddr 0 (.t p15)),
   .p p17 (.load1 (.t p16)),
   .p p18 (.mv (.t p0)),
   .p p19 (.eq true .ptr (.t p17) (.t p18))])
   (.cond (.t p19) .stop .skip))))
   []
/- internal/stringslite.HasPrefix -/
def a25 : AF :=
  .code [p0, p1] (.seq (.reg [.p p4 (.mv (.c (.bool false)))])
   (.seq (.reg [.p p5 (.mv (.t p0)),
   .p p6 (.lenStr (.t p5)),
   .p p7 (.mv (.t p1)),
   .p p8 (.lenStr (.t p7)),
   .p p9 (.bin .geq (.t p6) (.t p8)),
   .p p10 (.mv (.t p9)),
   .g p11 (.mv (.t p0)) p10 true,
   .g p12 (.mv (.t p1)) p10 true,
   .g p13 (.lenStr (.t p12)) p10 true,
   .g p14 (.sliceStr (.t p11) none (some (.t p13))) p10 true,
   .g p15 (.mv (.t p1)) p10 true,
   .g p16 (.bin .eql (.t p14) (.t p15)) p10 true,
   .p p17 (.pick (.t p10) (.t p16) (.c (.bool false))),
   .p p4 (.mv (.t p17))])
   .ret))
   [.t p4]
/- bastion/expand.run -/
def a26 : AF :=
  .code [p0] (.seq (.reg [.p p2 (.mv (.c (.int .i64 (.ofNat 0))))])
   (.seq (.seq (.reg [.p p4 (.mv (.t p0)),
   .p p5 (.bin .eql (.t p4) (.c (.str 0 0))),
   .p p6 (.mv (.t p5)),
   .g p7 (.mv (.t p0)) p6 false,
   .g p8 (.idxStr (.t p7) (.c (.int .i64 (.ofNat 0)))) p6 false,
   .g p9 (.bin .lss (.t p8) (.c (.int .u8 (.ofNat 97)))) p6 false,
   .p p10 (.pick (.t p6) (.c (.bool true)) (.t p9)),
   .p p11 (.mv (.t p10)),
   .g p12 (.mv (.t p0)) p11 false,
   .g p13 (.idxStr (.t p12) (.c (.int .i64 (.ofNat 0)))) p11 false,
   .g p14 (.bin .gtr (.t p13) (.c (.int .u8 (.ofNat 122)))) p11 false,
   .p p15 (.pick (.t p11) (.c (.bool true)) (.t p14))])
   (.cond (.t p15) (.seq (.reg [.p p2 (.mv (.c (.int .i64 (.ofNat 0))))])
   .ret) .skip))
   (.seq (.reg [.p p3 (.mv (.c (.int .i64 (.ofNat 1))))])
   (.seq (.block 0 (.loop (.seq (.seq (.reg [.p p16 (.mv (.t p3)),
   .p p17 (.mv (.t p0)),
   .p p18 (.lenStr (.t p17)),
   .p p19 (.bin .lss (.t p16) (.t p18)),
   .p p20 (.mv (.t p19)),
   .g p21 (.mv (.t p0)) p20 true,
   .g p22 (.mv (.t p3)) p20 true,
   .g p23 (.idxStr (.t p21) (.t p22)) p20 true,
   .g p24 (.bin .geq (.t p23) (.c (.int .u8 (.ofNat 97)))) p20 true,
   .g p25 (.mv (.t p24)) p20 true,
   .g p26 (.mv (.t p0)) p25 true,
   .g p27 (.mv (.t p3)) p25 true,
   .g p28 (.idxStr (.t p26) (.t p27)) p25 true,
   .g p29 (.bin .leq (.t p28) (.c (.int .u8 (.ofNat 122)))) p25 true,
   .g p30 (.pick (.t p25) (.t p29) (.c (.bool false))) p20 true,
   .g p31 (.mv (.t p30)) p20 true,
   .g p32 (.mv (.t p0)) p31 false,
   .g p33 (.mv (.t p3)) p31 false,
   .g p34 (.idxStr (.t p32) (.t p33)) p31 false,
   .g p35 (.bin .geq (.t p34) (.c (.int .u8 (.ofNat 48)))) p31 false,
   .g p36 (.mv (.t p35)) p31 false,
   .g p37 (.mv (.t p0)) p36 true,
   .g p38 (.mv (.t p3)) p36 true,
   .g p39 (.idxStr (.t p37) (.t p38)) p36 true,
   .g p40 (.bin .leq (.t p39) (.c (.int .u8 (.ofNat 57)))) p36 true,
   .g p41 (.pick (.t p36) (.t p40) (.c (.bool false))) p31 false,
   .g p42 (.pick (.t p31) (.c (.bool true)) (.t p41)) p20 true,
   .g p43 (.mv (.t p42)) p20 true,
   .g p44 (.mv (.t p0)) p43 false,
   .g p45 (.mv (.t p3)) p43 false,
   .g p46 (.idxStr (.t p44) (.t p45)) p43 false,
   .g p47 (.bin .eql (.t p46) (.c (.int .u8 (.ofNat 45)))) p43 false,
   .g p48 (.pick (.t p43) (.c (.bool true)) (.t p47)) p20 true,
   .g p49 (.mv (.t p48)) p20 true,
   .g p50 (.mv (.t p0)) p49 false,
   .g p51 (.mv (.t p3)) p49 false,
   .g p52 (.idxStr (.t p50) (.t p51)) p49 false,
   .g p53 (.bin .eql (.t p52) (.c (.int .u8 (.ofNat 95)))) p49 false,
   .g p54 (.pick (.t p49) (.c (.bool true)) (.t p53)) p20 true,
   .p p55 (.pick (.t p20) (.t p54) (.c (.bool false)))])
   (.cond (.t p55) .skip (.exit 0)))
   (.block 1 (.reg [.p p56 (.mv (.t p3)),
   .p p57 (.bin .add (.t p56) (.c (.int .i64 (.ofNat 1)))),
   .p p3 (.mv (.t p57))])))))
   (.seq (.reg [.p p58 (.mv (.t p3)),
   .p p2 (.mv (.t p58))])
   .ret)))))
   [.t p2]
/- (*bastion/expand.all).take -/
def a27 : AF :=
  .code [p0, p1, p2] (.seq (.reg [.p p4 (.box 9 (.t p1)),
   .p p5 (.box 32 (.t p2)),
   .p p6 (.alloc 32 [.str 0 0, .int .i64 (.ofNat 0)]),
   .p p7 (.mv (.c (.int .i64 (.ofNat 0))))])
   (.seq (.reg [.p p18 (.mv (.t p0)),
   .p p19 (.nilck (.t p18)),
   .p p20 (.faddr 0 (.t p19)),
   .p p21 (.load1 (.t p20)),
   .p p22 (.mkfn 37 [] [(.t p4)]),
   .p p23 (.call 36 [(.t p21), (.t p22)]),
   .p p8 (.mv (.t p23))])
   (.seq (.block 0 (.seq (.reg [.p p25 (.mv (.t p8)),
   .p p26 (.bin .lss (.t p25) (.c (.int .i64 (.ofNat 0)))),
   .p p24 (.mv (.t p26))])
   (.cond (.t p24) (.seq (.reg [.p p27 (.loadn 2 (.t p5)),
   .n (.store 2 (.t p6) (.t p27)),
   .p p7 (.mv (.c (.int .i64 (.ofNat 5))))])
   .ret) (.seq (.dreg [(.p p29 (.mv (.t p0)), 0), (.p p30 (.nilck (.t p29)), 1), (.p p31 (.faddr 1 (.t p30)), 3), (.p p32 (.load1 (.t p31)), 7), (.p p33 (.load1 (.t p4)), 0), (.p p34 (.lookup .str false (.int .i64 (.ofNat 0)) (.t p32) (.t p33)), 31), (.p p35 (.bin .eql (.t p34) (.c (.int .i64 (.ofNat 1)))), 63), (.p p28 (.mv (.t p35)), 127)])
   (.cond (.t p28) (.seq (.reg [.p p36 (.loadn 2 (.t p5)),
   .n (.store 2 (.t p6) (.t p36)),
   .p p7 (.mv (.c (.int .i64 (.ofNat 64))))])
   .ret) (.seq (.dreg [(.p p38 (.mv (.t p0)), 0), (.p p39 (.nilck (.t p38)), 1), (.p p40 (.faddr 1 (.t p39)), 3), (.p p41 (.load1 (.t p40)), 7), (.p p42 (.load1 (.t p4)), 0), (.p p43 (.lookup .str false (.int .i64 (.ofNat 0)) (.t p41) (.t p42)), 31), (.p p44 (.bin .eql (.t p43) (.c (.int .i64 (.ofNat 2)))), 63), (.p p37 (.mv (.t p44)), 127)])
   (.cond (.t p37) (.seq (.reg [.p p45 (.build [] [.str 0 0, .int .i64 (.ofNat 0)]),
   .n (.store 2 (.t p6) (.t p45)),
   .p p7 (.mv (.c (.int .i64 (.ofNat 0))))])
   .ret) (.seq (.reg [.p p47 (.mv (.t p0)),
   .p p48 (.nilck (.t p47)),
   .p p49 (.faddr 2 (.t p48)),
   .p p50 (.load1 (.t p49)),
   .p p51 (.bin .eql (.t p50) (.c (.int .i64 (.ofNat 8)))),
   .p p46 (.mv (.t p51))])
   (.cond (.t p46) (.seq (.reg [.p p52 (.loadn 2 (.t p5)),
   .n (.store 2 (.t p6) (.t p52)),
   .p p7 (.mv (.c (.int .i64 (.ofNat 65))))])
   .ret) .skip)))))))))
   (.seq (.reg [.p p54 (.mv (.t p0)),
   .p p55 (.nilck (.t p54)),
   .p p56 (.faddr 0 (.t p55)),
   .p p57 (.load1 (.t p56)),
   .p p58 (.mv (.t p8)),
   .p p59 (.iaddrS 2 (.t p57) (.t p58)),
   .p p60 (.faddr 1 (.t p59)),
   .p p61 (.load1 (.t p60)),
   .p p62 (.call 38 [(.t p61)]),
   .p p53 (.mv (.t p62)),
   .p p63 (.extract 0 (.t p53)),
   .p p64 (.extract 1 (.t p53)),
   .p p65 (.extract 2 (.t p53)),
   .p p9 (.alloc 104 [.nils, .nils]),
   .n (.store 2 (.t p9) (.t p63)),
   .p p10 (.mv (.t p64)),
   .p p11 (.mv (.t p65))])
   (.seq (.seq (.reg [.p p66 (.mv (.t p11)),
   .p p67 (.bin .neq (.t p66) (.c (.int .i64 (.ofNat 0))))])
   (.cond (.t p67) (.seq (.reg [.p p68 (.load1 (.t p4)),
   .p p69 (.mv (.t p10)),
   .p p70 (.build [([], 1, (.t p68)), ([], 1, (.t p69))] []),
   .p p71 (.mv (.t p11)),
   .n (.store 2 (.t p6) (.t p70)),
   .p p7 (.mv (.t p71))])
   .ret) .skip))
   (.seq (.dreg [(.p p72 (.mv (.t p0)), 0), (.p p73 (.nilck (.t p72)), 1), (.p p74 (.faddr 1 (.t p73)), 3), (.p p75 (.load1 (.t p74)), 7), (.p p76 (.load1 (.t p4)), 0), (.n (.insert .str (.t p75) (.t p76) (.c (.int .i64 (.ofNat 1)))), 31)])
   (.seq (.reg [.p p77 (.mv (.t p0)),
   .p p78 (.nilck (.t p77)),
   .p p79 (.faddr 2 (.t p78)),
   .p p80 (.load1 (.t p79)),
   .p p81 (.bin .add (.t p80) (.c (.int .i64 (.ofNat 1)))),
   .p p82 (.nilck (.t p77)),
   .p p83 (.faddr 2 (.t p82)),
   .n (.store 1 (.t p83) (.t p81))])
   (.seq (.seq (.reg [.p p84 (.faddr 0 (.t p9)),
   .p p85 (.load1 (.t p84)),
   .p p86 (.lenSlc (.t p85)),
   .p p87 (.mv (.c (.int .i64 (.ofNat 0))))])
   (.block 1 (.loop (.seq (.reg [.p p88 (.bin .lss (.t p87) (.t p86))])
   (.seq (.cond (.t p88) .skip (.exit 1))
   (.seq (.block 2 (.seq (.reg [.p p89 (.iaddrS 3 (.t p85) (.t p87)),
   .p p90 (.loadn 3 (.t p89)),
   .p p13 (.alloc 42 [.int .i64 (.ofNat 0), .str 0 0, .nils]),
   .n (.store 3 (.t p13) (.t p90))])
   (.seq (.seq (.reg [.p p91 (.faddr 1 (.t p13)),
   .p p92 (.load1 (.t p91)),
   .p p93 (.bin .neq (.t p92) (.c (.str 7 28539428140183145)))])
   (.cond (.t p93) (.seq (.dreg [(.p p94 (.mv (.t p0)), 0), (.p p95 (.mv (.t p0)), 0), (.p p96 (.nilck (.t p95)), 2), (.p p97 (.faddr 3 (.t p96)), 6), (.p p98 (.load1 (.t p97)), 14), (.p p99 (.load1 (.t p4)), 0), (.p p100 (.loadn 3 (.t p13)), 0), (.p p101 (.build [([], 1, (.t p99)), ([], 3, (.t p100))] []), 96), (.p p102 (.bslice 75 1 4 [([], 4, (.t p101))] []), 224), (.p p103 (.append 75 4 64 (.t p98) (.t p102)), 510), (.p p104 (.nilck (.t p94)), 1023), (.p p105 (.faddr 3 (.t p104)), 2047), (.n (.store 1 (.t p105) (.t p103)), 4095)])
   (.exit 2)) .skip))
   (.seq (.dreg [(.p p107 (.mv (.t p0)), 0), (.p p108 (.faddr 2 (.t p13)), 0), (.p p109 (.load1 (.t p108)), 2), (.p p110 (.iaddrS 1 (.t p109) (.c (.int .i64 (.ofNat 0)))), 6), (.p p111 (.load1 (.t p110)), 14), (.p p112 (.load1 (.t p4)), 0), (.p p113 (.faddr 0 (.t p13)), 0), (.p p114 (.load1 (.t p113)), 64), (.p p115 (.build [([], 1, (.t p112)), ([], 1, (.t p114))] []), 224), (.p p116 (.call 27 [(.t p107), (.t p111), (.t p115)]), 511), (.p p106 (.mv (.t p116)), 1023), (.p p117 (.extract 0 (.t p106)), 2047), (.p p118 (.extract 1 (.t p106)), 2047), (.p p14 (.alloc 32 [.str 0 0, .int .i64 (.ofNat 0)]), 0), (.n (.store 2 (.t p14) (.t p117)), 12287), (.p p15 (.mv (.t p118)), 32767)])
   (.seq (.reg [.p p119 (.mv (.t p15)),
   .p p120 (.bin .neq (.t p119) (.c (.int .i64 (.ofNat 0))))])
   (.cond (.t p120) (.seq (.reg [.p p121 (.loadn 2 (.t p14)),
   .p p122 (.mv (.t p15)),
   .n (.store 2 (.t p6) (.t p121)),
   .p p7 (.mv (.t p122))])
   .ret) .skip))))))
   (.reg [.p p123 (.bin .add (.t p87) (.c (.int .i64 (.ofNat 1)))),
   .p p87 (.mv (.t p123))])))))))
   (.seq (.seq (.reg [.p p124 (.faddr 1 (.t p9)),
   .p p125 (.load1 (.t p124)),
   .p p126 (.lenSlc (.t p125)),
   .p p127 (.mv (.c (.int .i64 (.ofNat 0))))])
   (.block 3 (.loop (.seq (.reg [.p p128 (.bin .lss (.t p127) (.t p126))])
   (.seq (.cond (.t p128) .skip (.exit 3))
   (.seq (.block 4 (.seq (.reg [.p p129 (.iaddrS 4 (.t p125) (.t p127)),
   .p p130 (.loadn 4 (.t p129)),
   .p p17 (.alloc 79 [.int .i64 (.ofNat 0), .int .u8 (.ofNat 0), .str 0 0, .nils]),
   .n (.store 4 (.t p17) (.t p130))])
   (.dreg [(.p p131 (.mv (.t p0)), 0), (.p p132 (.mv (.t p0)), 0), (.p p133 (.nilck (.t p132)), 2), (.p p134 (.faddr 4 (.t p133)), 6), (.p p135 (.load1 (.t p134)), 14), (.p p136 (.load1 (.t p4)), 0), (.p p137 (.loadn 4 (.t p17)), 0), (.p p138 (.build [([], 1, (.t p136)), ([], 4, (.t p137))] []), 96), (.p p139 (.bslice 81 1 5 [([], 5, (.t p138))] []), 224), (.p p140 (.append 81 5 72 (.t p135) (.t p139)), 510), (.p p141 (.nilck (.t p131)), 1023), (.p p142 (.faddr 4 (.t p141)), 2047), (.n (.store 1 (.t p142) (.t p140)), 4095)])))
   (.reg [.p p143 (.bin .add (.t p127) (.c (.int .i64 (.ofNat 1)))),
   .p p127 (.mv (.t p143))])))))))
   (.seq (.reg [.p p144 (.mv (.t p0)),
   .p p145 (.nilck (.t p144)),
   .p p146 (.faddr 2 (.t p145)),
   .p p147 (.load1 (.t p146)),
   .p p148 (.bin .sub (.t p147) (.c (.int .i64 (.ofNat 1)))),
   .p p149 (.nilck (.t p144)),
   .p p150 (.faddr 2 (.t p149)),
   .n (.store 1 (.t p150) (.t p148))])
   (.seq (.dreg [(.p p151 (.mv (.t p0)), 0), (.p p152 (.nilck (.t p151)), 1), (.p p153 (.faddr 1 (.t p152)), 3), (.p p154 (.load1 (.t p153)), 7), (.p p155 (.load1 (.t p4)), 0), (.n (.insert .str (.t p154) (.t p155) (.c (.int .i64 (.ofNat 2)))), 31)])
   (.seq (.reg [.p p156 (.build [] [.str 0 0, .int .i64 (.ofNat 0)]),
   .n (.store 2 (.t p6) (.t p156)),
   .p p7 (.mv (.c (.int .i64 (.ofNat 0))))])
   .ret))))))))))))
   [.cell p6 2, .t p7]
/- slices.IndexFunc[[]bastion/api.Var,bastion/api.Var] -/
def a28 : AF :=
  .code [p0, p1] (.seq (.reg [.p p4 (.mv (.c (.int .i64 (.ofNat 0))))])
   (.seq (.seq (.reg [.p p6 (.mv (.t p0)),
   .p p7 (.lenSlc (.t p6)),
   .p p8 (.mv (.c (.int .i64 (.ofNat 0))))])
   (.block 0 (.loop (.seq (.reg [.p p9 (.bin .lss (.t p8) (.t p7))])
   (.seq (.cond (.t p9) .skip (.exit 0))
   (.seq (.block 1 (.seq (.reg [.p p10 (.mv (.t p8)),
   .p p5 (.mv (.t p10))])
   (.seq (.reg [.p p11 (.mv (.t p1)),
   .p p12 (.mv (.t p0)),
   .p p13 (.mv (.t p5)),
   .p p14 (.iaddrS 2 (.t p12) (.t p13)),
   .p p15 (.loadn 2 (.t p14)),
   .p p16 (.callv (.t p11) [(.t p15)])])
   (.cond (.t p16) (.seq (.reg [.p p17 (.mv (.t p5)),
   .p p4 (.mv (.t p17))])
   .ret) .skip))))
   (.reg [.p p18 (.bin .add (.t p8) (.c (.int .i64 (.ofNat 1)))),
   .p p8 (.mv (.t p18))])))))))
   (.seq (.reg [.p p4 (.mv (.c (.int .i64 (.negSucc 0))))])
   .ret)))
   [.t p4]
/- bastion/expand.set$1 -/
def a29 : AF :=
  .code [p0, p1] (.seq (.reg [.p p2 (.box 29 (.t p0)),
   .p p3 (.mv (.c (.bool false)))])
   (.seq (.reg [.p p4 (.faddr 0 (.t p2)),
   .p p5 (.load1 (.t p4)),
   .p p6 (.load1 (.t p1)),
   .p p7 (.bin .eql (.t p5) (.t p6)),
   .p p3 (.mv (.t p7))])
   .ret))
   [.t p3]
/- slices.ContainsFunc[[]bastion/desc.Item,bastion/desc.Item] -/
def a30 : AF :=
  .code [p0, p1] (.seq (.reg [.p p4 (.mv (.c (.bool false)))])
   (.seq (.reg [.p p5 (.mv (.t p0)),
   .p p6 (.mv (.t p1)),
   .p p7 (.call 39 [(.t p5), (.t p6)]),
   .p p8 (.bin .geq (.t p7) (.c (.int .i64 (.ofNat 0)))),
   .p p4 (.mv (.t p8))])
   .ret))
   [.t p4]
/- bastion/expand.merged$1 -/
def a31 : AF :=
  .code [p0, p1] (.seq (.reg [.p p2 (.box 42 (.t p0)),
   .p p3 (.mv (.c (.bool false)))])
   (.seq (.reg [.p p4 (.loadn 3 (.t p1)),
   .p p5 (.loadn 3 (.t p2)),
   .p p6 (.call 32 [(.t p4), (.t p5)]),
   .p p3 (.mv (.t p6))])
   .ret))
   [.t p3]
/- bastion/expand.once -/
def a32 : AF :=
  .code [p0, p1] (.seq (.reg [.p p2 (.box 42 (.t p0)),
   .p p3 (.box 42 (.t p1)),
   .p p4 (.mv (.c (.bool false)))])
   (.seq (.block 0 (.seq (.reg [.p p6 (.faddr 1 (.t p2)),
   .p p7 (.load1 (.t p6)),
   .p p8 (.faddr 1 (.t p3)),
   .p p9 (.load1 (.t p8)),
   .p p10 (.bin .neq (.t p7) (.t p9)),
   .p p5 (.mv (.t p10))])
   (.cond (.t p5) (.seq (.reg [.p p4 (.mv (.c (.bool false)))])
   .ret) (.seq (.reg [.p p12 (.faddr 1 (.t p2)),
   .p p13 (.load1 (.t p12)),
   .p p14 (.bin .eql (.t p13) (.c (.str 4 1936291937))),
   .p p11 (.mv (.t p14))])
   (.cond (.t p11) (.seq (.dreg [(.p p15 (.faddr 2 (.t p2)), 0), (.p p16 (.load1 (.t p15)), 1), (.p p17 (.iaddrS 1 (.t p16) (.c (.int .i64 (.ofNat 0)))), 3), (.p p18 (.load1 (.t p17)), 7), (.p p19 (.faddr 2 (.t p3)), 0), (.p p20 (.load1 (.t p19)), 16), (.p p21 (.iaddrS 1 (.t p20) (.c (.int .i64 (.ofNat 0)))), 48), (.p p22 (.load1 (.t p21)), 112), (.p p23 (.bin .eql (.t p18) (.t p22)), 255), (.p p4 (.mv (.t p23)), 511)])
   .ret) .skip)))))
   (.seq (.reg [.p p24 (.bslice 9 4 1 [([], 1, (.c (.str 4 1852139639))), ([], 1, (.c (.str 5 495622648436))), ([], 1, (.c (.str 5 499984984428))), ([], 1, (.c (.str 6 119165837795693)))] []),
   .p p25 (.faddr 1 (.t p2)),
   .p p26 (.load1 (.t p25)),
   .p p27 (.call 40 [(.t p24), (.t p26)]),
   .p p4 (.mv (.t p27))])
   .ret)))
   [.t p4]
/- bastion/expand.own -/
def a33 : AF :=
  .code [p0] (.seq (.reg [.p p1 (.box 42 (.t p0)),
   .p p2 (.alloc 42 [.int .i64 (.ofNat 0), .str 0 0, .nils])])
   (.seq (.reg [.p p3 (.faddr 2 (.t p1)),
   .p p4 (.load1 (.t p3)),
   .p p5 (.call 41 [(.t p4)]),
   .p p6 (.faddr 2 (.t p1)),
   .n (.store 1 (.t p6) (.t p5))])
   (.seq (.reg [.p p7 (.loadn 3 (.t p1)),
   .n (.store 3 (.t p2) (.t p7))])
   .ret)))
   [.cell p2 3]
/- internal/stringslite.Index -/
def a34 : AF :=
  .code [p0, p1] (.seq (.reg [.p p4 (.mv (.c (.int .i64 (.ofNat 0))))])
   (.seq (.reg [.p p14 (.mv (.t p1)),
   .p p15 (.lenStr (.t p14)),
   .p p5 (.mv (.t p15))])
   (.seq (.block 0 (.seq (.reg [.p p17 (.mv (.t p5)),
   .p p18 (.bin .eql (.t p17) (.c (.int .i64 (.ofNat 0)))),
   .p p19 (.mv (.t p18)),
   .g p20 (.mv (.t p1)) p19 false,
   .g p21 (.mv (.t p0)) p19 false,
   .g p22 (.bin .eql (.t p20) (.t p21)) p19 false,
   .p p23 (.pick (.t p19) (.c (.bool true)) (.t p22)),
   .p p16 (.mv (.t p23))])
   (.cond (.t p16) (.seq (.reg [.p p4 (.mv (.c (.int .i64 (.ofNat 0))))])
   .ret) (.seq (.reg [.p p25 (.mv (.t p5)),
   .p p26 (.bin .eql (.t p25) (.c (.int .i64 (.ofNat 1)))),
   .p p24 (.mv (.t p26))])
   (.cond (.t p24) (.seq (.reg [.p p27 (.mv (.t p0)),
   .p p28 (.mv (.t p1)),
   .p p29 (.idxStr (.t p28) (.c (.int .i64 (.ofNat 0)))),
   .p p30 (.call 42 [(.t p27), (.t p29)]),
   .p p4 (.mv (.t p30))])
   .ret) (.seq (.reg [.p p32 (.mv (.t p5)),
   .p p33 (.mv (.t p0)),
   .p p34 (.lenStr (.t p33)),
   .p p35 (.bin .geq (.t p32) (.t p34)),
   .p p31 (.mv (.t p35))])
   (.cond (.t p31) (.seq (.reg [.p p4 (.mv (.c (.int .i64 (.negSucc 0))))])
   .ret) (.seq (.reg [.p p37 (.mv (.t p5)),
   .p p38 (.load1 (.c (.ptr 0 0))),
   .p p39 (.bin .leq (.t p37) (.t p38)),
   .p p40 (.mv (.t p39)),
   .g p41 (.mv (.t p0)) p40 true,
   .g p42 (.lenStr (.t p41)) p40 true,
   .g p43 (.bin .leq (.t p42) (.c (.int .i64 (.ofNat 64)))) p40 true,
   .p p44 (.pick (.t p40) (.t p43) (.c (.bool false))),
   .p p36 (.mv (.t p44))])
   (.cond (.t p36) (.seq (.reg [.p p45 (.mv (.t p0)),
   .p p46 (.mv (.t p1)),
   .p p47 (.call 43 [(.t p45), (.t p46)]),
   .p p4 (.mv (.t p47))])
   .ret) .skip)))))))))
   (.seq (.reg [.p p48 (.mv (.t p1)),
   .p p49 (.idxStr (.t p48) (.c (.int .i64 (.ofNat 0)))),
   .p p6 (.mv (.t p49))])
   (.seq (.reg [.p p50 (.mv (.t p1)),
   .p p51 (.idxStr (.t p50) (.c (.int .i64 (.ofNat 1)))),
   .p p7 (.mv (.t p51))])
   (.seq (.reg [.p p8 (.mv (.c (.int .i64 (.ofNat 0))))])
   (.seq (.reg [.p p52 (.mv (.t p0)),
   .p p53 (.lenStr (.t p52)),
   .p p54 (.mv (.t p5)),
   .p p55 (.bin .sub (.t p53) (.t p54)),
   .p p56 (.bin .add (.t p55) (.c (.int .i64 (.ofNat 1)))),
   .p p9 (.mv (.t p56))])
   (.seq (.reg [.p p10 (.mv (.c (.int .i64 (.ofNat 0))))])
   (.seq (.block 1 (.loop (.seq (.seq (.reg [.p p57 (.mv (.t p8)),
   .p p58 (.mv (.t p9)),
   .p p59 (.bin .lss (.t p57) (.t p58))])
   (.cond (.t p59) .skip (.exit 1)))
   (.block 2 (.seq (.seq (.reg [.p p60 (.mv (.t p0)),
   .p p61 (.mv (.t p8)),
   .p p62 (.idxStr (.t p60) (.t p61)),
   .p p63 (.mv (.t p6)),
   .p p64 (.bin .neq (.t p62) (.t p63))])
   (.cond (.t p64) (.seq (.reg [.p p65 (.mv (.t p0)),
   .p p66 (.mv (.t p8)),
   .p p67 (.bin .add (.t p66) (.c (.int .i64 (.ofNat 1)))),
   .p p68 (.mv (.t p9)),
   .p p69 (.sliceStr (.t p65) (some (.t p67)) (some (.t p68))),
   .p p70 (.mv (.t p6)),
   .p p71 (.call 42 [(.t p69), (.t p70)]),
   .p p11 (.mv (.t p71))])
   (.seq (.seq (.reg [.p p72 (.mv (.t p11)),
   .p p73 (.bin .lss (.t p72) (.c (.int .i64 (.ofNat 0))))])
   (.cond (.t p73) (.seq (.reg [.p p4 (.mv (.c (.int .i64 (.negSucc 0))))])
   .ret) .skip))
   (.reg [.p p74 (.mv (.t p8)),
   .p p75 (.mv (.t p11)),
   .p p76 (.bin .add (.t p75) (.c (.int .i64 (.ofNat 1)))),
   .p p77 (.bin .add (.t p74) (.t p76)),
   .p p8 (.mv (.t p77))]))) .skip))
   (.seq (.seq (.reg [.p p78 (.mv (.t p0)),
   .p p79 (.mv (.t p8)),
   .p p80 (.bin .add (.t p79) (.c (.int .i64 (.ofNat 1)))),
   .p p81 (.idxStr (.t p78) (.t p80)),
   .p p82 (.mv (.t p7)),
   .p p83 (.bin .eql (.t p81) (.t p82)),
   .p p84 (.mv (.t p83)),
   .g p85 (.mv (.t p0)) p84 true,
   .g p86 (.mv (.t p8)) p84 true,
   .g p87 (.mv (.t p8)) p84 true,
   .g p88 (.mv (.t p5)) p84 true,
   .g p89 (.bin .add (.t p87) (.t p88)) p84 true,
   .g p90 (.sliceStr (.t p85) (some (.t p86)) (some (.t p89))) p84 true,
   .g p91 (.mv (.t p1)) p84 true,
   .g p92 (.bin .eql (.t p90) (.t p91)) p84 true,
   .p p93 (.pick (.t p84) (.t p92) (.c (.bool false)))])
   (.cond (.t p93) (.seq (.reg [.p p94 (.mv (.t p8)),
   .p p4 (.mv (.t p94))])
   .ret) .skip))
   (.seq (.reg [.p p95 (.mv (.t p8)),
   .p p96 (.bin .add (.t p95) (.c (.int .i64 (.ofNat 1)))),
   .p p8 (.mv (.t p96))])
   (.seq (.reg [.p p97 (.mv (.t p10)),
   .p p98 (.bin .add (.t p97) (.c (.int .i64 (.ofNat 1)))),
   .p p10 (.mv (.t p98))])
   (.seq (.reg [.p p99 (.mv (.t p5)),
   .p p100 (.load1 (.c (.ptr 0 0))),
   .p p101 (.bin .leq (.t p99) (.t p100)),
   .p p102 (.mv (.t p101)),
   .g p103 (.mv (.t p10)) p102 true,
   .g p104 (.mv (.t p8)) p102 true,
   .g p105 (.call 44 [(.t p104)]) p102 true,
   .g p106 (.bin .gtr (.t p103) (.t p105)) p102 true,
   .p p107 (.pick (.t p102) (.t p106) (.c (.bool false)))])
   (.cond (.t p107) (.seq (.reg [.p p108 (.mv (.t p0)),
   .p p109 (.mv (.t p8)),
   .p p110 (.sliceStr (.t p108) (some (.t p109)) none),
   .p p111 (.mv (.t p1)),
   .p p112 (.call 43 [(.t p110), (.t p111)]),
   .p p12 (.mv (.t p112))])
   (.seq (.seq (.reg [.p p113 (.mv (.t p12)),
   .p p114 (.bin .geq (.t p113) (.c (.int .i64 (.ofNat 0))))])
   (.cond (.t p114) (.seq (.reg [.p p115 (.mv (.t p12)),
   .p p116 (.mv (.t p8)),
   .p p117 (.bin .add (.t p115) (.t p116)),
   .p p4 (.mv (.t p117))])
   .ret) .skip))
   (.seq (.reg [.p p4 (.mv (.c (.int .i64 (.negSucc 0))))])
   .ret))) (.seq (.reg [.p p118 (.mv (.t p5)),
   .p p119 (.load1 (.c (.ptr 0 0))),
   .p p120 (.bin .gtr (.t p118) (.t p119)),
   .p p121 (.mv (.t p120)),
   .g p122 (.mv (.t p10)) p121 true,
   .g p123 (.mv (.t p8)) p121 true,
   .g p124 (.shf false (.t p123) (.c (.int .u64 (.ofNat 4)))) p121 true,
   .g p125 (.bin .add (.c (.int .i64 (.ofNat 4))) (.t p124)) p121 true,
   .g p126 (.bin .geq (.t p122) (.t p125)) p121 true,
   .p p127 (.pick (.t p121) (.t p126) (.c (.bool false))),
   .p p128 (.mv (.t p127)),
   .g p129 (.mv (.t p8)) p128 true,
   .g p130 (.mv (.t p9)) p128 true,
   .g p131 (.bin .lss (.t p129) (.t p130)) p128 true,
   .p p132 (.pick (.t p128) (.t p131) (.c (.bool false)))])
   (.cond (.t p132) (.seq (.reg [.p p133 (.mv (.t p0)),
   .p p134 (.mv (.t p8)),
   .p p135 (.sliceStr (.t p133) (some (.t p134)) none),
   .p p136 (.mv (.t p1)),
   .p p137 (.call 45 [(.t p135), (.t p136)]),
   .p p13 (.mv (.t p137))])
   (.seq (.seq (.reg [.p p138 (.mv (.t p13)),
   .p p139 (.bin .lss (.t p138) (.c (.int .i64 (.ofNat 0))))])
   (.cond (.t p139) (.seq (.reg [.p p4 (.mv (.c (.int .i64 (.negSucc 0))))])
   .ret) .skip))
   (.seq (.reg [.p p140 (.mv (.t p8)),
   .p p141 (.mv (.t p13)),
   .p p142 (.bin .add (.t p140) (.t p141)),
   .p p4 (.mv (.t p142))])
   .ret))) .skip))))))))))))
   (.seq (.reg [.p p4 (.mv (.c (.int .i64 (.negSucc 0))))])
   .ret))))))))))
   [.t p4]
/- internal/abi.NoEscape -/ def a35 : AF := .noEscape
/- slices.IndexFunc[[]bastion/api.File,bastion/api.File] -/
def a36 : AF :=
  .code [p0, p1] (.seq (.reg [.p p4 (.mv (.c (.int .i64 (.ofNat 0))))])
   (.seq (.seq (.reg [.p p6 (.mv (.t p0)),
   .p p7 (.lenSlc (.t p6)),
   .p p8 (.mv (.c (.int .i64 (.ofNat 0))))])
   (.block 0 (.loop (.seq (.reg [.p p9 (.bin .lss (.t p8) (.t p7))])
   (.seq (.cond (.t p9) .skip (.exit 0))
   (.seq (.block 1 (.seq (.reg [.p p10 (.mv (.t p8)),
   .p p5 (.mv (.t p10))])
   (.seq (.reg [.p p11 (.mv (.t p1)),
   .p p12 (.mv (.t p0)),
   .p p13 (.mv (.t p5)),
   .p p14 (.iaddrS 2 (.t p12) (.t p13)),
   .p p15 (.loadn 2 (.t p14)),
   .p p16 (.callv (.t p11) [(.t p15)])])
   (.cond (.t p16) (.seq (.reg [.p p17 (.mv (.t p5)),
   .p p4 (.mv (.t p17))])
   .ret) .skip))))
   (.reg [.p p18 (.bin .add (.t p8) (.c (.int .i64 (.ofNat 1)))),
   .p p8 (.mv (.t p18))])))))))
   (.seq (.reg [.p p4 (.mv (.c (.int .i64 (.negSucc 0))))])
   .ret)))
   [.t p4]
/- (*bastion/expand.all).take$1 -/
def a37 : AF :=
  .code [p0, p1] (.seq (.reg [.p p2 (.box 86 (.t p0)),
   .p p3 (.mv (.c (.bool false)))])
   (.seq (.reg [.p p4 (.faddr 0 (.t p2)),
   .p p5 (.load1 (.t p4)),
   .p p6 (.load1 (.t p1)),
   .p p7 (.bin .eql (.t p5) (.t p6)),
   .p p3 (.mv (.t p7))])
   .ret))
   [.t p3]
/- bastion/desc.Parse -/
def a38 : AF :=
  .code [p0] (.seq (.reg [.p p2 (.alloc 104 [.nils, .nils]),
   .p p3 (.mv (.c (.int .i64 (.ofNat 0)))),
   .p p4 (.mv (.c (.int .i64 (.ofNat 0))))])
   (.seq (.reg [.p p5 (.alloc 104 [.nils, .nils])])
   (.seq (.reg [.p p12 (.call 46 []),
   .p p6 (.mv (.t p12))])
   (.seq (.seq (.reg [.p p13 (.mv (.t p0)),
   .p p14 (.call 47 [(.t p13), (.c (.str 1 10))]),
   .p p15 (.lenSlc (.t p14)),
   .p p16 (.mv (.c (.int .i64 (.ofNat 0))))])
   (.block 0 (.loop (.seq (.reg [.p p17 (.bin .lss (.t p16) (.t p15))])
   (.seq (.cond (.t p17) .skip (.exit 0))
   (.seq (.block 1 (.seq (.reg [.p p18 (.mv (.t p16)),
   .p p19 (.iaddrS 1 (.t p14) (.t p16)),
   .p p20 (.load1 (.t p19)),
   .p p7 (.mv (.t p18)),
   .p p8 (.mv (.t p20))])
   (.seq (.reg [.p p22 (.mv (.t p8)),
   .p p23 (.call 48 [(.t p22)]),
   .p p21 (.mv (.t p23)),
   .p p24 (.extract 0 (.t p21)),
   .p p25 (.extract 1 (.t p21)),
   .p p9 (.mv (.t p24)),
   .p p10 (.mv (.t p25))])
   (.seq (.seq (.reg [.p p26 (.mv (.t p10)),
   .p p27 (.bin .eql (.t p26) (.c (.int .i64 (.ofNat 0)))),
   .p p28 (.mv (.t p27)),
   .g p29 (.mv (.t p9)) p28 true,
   .g p30 (.lenSlc (.t p29)) p28 true,
   .g p31 (.bin .gtr (.t p30) (.c (.int .i64 (.ofNat 0)))) p28 true,
   .p p32 (.pick (.t p28) (.t p31) (.c (.bool false)))])
   (.cond (.t p32) (.seq (.reg [.p p33 (.mv (.t p6)),
   .p p34 (.mv (.t p7)),
   .p p35 (.bin .add (.t p34) (.c (.int .i64 (.ofNat 1)))),
   .p p36 (.mv (.t p9)),
   .p p37 (.call 49 [(.t p5), (.t p33), (.t p35), (.t p36)]),
   .p p11 (.mv (.t p37))])
   (.seq (.reg [.p p38 (.mv (.t p11)),
   .p p39 (.eq true (.ifc true [24, 186]) (.t p38) (.c (.nili)))])
   (.cond (.t p39) (.reg [.p p40 (.mv (.t p11)),
   .p p41 (.call 50 [(.t p40)]),
   .p p10 (.mv (.t p41))]) .skip))) .skip))
   (.seq (.reg [.p p42 (.mv (.t p10)),
   .p p43 (.bin .neq (.t p42) (.c (.int .i64 (.ofNat 0))))])
   (.cond (.t p43) (.seq (.reg [.p p44 (.build [] [.nils, .nils]),
   .p p45 (.mv (.t p7)),
   .p p46 (.bin .add (.t p45) (.c (.int .i64 (.ofNat 1)))),
   .p p47 (.mv (.t p10)),
   .n (.store 2 (.t p2) (.t p44)),
   .p p3 (.mv (.t p46)),
   .p p4 (.mv (.t p47))])
   .ret) .skip))))))
   (.reg [.p p48 (.bin .add (.t p16) (.c (.int .i64 (.ofNat 1)))),
   .p p16 (.mv (.t p48))])))))))
   (.seq (.reg [.p p49 (.loadn 2 (.t p5)),
   .n (.store 2 (.t p2) (.t p49)),
   .p p3 (.mv (.c (.int .i64 (.ofNat 0)))),
   .p p4 (.mv (.c (.int .i64 (.ofNat 0))))])
   .ret)))))
   [.cell p2 2, .t p3, .t p4]
/- slices.IndexFunc[[]bastion/desc.Item,bastion/desc.Item] -/
def a39 : AF :=
  .code [p0, p1] (.seq (.reg [.p p4 (.mv (.c (.int .i64 (.ofNat 0))))])
   (.seq (.seq (.reg [.p p6 (.mv (.t p0)),
   .p p7 (.lenSlc (.t p6)),
   .p p8 (.mv (.c (.int .i64 (.ofNat 0))))])
   (.block 0 (.loop (.seq (.reg [.p p9 (.bin .lss (.t p8) (.t p7))])
   (.seq (.cond (.t p9) .skip (.exit 0))
   (.seq (.block 1 (.seq (.reg [.p p10 (.mv (.t p8)),
   .p p5 (.mv (.t p10))])
   (.seq (.reg [.p p11 (.mv (.t p1)),
   .p p12 (.mv (.t p0)),
   .p p13 (.mv (.t p5)),
   .p p14 (.iaddrS 3 (.t p12) (.t p13)),
   .p p15 (.loadn 3 (.t p14)),
   .p p16 (.callv (.t p11) [(.t p15)])])
   (.cond (.t p16) (.seq (.reg [.p p17 (.mv (.t p5)),
   .p p4 (.mv (.t p17))])
   .ret) .skip))))
   (.reg [.p p18 (.bin .add (.t p8) (.c (.int .i64 (.ofNat 1)))),
   .p p8 (.mv (.t p18))])))))))
   (.seq (.reg [.p p4 (.mv (.c (.int .i64 (.negSucc 0))))])
   .ret)))
   [.t p4]
/- slices.Contains[[]string,string] -/
def a40 : AF :=
  .code [p0, p1] (.seq (.reg [.p p4 (.mv (.c (.bool false)))])
   (.seq (.reg [.p p5 (.mv (.t p0)),
   .p p6 (.mv (.t p1)),
   .p p7 (.call 51 [(.t p5), (.t p6)]),
   .p p8 (.bin .geq (.t p7) (.c (.int .i64 (.ofNat 0)))),
   .p p4 (.mv (.t p8))])
   .ret))
   [.t p4]
/- slices.Clone[[]string,string] -/
def a41 : AF :=
  .code [p0] (.seq (.reg [.p p2 (.mv (.c (.nils)))])
   (.seq (.seq (.reg [.p p3 (.mv (.t p0)),
   .p p4 (.eq false .slc (.t p3) (.c (.nils)))])
   (.cond (.t p4) (.seq (.reg [.p p2 (.mv (.c (.nils)))])
   .ret) .skip))
   (.seq (.reg [.p p5 (.bslice 9 0 1 [] []),
   .p p6 (.mv (.t p0)),
   .p p7 (.append 9 1 16 (.t p5) (.t p6)),
   .p p2 (.mv (.t p7))])
   .ret)))
   [.t p2]
/- internal/stringslite.IndexByte -/
def a42 : AF :=
  .code [p0, p1] (.seq (.reg [.p p4 (.mv (.c (.int .i64 (.ofNat 0))))])
   (.seq (.reg [.p p5 (.mv (.t p0)),
   .p p6 (.mv (.t p1)),
   .p p7 (.call 52 [(.t p5), (.t p6)]),
   .p p4 (.mv (.t p7))])
   .ret))
   [.t p4]
def a43 : AF := .no
def a44 : AF := .no
def a45 : AF := .no
/- bastion/desc.rules -/
def a46 : AF :=
  .code [] (.seq (.reg [.p p0 (.mv (.c (.nilm)))])
   (.seq (.reg [.p p1 (.mv (.c (.fn 54 [] [])))])
   (.seq (.reg [.p p2 (.mv (.c (.fn 55 [] [])))])
   (.seq (.reg [.p p3 (.mv (.c (.fn 56 [] [])))])
   (.seq (.reg [.p p4 (.mv (.c (.fn 57 [] [])))])
   (.seq (.reg [.p p5 (.mv (.c (.fn 58 [] [])))])
   (.seq (.reg [.p p6 (.mkmap),
   .p p7 (.mv (.t p1)),
   .p p8 (.build [([], 1, (.t p7)), ([], 1, (.c (.int .i64 (.ofNat 1)))), ([], 1, (.c (.int .i64 (.ofNat 1)))), ([.int .i64 (.ofNat 0)], 1, (.c (.fn 60 [] [])))] [.int .i64 (.ofNat 0), .bool false]),
   .n (.insert .str (.t p6) (.c (.str 7 28539428140183145)) (.t p8)),
   .p p9 (.mv (.t p1)),
   .p p10 (.mv (.t p5)),
   .p p11 (.build [([], 1, (.t p9)), ([], 1, (.c (.int .i64 (.ofNat 1)))), ([], 1, (.c (.int .i64 (.ofNat 400)))), ([.int .i64 (.ofNat 0)], 1, (.t p10))] [.int .i64 (.ofNat 0), .bool false]),
   .n (.insert .str (.t p6) (.c (.str 2 28271)) (.t p11)),
   .p p12 (.mv (.t p1)),
   .p p13 (.mv (.t p5)),
   .p p14 (.build [([], 1, (.t p12)), ([], 1, (.c (.int .i64 (.ofNat 1)))), ([], 1, (.c (.int .i64 (.ofNat 400)))), ([.int .i64 (.ofNat 0)], 1, (.t p13))] [.int .i64 (.ofNat 0), .bool false]),
   .n (.insert .str (.t p6) (.c (.str 5 495673696624)) (.t p14)),
   .p p15 (.mv (.t p3)),
   .p p16 (.build [([], 1, (.t p15)), ([], 1, (.c (.int .i64 (.ofNat 2)))), ([], 1, (.c (.int .i64 (.ofNat 2)))), ([], 1, (.c (.int .i64 (.ofNat 1))))] [.nilf, .int .i64 (.ofNat 0), .bool false]),
   .n (.insert .str (.t p6) (.c (.str 3 7496054)) (.t p16)),
   .p p17 (.mv (.t p4)),
   .p p18 (.build [([], 1, (.t p17)), ([], 1, (.c (.int .i64 (.ofNat 1)))), ([], 1, (.c (.int .i64 (.ofNat 1)))), ([], 1, (.c (.int .i64 (.negSucc 0))))] [.nilf, .int .i64 (.ofNat 0), .bool false]),
   .n (.insert .str (.t p6) (.c (.str 3 6648693)) (.t p18)),
   .p p19 (.mv (.t p2)),
   .p p20 (.build [([], 1, (.t p19)), ([], 1, (.c (.int .i64 (.ofNat 1)))), ([], 1, (.c (.int .i64 (.ofNat 400)))), ([], 1, (.c (.int .i64 (.negSucc 0))))] [.nilf, .int .i64 (.ofNat 0), .bool false]),
   .n (.insert .str (.t p6) (.c (.str 5 495605605742)) (.t p20)),
   .p p21 (.mv (.t p2)),
   .p p22 (.build [([], 1, (.t p21)), ([], 1, (.c (.int .i64 (.ofNat 1)))), ([], 1, (.c (.int .i64 (.ofNat 400)))), ([], 1, (.c (.int .i64 (.negSucc 0))))] [.nilf, .int .i64 (.ofNat 0), .bool false]),
   .n (.insert .str (.t p6) (.c (.str 4 1936154996)) (.t p22)),
   .p p23 (.mv (.t p2)),
   .p p24 (.build [([], 1, (.t p23)), ([], 1, (.c (.int .i64 (.ofNat 2)))), ([], 1, (.c (.int .i64 (.ofNat 400)))), ([], 1, (.c (.int .i64 (.ofNat 1)))), ([], 1, (.c (.fn 61 [] []))), ([.int .i64 (.ofNat 0)], 1, (.c (.bool true)))] []),
   .n (.insert .str (.t p6) (.c (.str 4 1936291937)) (.t p24)),
   .p p25 (.mv (.t p2)),
   .p p26 (.build [([], 1, (.t p25)), ([], 1, (.c (.int .i64 (.ofNat 1)))), ([], 1, (.c (.int .i64 (.ofNat 400)))), ([.int .i64 (.ofNat 0), .nilf, .int .i64 (.ofNat 0)], 1, (.c (.bool true)))] []),
   .n (.insert .str (.t p6) (.c (.str 4 1852139639)) (.t p26)),
   .p p27 (.mv (.t p2)),
   .p p28 (.build [([], 1, (.t p27)), ([], 1, (.c (.int .i64 (.ofNat 1)))), ([], 1, (.c (.int .i64 (.ofNat 400))))] [.int .i64 (.ofNat 0), .nilf, .int .i64 (.ofNat 0), .bool false]),
   .n (.insert .str (.t p6) (.c (.str 2 28516)) (.t p28)),
   .p p29 (.mv (.t p2)),
   .p p30 (.build [([], 1, (.t p29)), ([], 1, (.c (.int .i64 (.ofNat 1)))), ([], 1, (.c (.int .i64 (.ofNat 1)))), ([.int .i64 (.ofNat 0), .nilf], 1, (.c (.int .i64 (.ofNat 5)))), ([], 1, (.c (.bool true)))] []),
   .n (.insert .str (.t p6) (.c (.str 5 495622648436)) (.t p30)),
   .p p31 (.mv (.t p2)),
   .p p32 (.build [([], 1, (.t p31)), ([], 1, (.c (.int .i64 (.ofNat 1)))), ([], 1, (.c (.int .i64 (.ofNat 1)))), ([.int .i64 (.ofNat 0), .nilf], 1, (.c (.int .i64 (.ofNat 1000)))), ([], 1, (.c (.bool true)))] []),
   .n (.insert .str (.t p6) (.c (.str 5 499984984428)) (.t p32)),
   .p p33 (.mv (.t p2)),
   .p p34 (.build [([], 1, (.t p33)), ([.int .i64 (.ofNat 0), .int .i64 (.ofNat 0), .int .i64 (.ofNat 0), .nilf, .int .i64 (.ofNat 0)], 1, (.c (.bool true)))] []),
   .n (.insert .str (.t p6) (.c (.str 6 119165837795693)) (.t p34)),
   .p p35 (.mv (.t p2)),
   .p p36 (.mv (.t p5)),
   .p p37 (.build [([], 1, (.t p35)), ([], 1, (.c (.int .i64 (.ofNat 1)))), ([], 1, (.c (.int .i64 (.ofNat 400)))), ([.int .i64 (.ofNat 0)], 1, (.t p36))] [.int .i64 (.ofNat 0), .bool false]),
   .n (.insert .str (.t p6) (.c (.str 4 1885693291)) (.t p37)),
   .p p38 (.mv (.t p6)),
   .p p0 (.mv (.t p38))])
   .ret)))))))
   [.t p0]
/- strings.Split -/
def a47 : AF :=
  .code [p0, p1] (.seq (.reg [.p p4 (.mv (.c (.nils)))])
   (.seq (.reg [.p p5 (.mv (.t p0)),
   .p p6 (.mv (.t p1)),
   .p p7 (.call 62 [(.t p5), (.t p6), (.c (.int .i64 (.ofNat 0))), (.c (.int .i64 (.negSucc 0)))]),
   .p p4 (.mv (.t p7))])
   .ret))
   [.t p4]
/- bastion/words.Split -/
def a48 : AF :=
  .code [p0] (.seq (.reg [.p p2 (.mv (.c (.nils))),
   .p p3 (.mv (.c (.int .i64 (.ofNat 0))))])
   (.seq (.seq (.reg [.p p10 (.mv (.t p0)),
   .p p11 (.lenStr (.t p10)),
   .p p12 (.bin .gtr (.t p11) (.c (.int .i64 (.ofNat 400))))])
   (.cond (.t p12) (.seq (.reg [.p p2 (.mv (.c (.nils))),
   .p p3 (.mv (.c (.int .i64 (.ofNat 40))))])
   .ret) .skip))
   (.seq (.reg [.p p4 (.mv (.c (.nils)))])
   (.seq (.reg [.p p13 (.mv (.t p0)),
   .p p5 (.mv (.t p13))])
   (.block 0 (.loop (.block 1 (.seq (.reg [.p p14 (.mv (.t p5)),
   .p p15 (.call 63 [(.t p14), (.c (.str 2 2336))]),
   .p p5 (.mv (.t p15))])
   (.block 2 (.seq (.reg [.p p49 (.mv (.t p5)),
   .p p50 (.bin .eql (.t p49) (.c (.str 0 0))),
   .p p48 (.mv (.t p50))])
   (.cond (.t p48) (.seq (.reg [.p p51 (.mv (.t p4)),
   .p p2 (.mv (.t p51)),
   .p p3 (.mv (.c (.int .i64 (.ofNat 0))))])
   .ret) (.seq (.reg [.p p53 (.mv (.t p5)),
   .p p54 (.idxStr (.t p53) (.c (.int .i64 (.ofNat 0)))),
   .p p55 (.bin .eql (.t p54) (.c (.int .u8 (.ofNat 35)))),
   .p p52 (.mv (.t p55))])
   (.cond (.t p52) (.seq (.seq (.reg [.p p56 (.mv (.t p5)),
   .p p57 (.call 64 [(.t p56), (.c (.str 1 10))])])
   (.cond (.t p57) (.seq (.reg [.p p2 (.mv (.c (.nils))),
   .p p3 (.mv (.c (.int .i64 (.ofNat 4))))])
   .ret) .skip))
   (.seq (.reg [.p p58 (.mv (.t p4)),
   .p p2 (.mv (.t p58)),
   .p p3 (.mv (.c (.int .i64 (.ofNat 0))))])
   .ret)) (.seq (.reg [.p p60 (.mv (.t p5)),
   .p p61 (.idxStr (.t p60) (.c (.int .i64 (.ofNat 0)))),
   .p p62 (.bin .eql (.t p61) (.c (.int .u8 (.ofNat 34)))),
   .p p59 (.mv (.t p62))])
   (.cond (.t p59) (.seq (.reg [.p p64 (.mv (.t p5)),
   .p p65 (.sliceStr (.t p64) (some (.c (.int .i64 (.ofNat 1)))) none),
   .p p66 (.call 65 [(.t p65)]),
   .p p63 (.mv (.t p66)),
   .p p67 (.extract 0 (.t p63)),
   .p p68 (.extract 1 (.t p63)),
   .p p69 (.extract 2 (.t p63)),
   .p p6 (.mv (.t p67)),
   .p p7 (.mv (.t p68)),
   .p p8 (.mv (.t p69))])
   (.seq (.seq (.reg [.p p70 (.mv (.t p8)),
   .p p71 (.not (.t p70)),
   .p p72 (.mv (.t p71)),
   .g p73 (.mv (.t p7)) p72 false,
   .g p74 (.bin .neq (.t p73) (.c (.str 0 0))) p72 false,
   .g p75 (.mv (.t p74)) p72 false,
   .g p76 (.mv (.t p7)) p75 true,
   .g p77 (.idxStr (.t p76) (.c (.int .i64 (.ofNat 0)))) p75 true,
   .g p78 (.bin .neq (.t p77) (.c (.int .u8 (.ofNat 32)))) p75 true,
   .g p79 (.pick (.t p75) (.t p78) (.c (.bool false))) p72 false,
   .g p80 (.mv (.t p79)) p72 false,
   .g p81 (.mv (.t p7)) p80 true,
   .g p82 (.idxStr (.t p81) (.c (.int .i64 (.ofNat 0)))) p80 true,
   .g p83 (.bin .neq (.t p82) (.c (.int .u8 (.ofNat 9)))) p80 true,
   .g p84 (.pick (.t p80) (.t p83) (.c (.bool false))) p72 false,
   .p p85 (.pick (.t p72) (.c (.bool true)) (.t p84))])
   (.cond (.t p85) (.seq (.reg [.p p2 (.mv (.c (.nils))),
   .p p3 (.mv (.c (.int .i64 (.ofNat 4))))])
   .ret) .skip))
   (.reg [.p p86 (.mv (.t p4)),
   .p p87 (.mv (.t p6)),
   .p p88 (.bslice 9 1 1 [([], 1, (.t p87))] []),
   .p p89 (.append 9 1 16 (.t p86) (.t p88)),
   .p p90 (.mv (.t p7)),
   .p p4 (.mv (.t p89)),
   .p p5 (.mv (.t p90))]))) (.seq (.reg [.p p9 (.mv (.c (.int .i64 (.ofNat 0))))])
   (.seq (.block 3 (.loop (.seq (.seq (.reg [.p p16 (.mv (.t p9)),
   .p p17 (.mv (.t p5)),
   .p p18 (.lenStr (.t p17)),
   .p p19 (.bin .lss (.t p16) (.t p18)),
   .p p20 (.mv (.t p19)),
   .g p21 (.mv (.t p5)) p20 true,
   .g p22 (.mv (.t p9)) p20 true,
   .g p23 (.idxStr (.t p21) (.t p22)) p20 true,
   .g p24 (.bin .neq (.t p23) (.c (.int .u8 (.ofNat 32)))) p20 true,
   .p p25 (.pick (.t p20) (.t p24) (.c (.bool false))),
   .p p26 (.mv (.t p25)),
   .g p27 (.mv (.t p5)) p26 true,
   .g p28 (.mv (.t p9)) p26 true,
   .g p29 (.idxStr (.t p27) (.t p28)) p26 true,
   .g p30 (.bin .neq (.t p29) (.c (.int .u8 (.ofNat 9)))) p26 true,
   .p p31 (.pick (.t p26) (.t p30) (.c (.bool false)))])
   (.cond (.t p31) .skip (.exit 3)))
   (.block 4 (.seq (.seq (.reg [.p p32 (.mv (.t p5)),
   .p p33 (.mv (.t p9)),
   .p p34 (.idxStr (.t p32) (.t p33)),
   .p p35 (.call 66 [(.t p34)]),
   .p p36 (.not (.t p35))])
   (.cond (.t p36) (.seq (.reg [.p p2 (.mv (.c (.nils))),
   .p p3 (.mv (.c (.int .i64 (.ofNat 4))))])
   .ret) .skip))
   (.reg [.p p37 (.mv (.t p9)),
   .p p38 (.bin .add (.t p37) (.c (.int .i64 (.ofNat 1)))),
   .p p9 (.mv (.t p38))]))))))
   (.dreg [(.p p39 (.mv (.t p4)), 0), (.p p40 (.mv (.t p5)), 0), (.p p41 (.mv (.t p9)), 0), (.p p42 (.sliceStr (.t p40) none (some (.t p41))), 6), (.p p43 (.bslice 9 1 1 [([], 1, (.t p42))] []), 14), (.p p44 (.append 9 1 16 (.t p39) (.t p43)), 31), (.p p45 (.mv (.t p5)), 0), (.p p46 (.mv (.t p9)), 0), (.p p47 (.sliceStr (.t p45) (some (.t p46)) none), 192), (.p p4 (.mv (.t p44)), 63), (.p p5 (.mv (.t p47)), 1023)]))))))))))))))))))
   [.t p2, .t p3]
/- (*bastion/desc.Doc).line -/
def a49 : AF :=
  .code [p0, p1, p2, p3] (.seq (.reg [.p p8 (.mv (.c (.nili)))])
   (.seq (.seq (.reg [.p p15 (.mv (.t p3)),
   .p p16 (.iaddrS 1 (.t p15) (.c (.int .i64 (.ofNat 0)))),
   .p p17 (.load1 (.t p16))])
   (.block 0 (.seq (.reg [.p p19 (.bin .eql (.t p17) (.c (.str 8 7310575213499737460))),
   .p p18 (.mv (.t p19))])
   (.cond (.t p18) (.seq (.reg [.p p20 (.mv (.t p0)),
   .p p21 (.mv (.t p2)),
   .p p22 (.mv (.t p3)),
   .p p23 (.sliceS 1 (.t p22) (some (.c (.int .i64 (.ofNat 1)))) none none),
   .p p24 (.call 67 [(.t p20), (.t p21), (.c (.int .u8 (.ofNat 1))), (.t p23)]),
   .p p8 (.mv (.t p24))])
   .ret) (.seq (.reg [.p p26 (.bin .eql (.t p17) (.c (.str 3 6451050))),
   .p p25 (.mv (.t p26))])
   (.cond (.t p25) (.seq (.reg [.p p27 (.mv (.t p0)),
   .p p28 (.mv (.t p2)),
   .p p29 (.mv (.t p3)),
   .p p30 (.sliceS 1 (.t p29) (some (.c (.int .i64 (.ofNat 1)))) none none),
   .p p31 (.call 67 [(.t p27), (.t p28), (.c (.int .u8 (.ofNat 2))), (.t p30)]),
   .p p8 (.mv (.t p31))])
   .ret) .skip))))))
   (.seq (.dreg [(.p p32 (.mv (.t p0)), 0), (.p p33 (.nilck (.t p32)), 1), (.p p34 (.faddr 0 (.t p33)), 3), (.p p9 (.mv (.c (.int .u8 (.ofNat 0)))), 0), (.p p10 (.mv (.t p34)), 15)])
   (.seq (.seq (.reg [.p p35 (.mv (.t p0)),
   .p p36 (.nilck (.t p35)),
   .p p37 (.faddr 1 (.t p36)),
   .p p38 (.load1 (.t p37)),
   .p p39 (.lenSlc (.t p38)),
   .p p11 (.mv (.t p39))])
   (.seq (.reg [.p p40 (.mv (.t p11)),
   .p p41 (.bin .gtr (.t p40) (.c (.int .i64 (.ofNat 0))))])
   (.cond (.t p41) (.seq (.reg [.p p42 (.mv (.t p0)),
   .p p43 (.nilck (.t p42)),
   .p p44 (.faddr 1 (.t p43)),
   .p p45 (.load1 (.t p44)),
   .p p46 (.mv (.t p11)),
   .p p47 (.bin .sub (.t p46) (.c (.int .i64 (.ofNat 1)))),
   .p p48 (.iaddrS 4 (.t p45) (.t p47)),
   .p p12 (.mv (.t p48))])
   (.dreg [(.p p49 (.mv (.t p12)), 0), (.p p50 (.nilck (.t p49)), 1), (.p p51 (.faddr 1 (.t p50)), 3), (.p p52 (.load1 (.t p51)), 7), (.p p53 (.mv (.t p12)), 0), (.p p54 (.nilck (.t p53)), 16), (.p p55 (.faddr 3 (.t p54)), 48), (.p p9 (.mv (.t p52)), 15), (.p p10 (.mv (.t p55)), 255)])) .skip)))
   (.seq (.dreg [(.p p56 (.mv (.t p2)), 0), (.p p57 (.mv (.t p3)), 0), (.p p58 (.iaddrS 1 (.t p57) (.c (.int .i64 (.ofNat 0)))), 2), (.p p59 (.load1 (.t p58)), 6), (.p p60 (.mv (.t p3)), 0), (.p p61 (.sliceS 1 (.t p60) (some (.c (.int .i64 (.ofNat 1)))) none none), 16), (.p p62 (.build [([], 1, (.t p56)), ([], 1, (.t p59)), ([], 1, (.t p61))] []), 63), (.p p13 (.alloc 42 [.int .i64 (.ofNat 0), .str 0 0, .nils]), 0), (.n (.store 3 (.t p13) (.t p62)), 255)])
   (.seq (.seq (.dreg [(.p p63 (.mv (.t p1)), 0), (.p p64 (.faddr 1 (.t p13)), 0), (.p p65 (.load1 (.t p64)), 2), (.p p66 (.lookup .str false (.agg [.nilf, .int .i64 (.ofNat 0), .int .i64 (.ofNat 0), .int .i64 (.ofNat 0), .nilf, .int .i64 (.ofNat 0), .bool false]) (.t p63) (.t p65)), 7), (.p p67 (.mv (.t p9)), 0), (.p p68 (.mv (.t p10)), 0), (.p p69 (.nilck (.t p68)), 32), (.p p70 (.load1 (.t p69)), 96), (.p p71 (.loadn 3 (.t p13)), 0), (.p p72 (.call 68 [(.t p66), (.t p67), (.t p70), (.t p71)]), 511), (.p p14 (.mv (.t p72)), 1023)])
   (.seq (.reg [.p p73 (.mv (.t p14)),
   .p p74 (.eq true (.ifc true [24, 186]) (.t p73) (.c (.nili)))])
   (.cond (.t p74) (.seq (.reg [.p p75 (.mv (.t p14)),
   .p p8 (.mv (.t p75))])
   .ret) .skip)))
   (.seq (.dreg [(.p p76 (.mv (.t p10)), 0), (.p p77 (.mv (.t p10)), 0), (.p p78 (.nilck (.t p77)), 2), (.p p79 (.load1 (.t p78)), 6), (.p p80 (.loadn 3 (.t p13)), 0), (.p p81 (.bslice 42 1 3 [([], 3, (.t p80))] []), 16), (.p p82 (.append 42 3 48 (.t p79) (.t p81)), 62), (.p p83 (.nilck (.t p76)), 127), (.n (.store 1 (.t p83) (.t p82)), 255)])
   (.seq (.reg [.p p8 (.mv (.c (.nili)))])
   .ret))))))))
   [.t p8]
def a50 : AF := .no
/- slices.Index[[]string,string] -/
def a51 : AF :=
  .code [p0, p1] (.seq (.reg [.p p4 (.mv (.c (.int .i64 (.ofNat 0))))])
   (.seq (.seq (.reg [.p p6 (.mv (.t p0)),
   .p p7 (.lenSlc (.t p6)),
   .p p8 (.mv (.c (.int .i64 (.ofNat 0))))])
   (.block 0 (.loop (.seq (.reg [.p p9 (.bin .lss (.t p8) (.t p7))])
   (.seq (.cond (.t p9) .skip (.exit 0))
   (.seq (.block 1 (.seq (.reg [.p p10 (.mv (.t p8)),
   .p p5 (.mv (.t p10))])
   (.seq (.reg [.p p11 (.mv (.t p1)),
   .p p12 (.mv (.t p0)),
   .p p13 (.mv (.t p5)),
   .p p14 (.iaddrS 1 (.t p12) (.t p13)),
   .p p15 (.load1 (.t p14)),
   .p p16 (.bin .eql (.t p11) (.t p15))])
   (.cond (.t p16) (.seq (.reg [.p p17 (.mv (.t p5)),
   .p p4 (.mv (.t p17))])
   .ret) .skip))))
   (.reg [.p p18 (.bin .add (.t p8) (.c (.int .i64 (.ofNat 1)))),
   .p p8 (.mv (.t p18))])))))))
   (.seq (.reg [.p p4 (.mv (.c (.int .i64 (.negSucc 0))))])
   .ret)))
   [.t p4]
/- internal/bytealg.IndexByteString -/ def a52 : AF := .indexByte
def a53 : AF := .no
/- bastion/desc.rules$1 -/
def a54 : AF :=
  .code [p0, p1] (.seq (.reg [.p p4 (.mv (.c (.bool false)))])
   (.seq (.reg [.p p5 (.mv (.t p0)),
   .p p6 (.bin .eql (.t p5) (.c (.int .u8 (.ofNat 0)))),
   .p p4 (.mv (.t p6))])
   .ret))
   [.t p4]
/- bastion/desc.rules$2 -/
def a55 : AF :=
  .code [p0, p1] (.seq (.reg [.p p4 (.mv (.c (.bool false)))])
   (.seq (.reg [.p p5 (.mv (.t p0)),
   .p p6 (.bin .neq (.t p5) (.c (.int .u8 (.ofNat 0)))),
   .p p4 (.mv (.t p6))])
   .ret))
   [.t p4]
/- bastion/desc.rules$3 -/
def a56 : AF :=
  .code [p0, p1] (.seq (.reg [.p p4 (.mv (.c (.bool false)))])
   (.seq (.reg [.p p4 (.mv (.c (.bool true)))])
   .ret))
   [.t p4]
/- bastion/desc.rules$4 -/
def a57 : AF :=
  .code [p0, p1] (.seq (.reg [.p p4 (.mv (.c (.bool false)))])
   (.seq (.reg [.p p5 (.mv (.t p0)),
   .p p6 (.bin .eql (.t p5) (.c (.int .u8 (.ofNat 2)))),
   .p p7 (.mv (.t p6)),
   .g p8 (.mv (.t p1)) p7 true,
   .p p9 (.pick (.t p7) (.t p8) (.c (.bool false))),
   .p p4 (.mv (.t p9))])
   .ret))
   [.t p4]
def a58 : AF := .no
def a59 : AF := .no
/- bastion/desc.Path -/
def a60 : AF :=
  .code [p0] (.seq (.reg [.p p2 (.mv (.c (.bool false)))])
   (.seq (.seq (.reg [.p p7 (.mv (.t p0)),
   .p p8 (.call 47 [(.t p7), (.c (.str 1 47))]),
   .p p9 (.lenSlc (.t p8)),
   .p p10 (.mv (.c (.int .i64 (.ofNat 0))))])
   (.block 0 (.loop (.seq (.reg [.p p11 (.bin .lss (.t p10) (.t p9))])
   (.seq (.cond (.t p11) .skip (.exit 0))
   (.seq (.block 1 (.seq (.reg [.p p12 (.iaddrS 1 (.t p8) (.t p10)),
   .p p13 (.load1 (.t p12)),
   .p p4 (.mv (.t p13))])
   (.seq (.seq (.reg [.p p14 (.mv (.t p4)),
   .p p15 (.bin .eql (.t p14) (.c (.str 0 0))),
   .p p16 (.mv (.t p15)),
   .g p17 (.mv (.t p4)) p16 false,
   .g p18 (.bin .eql (.t p17) (.c (.str 1 46))) p16 false,
   .p p19 (.pick (.t p16) (.c (.bool true)) (.t p18)),
   .p p20 (.mv (.t p19)),
   .g p21 (.mv (.t p4)) p20 false,
   .g p22 (.bin .eql (.t p21) (.c (.str 2 11822))) p20 false,
   .p p23 (.pick (.t p20) (.c (.bool true)) (.t p22))])
   (.cond (.t p23) (.seq (.reg [.p p2 (.mv (.c (.bool false)))])
   .ret) .skip))
   (.seq (.reg [.p p24 (.mv (.t p4)),
   .p p25 (.lenStr (.t p24)),
   .p p26 (.mv (.c (.int .i64 (.ofNat 0))))])
   (.block 2 (.loop (.seq (.reg [.p p27 (.bin .lss (.t p26) (.t p25))])
   (.seq (.cond (.t p27) .skip (.exit 2))
   (.seq (.block 3 (.seq (.reg [.p p28 (.mv (.t p26)),
   .p p5 (.mv (.t p28))])
   (.seq (.reg [.p p29 (.mv (.t p4)),
   .p p30 (.mv (.t p5)),
   .p p31 (.idxStr (.t p29) (.t p30)),
   .p p6 (.mv (.t p31))])
   (.seq (.reg [.p p32 (.mv (.t p6)),
   .p p33 (.bin .geq (.t p32) (.c (.int .u8 (.ofNat 97)))),
   .p p34 (.mv (.t p33)),
   .g p35 (.mv (.t p6)) p34 true,
   .g p36 (.bin .leq (.t p35) (.c (.int .u8 (.ofNat 122)))) p34 true,
   .p p37 (.pick (.t p34) (.t p36) (.c (.bool false))),
   .p p38 (.mv (.t p37)),
   .g p39 (.mv (.t p6)) p38 false,
   .g p40 (.bin .geq (.t p39) (.c (.int .u8 (.ofNat 65)))) p38 false,
   .g p41 (.mv (.t p40)) p38 false,
   .g p42 (.mv (.t p6)) p41 true,
   .g p43 (.bin .leq (.t p42) (.c (.int .u8 (.ofNat 90)))) p41 true,
   .g p44 (.pick (.t p41) (.t p43) (.c (.bool false))) p38 false,
   .p p45 (.pick (.t p38) (.c (.bool true)) (.t p44)),
   .p p46 (.mv (.t p45)),
   .g p47 (.mv (.t p6)) p46 false,
   .g p48 (.bin .geq (.t p47) (.c (.int .u8 (.ofNat 48)))) p46 false,
   .g p49 (.mv (.t p48)) p46 false,
   .g p50 (.mv (.t p6)) p49 true,
   .g p51 (.bin .leq (.t p50) (.c (.int .u8 (.ofNat 57)))) p49 true,
   .g p52 (.pick (.t p49) (.t p51) (.c (.bool false))) p46 false,
   .p p53 (.pick (.t p46) (.c (.bool true)) (.t p52)),
   .p p54 (.mv (.t p53)),
   .g p55 (.mv (.t p6)) p54 false,
   .g p56 (.bin .eql (.t p55) (.c (.int .u8 (.ofNat 45)))) p54 false,
   .p p57 (.pick (.t p54) (.c (.bool true)) (.t p56)),
   .p p58 (.mv (.t p57)),
   .g p59 (.mv (.t p6)) p58 false,
   .g p60 (.bin .eql (.t p59) (.c (.int .u8 (.ofNat 95)))) p58 false,
   .p p61 (.pick (.t p58) (.c (.bool true)) (.t p60)),
   .p p62 (.mv (.t p61)),
   .g p63 (.mv (.t p6)) p62 false,
   .g p64 (.bin .eql (.t p63) (.c (.int .u8 (.ofNat 46)))) p62 false,
   .p p65 (.pick (.t p62) (.c (.bool true)) (.t p64)),
   .p p66 (.not (.t p65))])
   (.cond (.t p66) (.seq (.reg [.p p2 (.mv (.c (.bool false)))])
   .ret) .skip)))))
   (.reg [.p p67 (.bin .add (.t p26) (.c (.int .i64 (.ofNat 1)))),
   .p p26 (.mv (.t p67))]))))))))))
   (.reg [.p p68 (.bin .add (.t p10) (.c (.int .i64 (.ofNat 1)))),
   .p p10 (.mv (.t p68))])))))))
   (.seq (.reg [.p p69 (.mv (.t p0)),
   .p p70 (.lenStr (.t p69)),
   .p p71 (.bin .leq (.t p70) (.c (.int .i64 (.ofNat 48)))),
   .p p2 (.mv (.t p71))])
   .ret)))
   [.t p2]
def a61 : AF := .no
/- strings.genSplit -/
def a62 : AF :=
  .code [p0, p1, p2, p3] (.seq (.reg [.p p8 (.mv (.c (.nils)))])
   (.seq (.seq (.reg [.p p12 (.mv (.t p3)),
   .p p13 (.bin .eql (.t p12) (.c (.int .i64 (.ofNat 0))))])
   (.cond (.t p13) (.seq (.reg [.p p8 (.mv (.c (.nils)))])
   .ret) .skip))
   (.seq (.seq (.reg [.p p14 (.mv (.t p1)),
   .p p15 (.bin .eql (.t p14) (.c (.str 0 0)))])
   (.cond (.t p15) (.seq (.reg [.p p16 (.mv (.t p0)),
   .p p17 (.mv (.t p3)),
   .p p18 (.call 72 [(.t p16), (.t p17)]),
   .p p8 (.mv (.t p18))])
   .ret) .skip))
   (.seq (.seq (.reg [.p p19 (.mv (.t p3)),
   .p p20 (.bin .lss (.t p19) (.c (.int .i64 (.ofNat 0))))])
   (.cond (.t p20) (.reg [.p p21 (.mv (.t p0)),
   .p p22 (.mv (.t p1)),
   .p p23 (.call 73 [(.t p21), (.t p22)]),
   .p p24 (.bin .add (.t p23) (.c (.int .i64 (.ofNat 1)))),
   .p p3 (.mv (.t p24))]) .skip))
   (.seq (.reg [.p p25 (.mv (.t p3)),
   .p p26 (.mv (.t p0)),
   .p p27 (.lenStr (.t p26)),
   .p p28 (.bin .add (.t p27) (.c (.int .i64 (.ofNat 1)))),
   .p p29 (.min (.t p25) (.t p28)),
   .p p3 (.mv (.t p29))])
   (.seq (.reg [.p p30 (.mv (.t p3)),
   .p p31 (.mkslice 9 1 16 [.str 0 0] (.t p30) (.t p30)),
   .p p9 (.mv (.t p31))])
   (.seq (.reg [.p p32 (.mv (.t p3)),
   .p p33 (.bin .sub (.t p32) (.c (.int .i64 (.ofNat 1)))),
   .p p3 (.mv (.t p33))])
   (.seq (.reg [.p p10 (.mv (.c (.int .i64 (.ofNat 0))))])
   (.seq (.block 0 (.loop (.seq (.seq (.reg [.p p34 (.mv (.t p10)),
   .p p35 (.mv (.t p3)),
   .p p36 (.bin .lss (.t p34) (.t p35))])
   (.cond (.t p36) .skip (.exit 0)))
   (.block 1 (.seq (.reg [.p p37 (.mv (.t p0)),
   .p p38 (.mv (.t p1)),
   .p p39 (.call 74 [(.t p37), (.t p38)]),
   .p p11 (.mv (.t p39))])
   (.seq (.seq (.reg [.p p40 (.mv (.t p11)),
   .p p41 (.bin .lss (.t p40) (.c (.int .i64 (.ofNat 0))))])
   (.cond (.t p41) (.exit 0) .skip))
   (.seq (.reg [.p p42 (.mv (.t p9)),
   .p p43 (.mv (.t p10)),
   .p p44 (.mv (.t p0)),
   .p p45 (.mv (.t p11)),
   .p p46 (.mv (.t p2)),
   .p p47 (.bin .add (.t p45) (.t p46)),
   .p p48 (.sliceStr (.t p44) none (some (.t p47))),
   .p p49 (.iaddrS 1 (.t p42) (.t p43)),
   .n (.store 1 (.t p49) (.t p48))])
   (.seq (.reg [.p p50 (.mv (.t p0)),
   .p p51 (.mv (.t p11)),
   .p p52 (.mv (.t p1)),
   .p p53 (.lenStr (.t p52)),
   .p p54 (.bin .add (.t p51) (.t p53)),
   .p p55 (.sliceStr (.t p50) (some (.t p54)) none),
   .p p0 (.mv (.t p55))])
   (.reg [.p p56 (.mv (.t p10)),
   .p p57 (.bin .add (.t p56) (.c (.int .i64 (.ofNat 1)))),
   .p p10 (.mv (.t p57))])))))))))
   (.seq (.reg [.p p58 (.mv (.t p9)),
   .p p59 (.mv (.t p10)),
   .p p60 (.mv (.t p0)),
   .p p61 (.iaddrS 1 (.t p58) (.t p59)),
   .n (.store 1 (.t p61) (.t p60))])
   (.seq (.reg [.p p62 (.mv (.t p9)),
   .p p63 (.mv (.t p10)),
   .p p64 (.bin .add (.t p63) (.c (.int .i64 (.ofNat 1)))),
   .p p65 (.sliceS 1 (.t p62) none (some (.t p64)) none),
   .p p8 (.mv (.t p65))])
   .ret)))))))))))
   [.t p8]
/- strings.TrimLeft -/
def a63 : AF :=
  .code [p0, p1] (.seq (.reg [.p p4 (.mv (.c (.str 0 0)))])
   (.seq (.seq (.reg [.p p7 (.mv (.t p0)),
   .p p8 (.bin .eql (.t p7) (.c (.str 0 0))),
   .p p9 (.mv (.t p8)),
   .g p10 (.mv (.t p1)) p9 false,
   .g p11 (.bin .eql (.t p10) (.c (.str 0 0))) p9 false,
   .p p12 (.pick (.t p9) (.c (.bool true)) (.t p11))])
   (.cond (.t p12) (.seq (.reg [.p p13 (.mv (.t p0)),
   .p p4 (.mv (.t p13))])
   .ret) .skip))
   (.seq (.seq (.reg [.p p14 (.mv (.t p1)),
   .p p15 (.lenStr (.t p14)),
   .p p16 (.bin .eql (.t p15) (.c (.int .i64 (.ofNat 1)))),
   .p p17 (.mv (.t p16)),
   .g p18 (.mv (.t p1)) p17 true,
   .g p19 (.idxStr (.t p18) (.c (.int .i64 (.ofNat 0)))) p17 true,
   .g p20 (.bin .lss (.t p19) (.c (.int .u8 (.ofNat 128)))) p17 true,
   .p p21 (.pick (.t p17) (.t p20) (.c (.bool false)))])
   (.cond (.t p21) (.seq (.reg [.p p22 (.mv (.t p0)),
   .p p23 (.mv (.t p1)),
   .p p24 (.idxStr (.t p23) (.c (.int .i64 (.ofNat 0)))),
   .p p25 (.call 75 [(.t p22), (.t p24)]),
   .p p4 (.mv (.t p25))])
   .ret) .skip))
   (.seq (.seq (.reg [.p p27 (.mv (.t p1)),
   .p p28 (.call 76 [(.t p27)]),
   .p p26 (.mv (.t p28)),
   .p p29 (.extract 0 (.t p26)),
   .p p30 (.extract 1 (.t p26)),
   .p p5 (.alloc 145 [.bool false, .bool false, .bool false, .bool false, .bool false, .bool false, .bool false, .bool false, .bool false, .bool false, .bool false, .bool false, .bool false, .bool false, .bool false, .bool false, .bool false, .bool false, .bool false, .bool false, .bool false, .bool false, .bool false, .bool false, .bool false, .bool false, .bool false, .bool false, .bool false, .bool false, .bool false, .bool false, .bool false, .bool false, .bool false, .bool false, .bool false, .bool false, .bool false, .bool false, .bool false, .bool false, .bool false, .bool false, .bool false, .bool false, .bool false, .bool false, .bool false, .bool false, .bool false, .bool false, .bool false, .bool false, .bool false, .bool false, .bool false, .bool false, .bool false, .bool false, .bool false, .bool false, .bool false, .bool false, .bool false, .bool false, .bool false, .bool false, .bool false, .bool false, .bool false, .bool false, .bool false, .bool false, .bool false, .bool false, .bool false, .bool false, .bool false, .bool false, .bool false, .bool false, .bool false, .bool false, .bool false, .bool false, .bool false, .bool false, .bool false, .bool false, .bool false, .bool false, .bool false, .bool false, .bool false, .bool false, .bool false, .bool false, .bool false, .bool false, .bool false, .bool false, .bool false, .bool false, .bool false, .bool false, .bool false, .bool false, .bool false, .bool false, .bool false, .bool false, .bool false, .bool false, .bool false, .bool false, .bool false, .bool false, .bool false, .bool false, .bool false, .bool false, .bool false, .bool false, .bool false, .bool false, .bool false, .bool false, .bool false, .bool false, .bool false, .bool false, .bool false, .bool false, .bool false, .bool false, .bool false, .bool false, .bool false, .bool false, .bool false, .bool false, .bool false, .bool false, .bool false, .bool false, .bool false, .bool false, .bool false, .bool false, .bool false, .bool false, .bool false, .bool false, .bool false, .bool false, .bool false, .bool false, .bool false, .bool false, .bool false, .bool false, .bool false, .bool false, .bool false, .bool false, .bool false, .bool false, .bool false, .bool false, .bool false, .bool false, .bool false, .bool false, .bool false, .bool false, .bool false, .bool false, .bool false, .bool false, .bool false, .bool false, .bool false, .bool false, .bool false, .bool false, .bool false, .bool false, .bool false, .bool false, .bool false, .bool false, .bool false, .bool false, .bool false, .bool false, .bool false, .bool false, .bool false, .bool false, .bool false, .bool false, .bool false, .bool false, .bool false, .bool false, .bool false, .bool false, .bool false, .bool false, .bool false, .bool false, .bool false, .bool false, .bool false, .bool false, .bool false, .bool false, .bool false, .bool false, .bool false, .bool false, .bool false, .bool false, .bool false, .bool false, .bool false, .bool false, .bool false, .bool false, .bool false, .bool false, .bool false, .bool false, .bool false, .bool false, .bool false, .bool false, .bool false, .bool false, .bool false, .bool false, .bool false, .bool false, .bool false, .bool false, .bool false, .bool false, .bool false, .bool false, .bool false, .bool false, .bool false, .bool false, .bool false, .bool false]),
   .n (.store 256 (.t p5) (.t p29)),
   .p p6 (.mv (.t p30))])
   (.seq (.reg [.p p31 (.mv (.t p6))])
   (.cond (.t p31) (.seq (.reg [.p p32 (.mv (.t p0)),
   .p p33 (.call 77 [(.t p32), (.t p5)]),
   .p p4 (.mv (.t p33))])
   .ret) .skip)))
   (.seq (.reg [.p p34 (.mv (.t p0)),
   .p p35 (.mv (.t p1)),
   .p p36 (.call 78 [(.t p34), (.t p35)]),
   .p p4 (.mv (.t p36))])
   .ret)))))
   [.t p4]
def a64 : AF := .no
def a65 : AF := .no
/- bastion/words.plain -/
def a66 : AF :=
  .code [p0] (.seq (.reg [.p p2 (.mv (.c (.bool false)))])
   (.seq (.reg [.p p3 (.mv (.t p0)),
   .p p4 (.bin .geq (.t p3) (.c (.int .u8 (.ofNat 33)))),
   .p p5 (.mv (.t p4)),
   .g p6 (.mv (.t p0)) p5 true,
   .g p7 (.bin .leq (.t p6) (.c (.int .u8 (.ofNat 126)))) p5 true,
   .p p8 (.pick (.t p5) (.t p7) (.c (.bool false))),
   .p p9 (.mv (.t p8)),
   .g p10 (.mv (.t p0)) p9 true,
   .g p11 (.bin .neq (.t p10) (.c (.int .u8 (.ofNat 34)))) p9 true,
   .p p12 (.pick (.t p9) (.t p11) (.c (.bool false))),
   .p p2 (.mv (.t p12))])
   .ret))
   [.t p2]
/- (*bastion/desc.Doc).section -/
def a67 : AF :=
  .code [p0, p1, p2, p3] (.seq (.reg [.p p8 (.mv (.c (.nili)))])
   (.seq (.seq (.reg [.p p12 (.mv (.t p3)),
   .p p13 (.lenSlc (.t p12)),
   .p p14 (.bin .neq (.t p13) (.c (.int .i64 (.ofNat 1))))])
   (.cond (.t p14) (.seq (.reg [.p p15 (.mkif 24 (.c (.int .i64 (.ofNat 4)))),
   .p p8 (.mv (.t p15))])
   .ret) .skip))
   (.seq (.seq (.reg [.p p16 (.mv (.t p3)),
   .p p17 (.iaddrS 1 (.t p16) (.c (.int .i64 (.ofNat 0)))),
   .p p18 (.load1 (.t p17)),
   .p p19 (.call 81 [(.t p18)]),
   .p p20 (.not (.t p19))])
   (.cond (.t p20) (.seq (.reg [.p p21 (.mkif 24 (.c (.int .i64 (.ofNat 63)))),
   .p p8 (.mv (.t p21))])
   .ret) .skip))
   (.seq (.reg [.p p9 (.mv (.c (.int .i64 (.ofNat 0))))])
   (.seq (.seq (.reg [.p p22 (.mv (.t p0)),
   .p p23 (.nilck (.t p22)),
   .p p24 (.faddr 1 (.t p23)),
   .p p25 (.load1 (.t p24)),
   .p p26 (.lenSlc (.t p25)),
   .p p27 (.mv (.c (.int .i64 (.ofNat 0))))])
   (.block 0 (.loop (.seq (.reg [.p p28 (.bin .lss (.t p27) (.t p26))])
   (.seq (.cond (.t p28) .skip (.exit 0))
   (.seq (.block 1 (.seq (.reg [.p p29 (.iaddrS 4 (.t p25) (.t p27)),
   .p p30 (.loadn 4 (.t p29)),
   .p p11 (.alloc 79 [.int .i64 (.ofNat 0), .int .u8 (.ofNat 0), .str 0 0, .nils]),
   .n (.store 4 (.t p11) (.t p30))])
   (.seq (.reg [.p p31 (.faddr 1 (.t p11)),
   .p p32 (.load1 (.t p31)),
   .p p33 (.mv (.t p2)),
   .p p34 (.bin .eql (.t p32) (.t p33))])
   (.cond (.t p34) (.seq (.reg [.p p35 (.mv (.t p9)),
   .p p36 (.bin .add (.t p35) (.c (.int .i64 (.ofNat 1)))),
   .p p9 (.mv (.t p36))])
   (.seq (.dreg [(.p p37 (.faddr 2 (.t p11)), 0), (.p p38 (.load1 (.t p37)), 1), (.p p39 (.mv (.t p3)), 0), (.p p40 (.iaddrS 1 (.t p39) (.c (.int .i64 (.ofNat 0)))), 4), (.p p41 (.load1 (.t p40)), 12), (.p p42 (.bin .eql (.t p38) (.t p41)), 31)])
   (.cond (.t p42) (.seq (.reg [.p p43 (.mkif 24 (.c (.int .i64 (.ofNat 6)))),
   .p p8 (.mv (.t p43))])
   .ret) .skip))) .skip))))
   (.reg [.p p44 (.bin .add (.t p27) (.c (.int .i64 (.ofNat 1)))),
   .p p27 (.mv (.t p44))])))))))
   (.seq (.seq (.reg [.p p45 (.mv (.t p9)),
   .p p46 (.bin .geq (.t p45) (.c (.int .i64 (.ofNat 24))))])
   (.cond (.t p46) (.seq (.reg [.p p47 (.mkif 24 (.c (.int .i64 (.ofNat 3)))),
   .p p8 (.mv (.t p47))])
   .ret) .skip))
   (.seq (.dreg [(.p p48 (.mv (.t p0)), 0), (.p p49 (.mv (.t p0)), 0), (.p p50 (.nilck (.t p49)), 2), (.p p51 (.faddr 1 (.t p50)), 6), (.p p52 (.load1 (.t p51)), 14), (.p p53 (.mv (.t p1)), 0), (.p p54 (.mv (.t p2)), 0), (.p p55 (.mv (.t p3)), 0), (.p p56 (.iaddrS 1 (.t p55) (.c (.int .i64 (.ofNat 0)))), 128), (.p p57 (.load1 (.t p56)), 384), (.p p58 (.build [([], 1, (.t p53)), ([], 1, (.t p54)), ([], 1, (.t p57))] [.nils]), 992), (.p p59 (.bslice 79 1 4 [([], 4, (.t p58))] []), 2016), (.p p60 (.append 79 4 56 (.t p52) (.t p59)), 4094), (.p p61 (.nilck (.t p48)), 8191), (.p p62 (.faddr 1 (.t p61)), 16383), (.n (.store 1 (.t p62) (.t p60)), 32767)])
   (.seq (.reg [.p p8 (.mv (.c (.nili)))])
   .ret))))))))
   [.t p8]
/- (bastion/desc.rule).check -/
def a68 : AF :=
  .code [p0, p1, p2, p3] (.seq (.reg [.p p4 (.box 128 (.t p0)),
   .p p7 (.box 42 (.t p3)),
   .p p8 (.mv (.c (.nili)))])
   (.seq (.reg [.p p18 (.faddr 2 (.t p7)),
   .p p19 (.load1 (.t p18)),
   .p p20 (.lenSlc (.t p19)),
   .p p9 (.mv (.t p20))])
   (.seq (.seq (.reg [.p p21 (.faddr 0 (.t p4)),
   .p p22 (.load1 (.t p21)),
   .p p23 (.eq false .fn (.t p22) (.c (.nilf))),
   .p p24 (.mv (.t p23)),
   .g p25 (.faddr 0 (.t p4)) p24 false,
   .g p26 (.load1 (.t p25)) p24 false,
   .g p27 (.mv (.t p1)) p24 false,
   .g p28 (.mv (.t p2)) p24 false,
   .g p29 (.lenSlc (.t p28)) p24 false,
   .g p30 (.bin .eql (.t p29) (.c (.int .i64 (.ofNat 0)))) p24 false,
   .g p31 (.callv (.t p26) [(.t p27), (.t p30)]) p24 false,
   .g p32 (.not (.t p31)) p24 false,
   .p p33 (.pick (.t p24) (.c (.bool true)) (.t p32)),
   .p p34 (.mv (.t p33)),
   .g p35 (.mv (.t p9)) p34 false,
   .g p36 (.faddr 1 (.t p4)) p34 false,
   .g p37 (.load1 (.t p36)) p34 false,
   .g p38 (.bin .lss (.t p35) (.t p37)) p34 false,
   .p p39 (.pick (.t p34) (.c (.bool true)) (.t p38)),
   .p p40 (.mv (.t p39)),
   .g p41 (.mv (.t p9)) p40 false,
   .g p42 (.faddr 2 (.t p4)) p40 false,
   .g p43 (.load1 (.t p42)) p40 false,
   .g p44 (.bin .gtr (.t p41) (.t p43)) p40 false,
   .p p45 (.pick (.t p40) (.c (.bool true)) (.t p44))])
   (.cond (.t p45) (.seq (.reg [.p p46 (.mkif 24 (.c (.int .i64 (.ofNat 4)))),
   .p p8 (.mv (.t p46))])
   .ret) .skip))
   (.seq (.seq (.reg [.p p47 (.faddr 2 (.t p7)),
   .p p48 (.load1 (.t p47)),
   .p p49 (.lenSlc (.t p48)),
   .p p50 (.mv (.c (.int .i64 (.ofNat 0))))])
   (.block 0 (.loop (.seq (.reg [.p p51 (.bin .lss (.t p50) (.t p49))])
   (.seq (.cond (.t p51) .skip (.exit 0))
   (.seq (.block 1 (.seq (.reg [.p p52 (.mv (.t p50)),
   .p p53 (.iaddrS 1 (.t p48) (.t p50)),
   .p p54 (.load1 (.t p53)),
   .p p10 (.mv (.t p52)),
   .p p11 (.mv (.t p54))])
   (.seq (.reg [.p p55 (.faddr 3 (.t p4)),
   .p p56 (.load1 (.t p55)),
   .p p57 (.bin .lss (.t p56) (.c (.int .i64 (.ofNat 0)))),
   .p p58 (.mv (.t p57)),
   .g p59 (.mv (.t p10)) p58 false,
   .g p60 (.faddr 3 (.t p4)) p58 false,
   .g p61 (.load1 (.t p60)) p58 false,
   .g p62 (.bin .lss (.t p59) (.t p61)) p58 false,
   .p p63 (.pick (.t p58) (.c (.bool true)) (.t p62)),
   .p p64 (.mv (.t p63)),
   .g p65 (.mv (.t p11)) p64 true,
   .g p66 (.call 81 [(.t p65)]) p64 true,
   .g p67 (.not (.t p66)) p64 true,
   .p p68 (.pick (.t p64) (.t p67) (.c (.bool false)))])
   (.cond (.t p68) (.seq (.reg [.p p69 (.mkif 24 (.c (.int .i64 (.ofNat 63)))),
   .p p8 (.mv (.t p69))])
   .ret) .skip))))
   (.reg [.p p70 (.bin .add (.t p50) (.c (.int .i64 (.ofNat 1)))),
   .p p50 (.mv (.t p70))])))))))
   (.seq (.seq (.reg [.p p71 (.faddr 4 (.t p4)),
   .p p72 (.load1 (.t p71)),
   .p p73 (.eq true .fn (.t p72) (.c (.nilf)))])
   (.cond (.t p73) (.seq (.reg [.p p74 (.faddr 2 (.t p7)),
   .p p75 (.load1 (.t p74)),
   .p p76 (.faddr 3 (.t p4)),
   .p p77 (.load1 (.t p76)),
   .p p78 (.max (.c (.int .i64 (.ofNat 0))) (.t p77)),
   .p p79 (.sliceS 1 (.t p75) (some (.t p78)) none none),
   .p p80 (.lenSlc (.t p79)),
   .p p81 (.mv (.c (.int .i64 (.ofNat 0))))])
   (.block 2 (.loop (.seq (.reg [.p p82 (.bin .lss (.t p81) (.t p80))])
   (.seq (.cond (.t p82) .skip (.exit 2))
   (.seq (.block 3 (.seq (.reg [.p p83 (.iaddrS 1 (.t p79) (.t p81)),
   .p p84 (.load1 (.t p83)),
   .p p13 (.mv (.t p84))])
   (.seq (.reg [.p p85 (.faddr 4 (.t p4)),
   .p p86 (.load1 (.t p85)),
   .p p87 (.mv (.t p13)),
   .p p88 (.callv (.t p86) [(.t p87)]),
   .p p89 (.not (.t p88))])
   (.cond (.t p89) (.seq (.reg [.p p90 (.mkif 24 (.c (.int .i64 (.ofNat 4)))),
   .p p8 (.mv (.t p90))])
   .ret) .skip))))
   (.reg [.p p91 (.bin .add (.t p81) (.c (.int .i64 (.ofNat 1)))),
   .p p81 (.mv (.t p91))]))))))) .skip))
   (.seq (.seq (.reg [.p p92 (.faddr 5 (.t p4)),
   .p p93 (.load1 (.t p92)),
   .p p94 (.bin .gtr (.t p93) (.c (.int .i64 (.ofNat 0))))])
   (.cond (.t p94) (.seq (.reg [.p p96 (.faddr 2 (.t p7)),
   .p p97 (.load1 (.t p96)),
   .p p98 (.iaddrS 1 (.t p97) (.c (.int .i64 (.ofNat 0)))),
   .p p99 (.load1 (.t p98)),
   .p p100 (.call 82 [(.t p99)]),
   .p p95 (.mv (.t p100)),
   .p p101 (.extract 0 (.t p95)),
   .p p102 (.extract 1 (.t p95)),
   .p p14 (.mv (.t p101)),
   .p p15 (.mv (.t p102))])
   (.seq (.dreg [(.p p103 (.mv (.t p15)), 0), (.p p104 (.eq true (.ifc true [24, 186]) (.t p103) (.c (.nili))), 1), (.p p105 (.mv (.t p104)), 3), (.g p106 (.mv (.t p14)) p105 false, 7), (.g p107 (.call 83 [(.t p106)]) p105 false, 15), (.g p108 (.faddr 2 (.t p7)) p105 false, 7), (.g p109 (.load1 (.t p108)) p105 false, 39), (.g p110 (.iaddrS 1 (.t p109) (.c (.int .i64 (.ofNat 0)))) p105 false, 103), (.g p111 (.load1 (.t p110)) p105 false, 231), (.g p112 (.bin .neq (.t p107) (.t p111)) p105 false, 511), (.p p113 (.pick (.t p105) (.c (.bool true)) (.t p112)), 1023), (.p p114 (.mv (.t p113)), 2047), (.g p115 (.mv (.t p14)) p114 false, 4095), (.g p116 (.bin .lss (.t p115) (.c (.int .i64 (.ofNat 1)))) p114 false, 8191), (.p p117 (.pick (.t p114) (.c (.bool true)) (.t p116)), 16383), (.p p118 (.mv (.t p117)), 32767), (.g p119 (.mv (.t p14)) p118 false, 65535), (.g p120 (.faddr 5 (.t p4)) p118 false, 65535), (.g p121 (.load1 (.t p120)) p118 false, 196607), (.g p122 (.bin .gtr (.t p119) (.t p121)) p118 false, 524287), (.p p123 (.pick (.t p118) (.c (.bool true)) (.t p122)), 1048575)])
   (.cond (.t p123) (.seq (.reg [.p p124 (.mkif 24 (.c (.int .i64 (.ofNat 1)))),
   .p p8 (.mv (.t p124))])
   .ret) .skip))) .skip))
   (.seq (.seq (.reg [.p p125 (.mv (.t p2)),
   .p p126 (.lenSlc (.t p125)),
   .p p127 (.mv (.c (.int .i64 (.ofNat 0))))])
   (.block 4 (.loop (.seq (.reg [.p p128 (.bin .lss (.t p127) (.t p126))])
   (.seq (.cond (.t p128) .skip (.exit 4))
   (.seq (.block 5 (.seq (.reg [.p p129 (.iaddrS 3 (.t p125) (.t p127)),
   .p p130 (.loadn 3 (.t p129)),
   .p p17 (.alloc 42 [.int .i64 (.ofNat 0), .str 0 0, .nils]),
   .n (.store 3 (.t p17) (.t p130))])
   (.seq (.dreg [(.p p131 (.faddr 6 (.t p4)), 0), (.p p132 (.load1 (.t p131)), 1), (.p p133 (.mv (.t p132)), 3), (.g p134 (.faddr 1 (.t p17)) p133 true, 7), (.g p135 (.load1 (.t p134)) p133 true, 15), (.g p136 (.faddr 1 (.t p7)) p133 true, 7), (.g p137 (.load1 (.t p136)) p133 true, 39), (.g p138 (.bin .eql (.t p135) (.t p137)) p133 true, 127), (.p p139 (.pick (.t p133) (.t p138) (.c (.bool false))), 255), (.p p140 (.mv (.t p139)), 511), (.g p141 (.faddr 1 (.t p7)) p140 true, 1023), (.g p142 (.load1 (.t p141)) p140 true, 2047), (.g p143 (.bin .neq (.t p142) (.c (.str 4 1936291937))) p140 true, 4095), (.g p144 (.mv (.t p143)) p140 true, 8191), (.g p145 (.faddr 2 (.t p17)) p144 false, 16383), (.g p146 (.load1 (.t p145)) p144 false, 32767), (.g p147 (.iaddrS 1 (.t p146) (.c (.int .i64 (.ofNat 0)))) p144 false, 65535), (.g p148 (.load1 (.t p147)) p144 false, 131071), (.g p149 (.faddr 2 (.t p7)) p144 false, 16383), (.g p150 (.load1 (.t p149)) p144 false, 278527), (.g p151 (.iaddrS 1 (.t p150) (.c (.int .i64 (.ofNat 0)))) p144 false, 802815), (.g p152 (.load1 (.t p151)) p144 false, 1851391), (.g p153 (.bin .eql (.t p148) (.t p152)) p144 false, 4194303), (.g p154 (.pick (.t p144) (.c (.bool true)) (.t p153)) p140 true, 8388607), (.p p155 (.pick (.t p140) (.t p154) (.c (.bool false))), 16777215)])
   (.cond (.t p155) (.seq (.reg [.p p156 (.mkif 24 (.c (.int .i64 (.ofNat 6)))),
   .p p8 (.mv (.t p156))])
   .ret) .skip))))
   (.reg [.p p157 (.bin .add (.t p127) (.c (.int .i64 (.ofNat 1)))),
   .p p127 (.mv (.t p157))])))))))
   (.seq (.seq (.reg [.p p158 (.mv (.t p2)),
   .p p159 (.lenSlc (.t p158)),
   .p p160 (.bin .geq (.t p159) (.c (.int .i64 (.ofNat 40))))])
   (.cond (.t p160) (.seq (.reg [.p p161 (.mkif 24 (.c (.int .i64 (.ofNat 3)))),
   .p p8 (.mv (.t p161))])
   .ret) .skip))
   (.seq (.reg [.p p8 (.mv (.c (.nili)))])
   .ret)))))))))
   [.t p8]
def a69 : AF := .no
def a70 : AF := .no
def a71 : AF := .no
def a72 : AF := .no
/- strings.Count -/
def a73 : AF :=
  .code [p0, p1] (.seq (.reg [.p p4 (.mv (.c (.int .i64 (.ofNat 0))))])
   (.seq (.seq (.reg [.p p7 (.mv (.t p1)),
   .p p8 (.lenStr (.t p7)),
   .p p9 (.bin .eql (.t p8) (.c (.int .i64 (.ofNat 0))))])
   (.cond (.t p9) (.seq (.reg [.p p10 (.mv (.t p0)),
   .p p11 (.call 89 [(.t p10)]),
   .p p12 (.bin .add (.t p11) (.c (.int .i64 (.ofNat 1)))),
   .p p4 (.mv (.t p12))])
   .ret) .skip))
   (.seq (.seq (.reg [.p p13 (.mv (.t p1)),
   .p p14 (.lenStr (.t p13)),
   .p p15 (.bin .eql (.t p14) (.c (.int .i64 (.ofNat 1))))])
   (.cond (.t p15) (.seq (.reg [.p p16 (.mv (.t p0)),
   .p p17 (.mv (.t p1)),
   .p p18 (.idxStr (.t p17) (.c (.int .i64 (.ofNat 0)))),
   .p p19 (.call 91 [(.t p16), (.t p18)]),
   .p p4 (.mv (.t p19))])
   .ret) .skip))
   (.seq (.reg [.p p5 (.mv (.c (.int .i64 (.ofNat 0))))])
   (.block 0 (.loop (.block 1 (.seq (.reg [.p p20 (.mv (.t p0)),
   .p p21 (.mv (.t p1)),
   .p p22 (.call 74 [(.t p20), (.t p21)]),
   .p p6 (.mv (.t p22))])
   (.seq (.seq (.reg [.p p23 (.mv (.t p6)),
   .p p24 (.bin .eql (.t p23) (.c (.int .i64 (.negSucc 0))))])
   (.cond (.t p24) (.seq (.reg [.p p25 (.mv (.t p5)),
   .p p4 (.mv (.t p25))])
   .ret) .skip))
   (.seq (.reg [.p p26 (.mv (.t p5)),
   .p p27 (.bin .add (.t p26) (.c (.int .i64 (.ofNat 1)))),
   .p p5 (.mv (.t p27))])
   (.reg [.p p28 (.mv (.t p0)),
   .p p29 (.mv (.t p6)),
   .p p30 (.mv (.t p1)),
   .p p31 (.lenStr (.t p30)),
   .p p32 (.bin .add (.t p29) (.t p31)),
   .p p33 (.sliceStr (.t p28) (some (.t p32)) none),
   .p p0 (.mv (.t p33))])))))))))))
   [.t p4]
/- strings.Index -/
def a74 : AF :=
  .code [p0, p1] (.seq (.reg [.p p4 (.mv (.c (.int .i64 (.ofNat 0))))])
   (.seq (.reg [.p p5 (.mv (.t p0)),
   .p p6 (.mv (.t p1)),
   .p p7 (.call 34 [(.t p5), (.t p6)]),
   .p p4 (.mv (.t p7))])
   .ret))
   [.t p4]
def a75 : AF := .no
/- strings.makeASCIISet -/
def a76 : AF :=
  .code [p0] (.seq (.reg [.p p2 (.alloc 145 [.bool false, .bool false, .bool false, .bool false, .bool false, .bool false, .bool false, .bool false, .bool false, .bool false, .bool false, .bool false, .bool false, .bool false, .bool false, .bool false, .bool false, .bool false, .bool false, .bool false, .bool false, .bool false, .bool false, .bool false, .bool false, .bool false, .bool false, .bool false, .bool false, .bool false, .bool false, .bool false, .bool false, .bool false, .bool false, .bool false, .bool false, .bool false, .bool false, .bool false, .bool false, .bool false, .bool false, .bool false, .bool false, .bool false, .bool false, .bool false, .bool false, .bool false, .bool false, .bool false, .bool false, .bool false, .bool false, .bool false, .bool false, .bool false, .bool false, .bool false, .bool false, .bool false, .bool false, .bool false, .bool false, .bool false, .bool false, .bool false, .bool false, .bool false, .bool false, .bool false, .bool false, .bool false, .bool false, .bool false, .bool false, .bool false, .bool false, .bool false, .bool false, .bool false, .bool false, .bool false, .bool false, .bool false, .bool false, .bool false, .bool false, .bool false, .bool false, .bool false, .bool false, .bool false, .bool false, .bool false, .bool false, .bool false, .bool false, .bool false, .bool false, .bool false, .bool false, .bool false, .bool false, .bool false, .bool false, .bool false, .bool false, .bool false, .bool false, .bool false, .bool false, .bool false, .bool false, .bool false, .bool false, .bool false, .bool false, .bool false, .bool false, .bool false, .bool false, .bool false, .bool false, .bool false, .bool false, .bool false, .bool false, .bool false, .bool false, .bool false, .bool false, .bool false, .bool false, .bool false, .bool false, .bool false, .bool false, .bool false, .bool false, .bool false, .bool false, .bool false, .bool false, .bool false, .bool false, .bool false, .bool false, .bool false, .bool false, .bool false, .bool false, .bool false, .bool false, .bool false, .bool false, .bool false, .bool false, .bool false, .bool false, .bool false, .bool false, .bool false, .bool false, .bool false, .bool false, .bool false, .bool false, .bool false, .bool false, .bool false, .bool false, .bool false, .bool false, .bool false, .bool false, .bool false, .bool false, .bool false, .bool false, .bool false, .bool false, .bool false, .bool false, .bool false, .bool false, .bool false, .bool false, .bool false, .bool false, .bool false, .bool false, .bool false, .bool false, .bool false, .bool false, .bool false, .bool false, .bool false, .bool false, .bool false, .bool false, .bool false, .bool false, .bool false, .bool false, .bool false, .bool false, .bool false, .bool false, .bool false, .bool false, .bool false, .bool false, .bool false, .bool false, .bool false, .bool false, .bool false, .bool false, .bool false, .bool false, .bool false, .bool false, .bool false, .bool false, .bool false, .bool false, .bool false, .bool false, .bool false, .bool false, .bool false, .bool false, .bool false, .bool false, .bool false, .bool false, .bool false, .bool false, .bool false, .bool false, .bool false, .bool false, .bool false, .bool false, .bool false, .bool false, .bool false, .bool false, .bool false, .bool false, .bool false, .bool false, .bool false]),
   .p p3 (.mv (.c (.bool false)))])
   (.seq (.seq (.reg [.p p4 (.mv (.c (.int .i64 (.ofNat 0))))])
   (.block 0 (.loop (.seq (.seq (.reg [.p p6 (.mv (.t p4)),
   .p p7 (.mv (.t p0)),
   .p p8 (.lenStr (.t p7)),
   .p p9 (.bin .lss (.t p6) (.t p8))])
   (.cond (.t p9) .skip (.exit 0)))
   (.seq (.block 1 (.seq (.reg [.p p12 (.mv (.t p0)),
   .p p13 (.mv (.t p4)),
   .p p14 (.idxStr (.t p12) (.t p13)),
   .p p5 (.mv (.t p14))])
   (.seq (.seq (.reg [.p p15 (.mv (.t p5)),
   .p p16 (.bin .geq (.t p15) (.c (.int .u8 (.ofNat 128))))])
   (.cond (.t p16) (.seq (.reg [.p p17 (.loadn 256 (.t p2)),
   .n (.store 256 (.t p2) (.t p17)),
   .p p3 (.mv (.c (.bool false)))])
   .ret) .skip))
   (.reg [.p p18 (.mv (.t p5)),
   .p p19 (.iaddrA 256 1 (.t p2) (.t p18)),
   .n (.store 1 (.t p19) (.c (.bool true)))]))))
   (.reg [.p p10 (.mv (.t p4)),
   .p p11 (.bin .add (.t p10) (.c (.int .i64 (.ofNat 1)))),
   .p p4 (.mv (.t p11))]))))))
   (.seq (.reg [.p p20 (.loadn 256 (.t p2)),
   .n (.store 256 (.t p2) (.t p20)),
   .p p3 (.mv (.c (.bool true)))])
   .ret)))
   [.cell p2 256, .t p3]
/- strings.trimLeftASCII -/
def a77 : AF :=
  .code [p0, p1] (.seq (.reg [.p p4 (.mv (.c (.str 0 0)))])
   (.seq (.block 0 (.loop (.seq (.seq (.reg [.p p5 (.mv (.t p0)),
   .p p6 (.lenStr (.t p5)),
   .p p7 (.bin .gtr (.t p6) (.c (.int .i64 (.ofNat 0))))])
   (.cond (.t p7) .skip (.exit 0)))
   (.block 1 (.seq (.seq (.reg [.p p8 (.mv (.t p1)),
   .p p9 (.mv (.t p0)),
   .p p10 (.idxStr (.t p9) (.c (.int .i64 (.ofNat 0)))),
   .p p11 (.call 92 [(.t p8), (.t p10)]),
   .p p12 (.not (.t p11))])
   (.cond (.t p12) (.exit 0) .skip))
   (.reg [.p p13 (.mv (.t p0)),
   .p p14 (.sliceStr (.t p13) (some (.c (.int .i64 (.ofNat 1)))) none),
   .p p0 (.mv (.t p14))]))))))
   (.seq (.reg [.p p15 (.mv (.t p0)),
   .p p4 (.mv (.t p15))])
   .ret)))
   [.t p4]
def a78 : AF := .no
def a79 : AF := .no
def a80 : AF := .no
/- bastion/desc.Name -/
def a81 : AF :=
  .code [p0] (.seq (.reg [.p p2 (.mv (.c (.bool false)))])
   (.seq (.seq (.reg [.p p3 (.mv (.t p0)),
   .p p4 (.bin .eql (.t p3) (.c (.str 0 0))),
   .p p5 (.mv (.t p4)),
   .g p6 (.mv (.t p0)) p5 false,
   .g p7 (.lenStr (.t p6)) p5 false,
   .g p8 (.bin .gtr (.t p7) (.c (.int .i64 (.ofNat 24)))) p5 false,
   .p p9 (.pick (.t p5) (.c (.bool true)) (.t p8)),
   .p p10 (.mv (.t p9)),
   .g p11 (.mv (.t p0)) p10 false,
   .g p12 (.idxStr (.t p11) (.c (.int .i64 (.ofNat 0)))) p10 false,
   .g p13 (.bin .lss (.t p12) (.c (.int .u8 (.ofNat 97)))) p10 false,
   .p p14 (.pick (.t p10) (.c (.bool true)) (.t p13)),
   .p p15 (.mv (.t p14)),
   .g p16 (.mv (.t p0)) p15 false,
   .g p17 (.idxStr (.t p16) (.c (.int .i64 (.ofNat 0)))) p15 false,
   .g p18 (.bin .gtr (.t p17) (.c (.int .u8 (.ofNat 122)))) p15 false,
   .p p19 (.pick (.t p15) (.c (.bool true)) (.t p18))])
   (.cond (.t p19) (.seq (.reg [.p p2 (.mv (.c (.bool false)))])
   .ret) .skip))
   (.seq (.reg [.p p20 (.mv (.t p0)),
   .p p21 (.call 94 [(.t p20), (.c (.str 38 12117391813846758031141756778034423710743608522770212737987117973555293213725218199772029537))]),
   .p p22 (.bin .eql (.t p21) (.c (.str 0 0))),
   .p p2 (.mv (.t p22))])
   .ret)))
   [.t p2]
/- strconv.Atoi -/
def a82 : AF :=
  .code [p0] (.seq (.reg [.p p2 (.mv (.c (.int .i64 (.ofNat 0)))),
   .p p3 (.mv (.c (.nili)))])
   (.seq (.reg [.p p7 (.mv (.t p0)),
   .p p8 (.call 95 [(.t p7)]),
   .p p6 (.mv (.t p8)),
   .p p9 (.extract 0 (.t p6)),
   .p p10 (.extract 1 (.t p6)),
   .p p4 (.mv (.t p9)),
   .p p5 (.mv (.t p10))])
   (.seq (.seq (.reg [.p p11 (.mv (.t p5)),
   .p p12 (.eq true (.ifc true [24, 186]) (.t p11) (.c (.nili)))])
   (.cond (.t p12) (.seq (.reg [.p p13 (.mv (.t p4)),
   .p p14 (.mv (.t p0)),
   .p p15 (.mv (.t p5)),
   .p p16 (.call 96 [(.c (.str 4 1768911937)), (.t p14), (.c (.int .i64 (.ofNat 0))), (.c (.int .i64 (.ofNat 0))), (.t p15)]),
   .p p2 (.mv (.t p13)),
   .p p3 (.mv (.t p16))])
   .ret) .skip))
   (.seq (.reg [.p p17 (.mv (.t p4)),
   .p p2 (.mv (.t p17)),
   .p p3 (.mv (.c (.nili)))])
   .ret))))
   [.t p2, .t p3]
/- strconv.Itoa -/
def a83 : AF :=
  .code [p0] (.seq (.reg [.p p2 (.mv (.c (.str 0 0)))])
   (.seq (.reg [.p p3 (.mv (.t p0)),
   .p p4 (.call 97 [(.t p3)]),
   .p p2 (.mv (.t p4))])
   .ret))
   [.t p2]
def a84 : AF := .no
def a85 : AF := .no
def a86 : AF := .no
def a87 : AF := .no
def a88 : AF := .no
def a89 : AF := .no
def a90 : AF := .no
/- internal/bytealg.CountString -/ def a91 : AF := .countStr
/- (*strings.asciiSet).contains -/
def a92 : AF :=
  .code [p0, p1] (.seq (.reg [.p p4 (.mv (.c (.bool false)))])
   (.seq (.reg [.p p5 (.mv (.t p0)),
   .p p6 (.mv (.t p1)),
   .p p7 (.nilck (.t p5)),
   .p p8 (.iaddrA 256 1 (.t p7) (.t p6)),
   .p p9 (.load1 (.t p8)),
   .p p4 (.mv (.t p9))])
   .ret))
   [.t p4]
def a93 : AF := .no
/- strings.Trim -/
def a94 : AF :=
  .code [p0, p1] (.seq (.reg [.p p4 (.mv (.c (.str 0 0)))])
   (.seq (.seq (.reg [.p p7 (.mv (.t p0)),
   .p p8 (.bin .eql (.t p7) (.c (.str 0 0))),
   .p p9 (.mv (.t p8)),
   .g p10 (.mv (.t p1)) p9 false,
   .g p11 (.bin .eql (.t p10) (.c (.str 0 0))) p9 false,
   .p p12 (.pick (.t p9) (.c (.bool true)) (.t p11))])
   (.cond (.t p12) (.seq (.reg [.p p13 (.mv (.t p0)),
   .p p4 (.mv (.t p13))])
   .ret) .skip))
   (.seq (.seq (.reg [.p p14 (.mv (.t p1)),
   .p p15 (.lenStr (.t p14)),
   .p p16 (.bin .eql (.t p15) (.c (.int .i64 (.ofNat 1)))),
   .p p17 (.mv (.t p16)),
   .g p18 (.mv (.t p1)) p17 true,
   .g p19 (.idxStr (.t p18) (.c (.int .i64 (.ofNat 0)))) p17 true,
   .g p20 (.bin .lss (.t p19) (.c (.int .u8 (.ofNat 128)))) p17 true,
   .p p21 (.pick (.t p17) (.t p20) (.c (.bool false)))])
   (.cond (.t p21) (.seq (.dreg [(.p p22 (.mv (.t p0)), 0), (.p p23 (.mv (.t p1)), 0), (.p p24 (.idxStr (.t p23) (.c (.int .i64 (.ofNat 0)))), 2), (.p p25 (.call 104 [(.t p22), (.t p24)]), 7), (.p p26 (.mv (.t p1)), 0), (.p p27 (.idxStr (.t p26) (.c (.int .i64 (.ofNat 0)))), 16), (.p p28 (.call 75 [(.t p25), (.t p27)]), 63), (.p p4 (.mv (.t p28)), 127)])
   .ret) .skip))
   (.seq (.seq (.reg [.p p30 (.mv (.t p1)),
   .p p31 (.call 76 [(.t p30)]),
   .p p29 (.mv (.t p31)),
   .p p32 (.extract 0 (.t p29)),
   .p p33 (.extract 1 (.t p29)),
   .p p5 (.alloc 145 [.bool false, .bool false, .bool false, .bool false, .bool false, .bool false, .bool false, .bool false, .bool false, .bool false, .bool false, .bool false, .bool false, .bool false, .bool false, .bool false, .bool false, .bool false, .bool false, .bool false, .bool false, .bool false, .bool false, .bool false, .bool false, .bool false, .bool false, .bool false, .bool false, .bool false, .bool false, .bool false, .bool false, .bool false, .bool false, .bool false, .bool false, .bool false, .bool false, .bool false, .bool false, .bool false, .bool false, .bool false, .bool false, .bool false, .bool false, .bool false, .bool false, .bool false, .bool false, .bool false, .bool false, .bool false, .bool false, .bool false, .bool false, .bool false, .bool false, .bool false, .bool false, .bool false, .bool false, .bool false, .bool false, .bool false, .bool false, .bool false, .bool false, .bool false, .bool false, .bool false, .bool false, .bool false, .bool false, .bool false, .bool false, .bool false, .bool false, .bool false, .bool false, .bool false, .bool false, .bool false, .bool false, .bool false, .bool false, .bool false, .bool false, .bool false, .bool false, .bool false, .bool false, .bool false, .bool false, .bool false, .bool false, .bool false, .bool false, .bool false, .bool false, .bool false, .bool false, .bool false, .bool false, .bool false, .bool false, .bool false, .bool false, .bool false, .bool false, .bool false, .bool false, .bool false, .bool false, .bool false, .bool false, .bool false, .bool false, .bool false, .bool false, .bool false, .bool false, .bool false, .bool false, .bool false, .bool false, .bool false, .bool false, .bool false, .bool false, .bool false, .bool false, .bool false, .bool false, .bool false, .bool false, .bool false, .bool false, .bool false, .bool false, .bool false, .bool false, .bool false, .bool false, .bool false, .bool false, .bool false, .bool false, .bool false, .bool false, .bool false, .bool false, .bool false, .bool false, .bool false, .bool false, .bool false, .bool false, .bool false, .bool false, .bool false, .bool false, .bool false, .bool false, .bool false, .bool false, .bool false, .bool false, .bool false, .bool false, .bool false, .bool false, .bool false, .bool false, .bool false, .bool false, .bool false, .bool false, .bool false, .bool false, .bool false, .bool false, .bool false, .bool false, .bool false, .bool false, .bool false, .bool false, .bool false, .bool false, .bool false, .bool false, .bool false, .bool false, .bool false, .bool false, .bool false, .bool false, .bool false, .bool false, .bool false, .bool false, .bool false, .bool false, .bool false, .bool false, .bool false, .bool false, .bool false, .bool false, .bool false, .bool false, .bool false, .bool false, .bool false, .bool false, .bool false, .bool false, .bool false, .bool false, .bool false, .bool false, .bool false, .bool false, .bool false, .bool false, .bool false, .bool false, .bool false, .bool false, .bool false, .bool false, .bool false, .bool false, .bool false, .bool false, .bool false, .bool false, .bool false, .bool false, .bool false, .bool false, .bool false, .bool false, .bool false, .bool false, .bool false, .bool false, .bool false, .bool false, .bool false, .bool false, .bool false, .bool false, .bool false]),
   .n (.store 256 (.t p5) (.t p32)),
   .p p6 (.mv (.t p33))])
   (.seq (.reg [.p p34 (.mv (.t p6))])
   (.cond (.t p34) (.seq (.reg [.p p35 (.mv (.t p0)),
   .p p36 (.call 105 [(.t p35), (.t p5)]),
   .p p37 (.call 77 [(.t p36), (.t p5)]),
   .p p4 (.mv (.t p37))])
   .ret) .skip)))
   (.seq (.reg [.p p38 (.mv (.t p0)),
   .p p39 (.mv (.t p1)),
   .p p40 (.call 106 [(.t p38), (.t p39)]),
   .p p41 (.mv (.t p1)),
   .p p42 (.call 78 [(.t p40), (.t p41)]),
   .p p4 (.mv (.t p42))])
   .ret)))))
   [.t p4]
/- internal/strconv.Atoi -/
def a95 : AF :=
  .code [p0] (.seq (.reg [.p p2 (.mv (.c (.int .i64 (.ofNat 0)))),
   .p p3 (.mv (.c (.nili)))])
   (.seq (.reg [.p p11 (.mv (.t p0)),
   .p p12 (.lenStr (.t p11)),
   .p p4 (.mv (.t p12))])
   (.seq (.seq (.reg [.p p13 (.mv (.c (.bool false))),
   .g p14 (.mv (.t p4)) p13 true,
   .g p15 (.bin .lss (.c (.int .i64 (.ofNat 0))) (.t p14)) p13 true,
   .g p16 (.mv (.t p15)) p13 true,
   .g p17 (.mv (.t p4)) p16 true,
   .g p18 (.bin .lss (.t p17) (.c (.int .i64 (.ofNat 10)))) p16 true,
   .g p19 (.pick (.t p16) (.t p18) (.c (.bool false))) p13 true,
   .p p20 (.pick (.t p13) (.t p19) (.c (.bool false))),
   .p p21 (.mv (.t p20)),
   .g p22 (.mv (.c (.bool true))) p21 false,
   .g p23 (.mv (.t p4)) p22 true,
   .g p24 (.bin .lss (.c (.int .i64 (.ofNat 0))) (.t p23)) p22 true,
   .g p25 (.mv (.t p24)) p22 true,
   .g p26 (.mv (.t p4)) p25 true,
   .g p27 (.bin .lss (.t p26) (.c (.int .i64 (.ofNat 19)))) p25 true,
   .g p28 (.pick (.t p25) (.t p27) (.c (.bool false))) p22 true,
   .g p29 (.pick (.t p22) (.t p28) (.c (.bool false))) p21 false,
   .p p30 (.pick (.t p21) (.c (.bool true)) (.t p29))])
   (.cond (.t p30) (.seq (.reg [.p p31 (.mv (.t p0)),
   .p p5 (.mv (.t p31))])
   (.seq (.seq (.reg [.p p32 (.mv (.t p0)),
   .p p33 (.idxStr (.t p32) (.c (.int .i64 (.ofNat 0)))),
   .p p34 (.bin .eql (.t p33) (.c (.int .u8 (.ofNat 45)))),
   .p p35 (.mv (.t p34)),
   .g p36 (.mv (.t p0)) p35 false,
   .g p37 (.idxStr (.t p36) (.c (.int .i64 (.ofNat 0)))) p35 false,
   .g p38 (.bin .eql (.t p37) (.c (.int .u8 (.ofNat 43)))) p35 false,
   .p p39 (.pick (.t p35) (.c (.bool true)) (.t p38))])
   (.cond (.t p39) (.seq (.reg [.p p40 (.mv (.t p0)),
   .p p41 (.sliceStr (.t p40) (some (.c (.int .i64 (.ofNat 1)))) none),
   .p p0 (.mv (.t p41))])
   (.seq (.reg [.p p42 (.mv (.t p0)),
   .p p43 (.lenStr (.t p42)),
   .p p44 (.bin .lss (.t p43) (.c (.int .i64 (.ofNat 1))))])
   (.cond (.t p44) (.seq (.reg [.p p45 (.mkif 186 (.c (.int .i64 (.ofNat 2)))),
   .p p2 (.mv (.c (.int .i64 (.ofNat 0)))),
   .p p3 (.mv (.t p45))])
   .ret) .skip))) .skip))
   (.seq (.reg [.p p6 (.mv (.c (.int .i64 (.ofNat 0))))])
   (.seq (.seq (.reg [.p p46 (.mv (.t p0)),
   .p p47 (.convSB 5 (.t p46)),
   .p p48 (.lenSlc (.t p47)),
   .p p49 (.mv (.c (.int .i64 (.ofNat 0))))])
   (.block 0 (.loop (.seq (.reg [.p p50 (.bin .lss (.t p49) (.t p48))])
   (.seq (.cond (.t p50) .skip (.exit 0))
   (.seq (.block 1 (.seq (.reg [.p p51 (.iaddrS 1 (.t p47) (.t p49)),
   .p p52 (.load1 (.t p51)),
   .p p8 (.mv (.t p52))])
   (.seq (.reg [.p p53 (.mv (.t p8)),
   .p p54 (.bin .sub (.t p53) (.c (.int .u8 (.ofNat 48)))),
   .p p8 (.mv (.t p54))])
   (.seq (.seq (.reg [.p p55 (.mv (.t p8)),
   .p p56 (.bin .gtr (.t p55) (.c (.int .u8 (.ofNat 9))))])
   (.cond (.t p56) (.seq (.reg [.p p57 (.mkif 186 (.c (.int .i64 (.ofNat 2)))),
   .p p2 (.mv (.c (.int .i64 (.ofNat 0)))),
   .p p3 (.mv (.t p57))])
   .ret) .skip))
   (.reg [.p p58 (.mv (.t p6)),
   .p p59 (.bin .mul (.t p58) (.c (.int .i64 (.ofNat 10)))),
   .p p60 (.mv (.t p8)),
   .p p61 (.convI .i64 (.t p60)),
   .p p62 (.bin .add (.t p59) (.t p61)),
   .p p6 (.mv (.t p62))])))))
   (.reg [.p p63 (.bin .add (.t p49) (.c (.int .i64 (.ofNat 1)))),
   .p p49 (.mv (.t p63))])))))))
   (.seq (.seq (.reg [.p p64 (.mv (.t p5)),
   .p p65 (.idxStr (.t p64) (.c (.int .i64 (.ofNat 0)))),
   .p p66 (.bin .eql (.t p65) (.c (.int .u8 (.ofNat 45))))])
   (.cond (.t p66) (.reg [.p p67 (.mv (.t p6)),
   .p p68 (.neg (.t p67)),
   .p p6 (.mv (.t p68))]) .skip))
   (.seq (.reg [.p p69 (.mv (.t p6)),
   .p p2 (.mv (.t p69)),
   .p p3 (.mv (.c (.nili)))])
   .ret)))))) .skip))
   (.seq (.reg [.p p71 (.mv (.t p0)),
   .p p72 (.call 107 [(.t p71), (.c (.int .i64 (.ofNat 10))), (.c (.int .i64 (.ofNat 0)))]),
   .p p70 (.mv (.t p72)),
   .p p73 (.extract 0 (.t p70)),
   .p p74 (.extract 1 (.t p70)),
   .p p9 (.mv (.t p73)),
   .p p10 (.mv (.t p74))])
   (.seq (.reg [.p p75 (.mv (.t p9)),
   .p p76 (.mv (.t p10)),
   .p p2 (.mv (.t p75)),
   .p p3 (.mv (.t p76))])
   .ret)))))
   [.t p2, .t p3]
def a96 : AF := .no
/- internal/strconv.Itoa -/
def a97 : AF :=
  .code [p0] (.seq (.reg [.p p2 (.mv (.c (.str 0 0)))])
   (.seq (.reg [.p p3 (.mv (.t p0)),
   .p p4 (.call 112 [(.t p3), (.c (.int .i64 (.ofNat 10)))]),
   .p p2 (.mv (.t p4))])
   .ret))
   [.t p2]
def a98 : AF := .no
def a99 : AF := .no
def a100 : AF := .no
def a101 : AF := .no
def a102 : AF := .no
def a103 : AF := .no
def a104 : AF := .no
/- strings.trimRightASCII -/
def a105 : AF :=
  .code [p0, p1] (.seq (.reg [.p p4 (.mv (.c (.str 0 0)))])
   (.seq (.block 0 (.loop (.seq (.seq (.reg [.p p5 (.mv (.t p0)),
   .p p6 (.lenStr (.t p5)),
   .p p7 (.bin .gtr (.t p6) (.c (.int .i64 (.ofNat 0))))])
   (.cond (.t p7) .skip (.exit 0)))
   (.block 1 (.seq (.seq (.reg [.p p8 (.mv (.t p1)),
   .p p9 (.mv (.t p0)),
   .p p10 (.mv (.t p0)),
   .p p11 (.lenStr (.t p10)),
   .p p12 (.bin .sub (.t p11) (.c (.int .i64 (.ofNat 1)))),
   .p p13 (.idxStr (.t p9) (.t p12)),
   .p p14 (.call 92 [(.t p8), (.t p13)]),
   .p p15 (.not (.t p14))])
   (.cond (.t p15) (.exit 0) .skip))
   (.reg [.p p16 (.mv (.t p0)),
   .p p17 (.mv (.t p0)),
   .p p18 (.lenStr (.t p17)),
   .p p19 (.bin .sub (.t p18) (.c (.int .i64 (.ofNat 1)))),
   .p p20 (.sliceStr (.t p16) none (some (.t p19))),
   .p p0 (.mv (.t p20))]))))))
   (.seq (.reg [.p p21 (.mv (.t p0)),
   .p p4 (.mv (.t p21))])
   .ret)))
   [.t p4]
def a106 : AF := .no
def a107 : AF := .no
def a108 : AF := .no
def a109 : AF := .no
def a110 : AF := .no
def a111 : AF := .no
/- internal/strconv.FormatInt -/
def a112 : AF :=
  .code [p0, p1] (.seq (.reg [.p p4 (.mv (.c (.str 0 0)))])
   (.seq (.seq (.reg [.p p10 (.mv (.t p1)),
   .p p11 (.bin .eql (.t p10) (.c (.int .i64 (.ofNat 10))))])
   (.cond (.t p11) (.seq (.seq (.reg [.p p12 (.mv (.t p0)),
   .p p13 (.bin .leq (.c (.int .i64 (.ofNat 0))) (.t p12)),
   .p p14 (.mv (.t p13)),
   .g p15 (.mv (.t p0)) p14 true,
   .g p16 (.bin .lss (.t p15) (.c (.int .i64 (.ofNat 100)))) p14 true,
   .p p17 (.pick (.t p14) (.t p16) (.c (.bool false)))])
   (.cond (.t p17) (.seq (.reg [.p p18 (.mv (.t p0)),
   .p p19 (.call 118 [(.t p18)]),
   .p p4 (.mv (.t p19))])
   .ret) .skip))
   (.seq (.reg [.p p5 (.alloc 204 [.int .u8 (.ofNat 0), .int .u8 (.ofNat 0), .int .u8 (.ofNat 0), .int .u8 (.ofNat 0), .int .u8 (.ofNat 0), .int .u8 (.ofNat 0), .int .u8 (.ofNat 0), .int .u8 (.ofNat 0), .int .u8 (.ofNat 0), .int .u8 (.ofNat 0), .int .u8 (.ofNat 0), .int .u8 (.ofNat 0), .int .u8 (.ofNat 0), .int .u8 (.ofNat 0), .int .u8 (.ofNat 0), .int .u8 (.ofNat 0), .int .u8 (.ofNat 0), .int .u8 (.ofNat 0), .int .u8 (.ofNat 0), .int .u8 (.ofNat 0), .int .u8 (.ofNat 0), .int .u8 (.ofNat 0), .int .u8 (.ofNat 0), .int .u8 (.ofNat 0)])])
   (.seq (.reg [.p p20 (.mv (.t p0)),
   .p p21 (.convI .u64 (.t p20)),
   .p p6 (.mv (.t p21))])
   (.seq (.seq (.reg [.p p22 (.mv (.t p0)),
   .p p23 (.bin .lss (.t p22) (.c (.int .i64 (.ofNat 0))))])
   (.cond (.t p23) (.reg [.p p24 (.mv (.t p6)),
   .p p25 (.neg (.t p24)),
   .p p6 (.mv (.t p25))]) .skip))
   (.seq (.reg [.p p26 (.mv (.t p6)),
   .p p27 (.call 119 [(.t p26)]),
   .p p7 (.mv (.t p27))])
   (.seq (.reg [.p p28 (.mv (.t p7)),
   .p p29 (.bin .add (.c (.int .i64 (.ofNat 1))) (.t p28)),
   .p p30 (.sliceA 24 1 (.t p5) (some (.c (.int .i64 (.ofNat 1)))) (some (.t p29)) none),
   .p p31 (.mv (.t p6)),
   .p p32 (.call 120 [(.t p30), (.t p31)])])
   (.seq (.seq (.reg [.p p33 (.mv (.t p0)),
   .p p34 (.bin .lss (.t p33) (.c (.int .i64 (.ofNat 0))))])
   (.cond (.t p34) (.seq (.reg [.p p35 (.iaddrA 24 1 (.t p5) (.c (.int .i64 (.ofNat 0)))),
   .n (.store 1 (.t p35) (.c (.int .u8 (.ofNat 45))))])
   (.seq (.reg [.p p36 (.mv (.t p7)),
   .p p37 (.bin .add (.c (.int .i64 (.ofNat 1))) (.t p36)),
   .p p38 (.sliceA 24 1 (.t p5) none (some (.t p37)) none),
   .p p39 (.convBS (.t p38)),
   .p p4 (.mv (.t p39))])
   .ret)) .skip))
   (.seq (.reg [.p p40 (.mv (.t p7)),
   .p p41 (.bin .add (.c (.int .i64 (.ofNat 1))) (.t p40)),
   .p p42 (.sliceA 24 1 (.t p5) (some (.c (.int .i64 (.ofNat 1)))) (some (.t p41)) none),
   .p p43 (.convBS (.t p42)),
   .p p4 (.mv (.t p43))])
   .ret)))))))) .skip))
   (.seq (.reg [.p p45 (.mv (.t p0)),
   .p p46 (.convI .u64 (.t p45)),
   .p p47 (.mv (.t p1)),
   .p p48 (.mv (.t p0)),
   .p p49 (.bin .lss (.t p48) (.c (.int .i64 (.ofNat 0)))),
   .p p50 (.call 121 [(.c (.nils)), (.t p46), (.t p47), (.t p49), (.c (.bool false))]),
   .p p44 (.mv (.t p50)),
   .p p51 (.extract 0 (.t p44)),
   .p p52 (.extract 1 (.t p44)),
   .p p8 (.mv (.t p51)),
   .p p9 (.mv (.t p52))])
   (.seq (.reg [.p p53 (.mv (.t p9)),
   .p p4 (.mv (.t p53))])
   .ret))))
   [.t p4]
def a113 : AF := .no
def a114 : AF := .no
def a115 : AF := .no
def a116 : AF := .no
def a117 : AF := .no
/- internal/strconv.small -/
def a118 : AF :=
  .code [p0] (.seq (.reg [.p p2 (.mv (.c (.str 0 0)))])
   (.seq (.seq (.reg [.p p3 (.mv (.t p0)),
   .p p4 (.bin .lss (.t p3) (.c (.int .i64 (.ofNat 10))))])
   (.cond (.t p4) (.seq (.reg [.p p5 (.mv (.t p0)),
   .p p6 (.mv (.t p0)),
   .p p7 (.bin .add (.t p6) (.c (.int .i64 (.ofNat 1)))),
   .p p8 (.sliceStr (.c (.str 36 237927390410950444456928663707796224754864904193074819559483181009558347043374296609072)) (some (.t p5)) (some (.t p7))),
   .p p2 (.mv (.t p8))])
   .ret) .skip))
   (.seq (.reg [.p p9 (.mv (.t p0)),
   .p p10 (.bin .mul (.t p9) (.c (.int .i64 (.ofNat 2)))),
   .p p11 (.mv (.t p0)),
   .p p12 (.bin .mul (.t p11) (.c (.int .i64 (.ofNat 2)))),
   .p p13 (.bin .add (.t p12) (.c (.int .i64 (.ofNat 2)))),
   .p p14 (.sliceStr (.c (.str 200 9938655150514779720929161263213647789093395803754561035662628441001274968862597953692946393464194303251501229616933063375291039650253924995779037586872666250072396106842829501851083234932712366962979930255066872747696324303968523733872590022915936937156789320557469720923390131174387415513794469201054844961267015441141542819553679203788501627738430154234325528792480477051962324423099068299719245009424585859096469223093538032153047611602695245052081125123941502624659711709950000)) (some (.t p10)) (some (.t p13))),
   .p p2 (.mv (.t p14))])
   .ret)))
   [.t p2]
def a119 : AF := .no
def a120 : AF := .no
def a121 : AF := .no
def a122 : AF := .no
def a123 : AF := .no
def a124 : AF := .no
def a125 : AF := .no
def a126 : AF := .no
def a127 : AF := .no
def a128 : AF := .no
def a129 : AF := .no
def a130 : AF := .no
def a131 : AF := .no
def fns : T AF := (.n (.n (.n (.n (.n (.n (.n (.n .l (some a127) .l) (some a63) .l) (some a31) (.n .l (some a95) .l)) (some a15) (.n (.n .l (some a79) .l) (some a47) (.n .l (some a111) .l))) (some a7) (.n (.n (.n .l (some a71) .l) (some a39) (.n .l (some a103) .l)) (some a23) (.n (.n .l (some a87) .l) (some a55) (.n .l (some a119) .l)))) none (.n (.n (.n (.n (.n .l (some a131) .l) (some a67) .l) (some a35) (.n .l (some a99) .l)) (some a19) (.n (.n .l (some a83) .l) (some a51) (.n .l (some a115) .l))) (some a11) (.n (.n (.n .l (some a75) .l) (some a43) (.n .l (some a107) .l)) (some a27) (.n (.n .l (some a91) .l) (some a59) (.n .l (some a123) .l))))) none (.n (.n (.n (.n (.n (.n .l (some a129) .l) (some a65) .l) (some a33) (.n .l (some a97) .l)) (some a17) (.n (.n .l (some a81) .l) (some a49) (.n .l (some a113) .l))) (some a9) (.n (.n (.n .l (some a73) .l) (some a41) (.n .l (some a105) .l)) (some a25) (.n (.n .l (some a89) .l) (some a57) (.n .l (some a121) .l)))) (some a5) (.n (.n (.n (.n .l (some a69) .l) (some a37) (.n .l (some a101) .l)) (some a21) (.n (.n .l (some a85) .l) (some a53) (.n .l (some a117) .l))) (some a13) (.n (.n (.n .l (some a77) .l) (some a45) (.n .l (some a109) .l)) (some a29) (.n (.n .l (some a93) .l) (some a61) (.n .l (some a125) .l)))))) none (.n (.n (.n (.n (.n (.n (.n .l (some a128) .l) (some a64) .l) (some a32) (.n .l (some a96) .l)) (some a16) (.n (.n .l (some a80) .l) (some a48) (.n .l (some a112) .l))) (some a8) (.n (.n (.n .l (some a72) .l) (some a40) (.n .l (some a104) .l)) (some a24) (.n (.n .l (some a88) .l) (some a56) (.n .l (some a120) .l)))) (some a4) (.n (.n (.n (.n .l (some a68) .l) (some a36) (.n .l (some a100) .l)) (some a20) (.n (.n .l (some a84) .l) (some a52) (.n .l (some a116) .l))) (some a12) (.n (.n (.n .l (some a76) .l) (some a44) (.n .l (some a108) .l)) (some a28) (.n (.n .l (some a92) .l) (some a60) (.n .l (some a124) .l))))) none (.n (.n (.n (.n (.n (.n .l (some a130) .l) (some a66) .l) (some a34) (.n .l (some a98) .l)) (some a18) (.n (.n .l (some a82) .l) (some a50) (.n .l (some a114) .l))) (some a10) (.n (.n (.n .l (some a74) .l) (some a42) (.n .l (some a106) .l)) (some a26) (.n (.n .l (some a90) .l) (some a58) (.n .l (some a122) .l)))) (some a6) (.n (.n (.n (.n .l (some a70) .l) (some a38) (.n .l (some a102) .l)) (some a22) (.n (.n .l (some a86) .l) (some a54) (.n .l (some a118) .l))) (some a14) (.n (.n (.n .l (some a78) .l) (some a46) (.n .l (some a110) .l)) (some a30) (.n (.n .l (some a94) .l) (some a62) (.n .l (some a126) .l)))))))
def ifts : List Nat × List (Nat × Nat × Nat) := ([24, 186], [(48, 0, 2)])
end
end Go.Kev.Tryz
