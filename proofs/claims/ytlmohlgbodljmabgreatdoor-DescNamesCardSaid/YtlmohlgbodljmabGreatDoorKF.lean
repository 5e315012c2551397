/- The program's functions, compiled for the abstract machine. -/
import Derived.Test.YtlmohlgbodljmabGreatDoorKP
set_option linter.unusedVariables false
set_option linter.unusedSimpArgs false
namespace Go.Kev.Tryz
set_option maxRecDepth 100000
set_option autoImplicit false
noncomputable section
def b1 : AC := (.reg [.p p0 (.mv (.c (.bool false)))])
def b4 : AC := (.reg [.p p22 (.build [([], 1, (.c (.str 5 498759725941))), ([], 1, (.c (.int .i64 (.ofNat 1)))), ([], 1, (.c (.int .i64 (.ofNat 4))))] []),
   .p p23 (.build [([], 1, (.c (.str 5 279716196202))), ([], 1, (.c (.int .i64 (.ofNat 1)))), ([], 1, (.c (.int .i64 (.ofNat 63))))] []),
   .p p24 (.build [([], 1, (.c (.str 11 117418736039230780142153578))), ([], 1, (.c (.int .i64 (.ofNat 2)))), ([], 1, (.c (.int .i64 (.ofNat 6))))] []),
   .p p25 (.build [([], 1, (.c (.str 16 129103326834597915493398756812384268138))), ([], 1, (.c (.int .i64 (.ofNat 0)))), ([], 1, (.c (.int .i64 (.ofNat 0))))] []),
   .p p26 (.build [([], 1, (.c (.str 13 4526048289000776093189852524394))), ([], 1, (.c (.int .i64 (.ofNat 2)))), ([], 1, (.c (.int .i64 (.ofNat 1))))] []),
   .p p27 (.build [([], 1, (.c (.str 24 1181572092738583836273910597712108365279307939048465788778))), ([], 1, (.c (.int .i64 (.ofNat 0)))), ([], 1, (.c (.int .i64 (.ofNat 0))))] []),
   .p p28 (.build [([], 1, (.c (.str 16 65382379490555741553719503943540830058))), ([], 1, (.c (.int .i64 (.ofNat 2)))), ([], 1, (.c (.int .i64 (.ofNat 1))))] []),
   .p p29 (.build [([], 1, (.c (.str 14 997651065405304247828263269986154))), ([], 1, (.c (.int .i64 (.ofNat 2)))), ([], 1, (.c (.int .i64 (.ofNat 1))))] []),
   .p p30 (.build [([], 1, (.c (.str 8 8026551848152493930))), ([], 1, (.c (.int .i64 (.ofNat 2)))), ([], 1, (.c (.int .i64 (.ofNat 4))))] []),
   .p p31 (.build [([], 1, (.c (.str 18 10116049055341239397301347226738650580676458))), ([], 1, (.c (.int .i64 (.ofNat 3)))), ([], 1, (.c (.int .i64 (.ofNat 4))))] []),
   .p p32 (.build [([], 1, (.c (.str 16 154358658681354307774514980065326753140))), ([], 1, (.c (.int .i64 (.ofNat 2)))), ([], 1, (.c (.int .i64 (.ofNat 4))))] []),
   .p p33 (.build [([], 1, (.c (.str 12 37195238771826117649857998441))), ([], 1, (.c (.int .i64 (.ofNat 1)))), ([], 1, (.c (.int .i64 (.ofNat 4))))] []),
   .p p34 (.build [([], 1, (.c (.str 13 7857943097837166781041817644649))), ([], 1, (.c (.int .i64 (.ofNat 0)))), ([], 1, (.c (.int .i64 (.ofNat 0))))] []),
   .p p35 (.build [([], 1, (.c (.str 15 509502162378601054540785234089242474))), ([], 1, (.c (.int .i64 (.ofNat 2)))), ([], 1, (.c (.int .i64 (.ofNat 4))))] []),
   .p p36 (.build [([], 1, (.c (.str 12 37177431822516959898830532458))), ([], 1, (.c (.int .i64 (.ofNat 2)))), ([], 1, (.c (.int .i64 (.ofNat 4))))] []),
   .p p37 (.build [([], 1, (.c (.str 23 4801196752076875264514730233696375907339662758045183850))), ([], 1, (.c (.int .i64 (.ofNat 3)))), ([], 1, (.c (.int .i64 (.ofNat 6))))] []),
   .p p38 (.build [([], 1, (.c (.str 23 4801198213578512595417648437381208623622682413977726826))), ([], 1, (.c (.int .i64 (.ofNat 0)))), ([], 1, (.c (.int .i64 (.ofNat 0))))] []),
   .p p39 (.build [([], 1, (.c (.str 19 2701215328026823915015487910807700847458414442))), ([], 1, (.c (.int .i64 (.ofNat 3)))), ([], 1, (.c (.int .i64 (.ofNat 6))))] []),
   .p p40 (.build [([], 1, (.c (.str 18 2995208433278935155747271954075595483279210))), ([], 1, (.c (.int .i64 (.ofNat 2)))), ([], 1, (.c (.int .i64 (.ofNat 4))))] []),
   .p p41 (.build [([], 1, (.c (.str 18 2995208433278925252226957671033396290285418))), ([], 1, (.c (.int .i64 (.ofNat 2)))), ([], 1, (.c (.int .i64 (.ofNat 63))))] []),
   .p p42 (.build [([], 1, (.c (.str 20 240717070537405552693300863338433243835007004271))), ([], 1, (.c (.int .i64 (.ofNat 0)))), ([], 1, (.c (.int .i64 (.ofNat 0))))] []),
   .p p43 (.build [([], 1, (.c (.str 2 28271))), ([], 1, (.c (.int .i64 (.ofNat 1)))), ([], 1, (.c (.int .i64 (.ofNat 4))))] []),
   .p p44 (.build [([], 1, (.c (.str 5 146601438831))), ([], 1, (.c (.int .i64 (.ofNat 1)))), ([], 1, (.c (.int .i64 (.ofNat 4))))] []),
   .p p45 (.build [([], 1, (.c (.str 5 417156194678))), ([], 1, (.c (.int .i64 (.ofNat 1)))), ([], 1, (.c (.int .i64 (.ofNat 4))))] []),
   .p p46 (.build [([], 1, (.c (.str 8 2459563948025995638))), ([], 1, (.c (.int .i64 (.ofNat 0)))), ([], 1, (.c (.int .i64 (.ofNat 0))))] []),
   .p p47 (.build [([], 1, (.c (.str 2 30754))), ([], 1, (.c (.int .i64 (.ofNat 1)))), ([], 1, (.c (.int .i64 (.ofNat 4))))] []),
   .p p48 (.build [([], 1, (.c (.str 6 127961713281546))), ([], 1, (.c (.int .i64 (.ofNat 3)))), ([], 1, (.c (.int .i64 (.ofNat 4))))] []),
   .p p49 (.build [([], 1, (.c (.str 3 6451050))), ([], 1, (.c (.int .i64 (.ofNat 1)))), ([], 1, (.c (.int .i64 (.ofNat 4))))] []),
   .p p50 (.build [([], 1, (.c (.str 7 27620149244882794))), ([], 1, (.c (.int .i64 (.ofNat 1)))), ([], 1, (.c (.int .i64 (.ofNat 4))))] []),
   .p p51 (.build [([], 1, (.c (.str 15 348540701032097593087147354416639850))), ([], 1, (.c (.int .i64 (.ofNat 2)))), ([], 1, (.c (.int .i64 (.ofNat 63))))] []),
   .p p52 (.build [([], 1, (.c (.str 12 20774726263440206470683193194))), ([], 1, (.c (.int .i64 (.ofNat 2)))), ([], 1, (.c (.int .i64 (.ofNat 63))))] []),
   .p p53 (.bslice 23 31 3 [([], 3, (.t p22)), ([], 3, (.t p23)), ([], 3, (.t p24)), ([], 3, (.t p25)), ([], 3, (.t p26)), ([], 3, (.t p27)), ([], 3, (.t p28)), ([], 3, (.t p29)), ([], 3, (.t p30)), ([], 3, (.t p31)), ([], 3, (.t p32)), ([], 3, (.t p33)), ([], 3, (.t p34)), ([], 3, (.t p35)), ([], 3, (.t p36)), ([], 3, (.t p37)), ([], 3, (.t p38)), ([], 3, (.t p39)), ([], 3, (.t p40)), ([], 3, (.t p41)), ([], 3, (.t p42)), ([], 3, (.t p43)), ([], 3, (.t p44)), ([], 3, (.t p45)), ([], 3, (.t p46)), ([], 3, (.t p47)), ([], 3, (.t p48)), ([], 3, (.t p49)), ([], 3, (.t p50)), ([], 3, (.t p51)), ([], 3, (.t p52))] []),
   .p p54 (.lenSlc (.t p53)),
   .p p55 (.mv (.c (.int .i64 (.ofNat 0))))])
def b7 : AC := .seq (.seq (.reg [.p p56 (.bin .lss (.t p55) (.t p54))])
   (.seq (.cond (.t p56) .skip (.exit 0))
   (.seq (.block 1 (.seq (.reg [.p p57 (.iaddrS 3 (.t p53) (.t p55)),
   .p p58 (.loadn 3 (.t p57)),
   .p p2 (.alloc 23 [.str 0 0, .int .i64 (.ofNat 0), .int .i64 (.ofNat 0)]),
   .n (.store 3 (.t p2) (.t p58))])
   (.seq (.reg [.p p60 (.faddr 0 (.t p2)),
   .p p61 (.load1 (.t p60)),
   .p p62 (.call 4 [(.t p61)]),
   .p p59 (.mv (.t p62)),
   .p p63 (.extract 0 (.t p59)),
   .p p64 (.extract 1 (.t p59)),
   .p p65 (.extract 2 (.t p59)),
   .p p3 (.alloc 28 [.nils, .nils]),
   .n (.store 2 (.t p3) (.t p63)),
   .p p4 (.mv (.t p64)),
   .p p5 (.mv (.t p65))])
   (.seq (.reg [.p p66 (.mv (.t p4)),
   .p p67 (.faddr 1 (.t p2)),
   .p p68 (.load1 (.t p67)),
   .p p69 (.bin .neq (.t p66) (.t p68)),
   .p p70 (.mv (.t p69)),
   .g p71 (.mv (.t p5)) p70 false,
   .g p72 (.faddr 2 (.t p2)) p70 false,
   .g p73 (.load1 (.t p72)) p70 false,
   .g p74 (.bin .neq (.t p71) (.t p73)) p70 false,
   .p p75 (.pick (.t p70) (.c (.bool true)) (.t p74))])
   (.cond (.t p75) (.seq (.reg [.p p0 (.mv (.c (.bool false)))])
   .ret) .skip)))))
   (.reg [.p p76 (.bin .add (.t p55) (.c (.int .i64 (.ofNat 1)))),
   .p p55 (.mv (.t p76))])))) .gc
def b6 : AC := .loop b7
def b5 : AC := .block 0 b6
def b3 : AC := .seq b4 b5
def b9 : AC := (.reg [.p p6 (.mv (.c (.str 0 0)))])
def b12 : AC := (.reg [.p p7 (.mv (.c (.int .i64 (.ofNat 0))))])
def b15 : AC := .seq (.seq (.seq (.reg [.p p77 (.mv (.t p7)),
   .p p78 (.bin .lss (.t p77) (.c (.int .i64 (.ofNat 25))))])
   (.cond (.t p78) .skip (.exit 2)))
   (.seq (.block 3 (.reg [.p p81 (.mv (.t p6)),
   .p p82 (.bin .add (.t p81) (.c (.str 5 455809855338))),
   .p p83 (.mv (.t p7)),
   .p p84 (.bin .add (.c (.int .i64 (.ofNat 97))) (.t p83)),
   .p p85 (.convI .u8 (.t p84)),
   .p p86 (.bslice 5 1 1 [([], 1, (.t p85))] []),
   .p p87 (.convBS (.t p86)),
   .p p88 (.bin .add (.t p82) (.t p87)),
   .p p89 (.bin .add (.t p88) (.c (.str 1 10))),
   .p p6 (.mv (.t p89))]))
   (.reg [.p p79 (.mv (.t p7)),
   .p p80 (.bin .add (.t p79) (.c (.int .i64 (.ofNat 1)))),
   .p p7 (.mv (.t p80))]))) .gc
def b14 : AC := .loop b15
def b13 : AC := .block 2 b14
def b11 : AC := .seq b12 b13
def b17 : AC := (.reg [.p p91 (.mv (.t p6)),
   .p p92 (.call 4 [(.t p91)]),
   .p p90 (.mv (.t p92)),
   .p p93 (.extract 0 (.t p90)),
   .p p94 (.extract 1 (.t p90)),
   .p p95 (.extract 2 (.t p90)),
   .p p8 (.alloc 28 [.nils, .nils]),
   .n (.store 2 (.t p8) (.t p93)),
   .p p9 (.mv (.t p94)),
   .p p10 (.mv (.t p95))])
def b19 : AC := (.reg [.p p11 (.mv (.c (.str 6 11412271427434)))])
def b22 : AC := (.reg [.p p12 (.mv (.c (.int .i64 (.ofNat 0))))])
def b25 : AC := .seq (.seq (.seq (.reg [.p p96 (.mv (.t p12)),
   .p p97 (.bin .lss (.t p96) (.c (.int .i64 (.ofNat 41))))])
   (.cond (.t p97) .skip (.exit 4)))
   (.seq (.block 5 (.reg [.p p100 (.mv (.t p11)),
   .p p101 (.bin .add (.t p100) (.c (.str 7 2948209217400676))),
   .p p11 (.mv (.t p101))]))
   (.reg [.p p98 (.mv (.t p12)),
   .p p99 (.bin .add (.t p98) (.c (.int .i64 (.ofNat 1)))),
   .p p12 (.mv (.t p99))]))) .gc
def b24 : AC := .loop b25
def b23 : AC := .block 4 b24
def b21 : AC := .seq b22 b23
def b27 : AC := (.reg [.p p103 (.mv (.t p11)),
   .p p104 (.call 4 [(.t p103)]),
   .p p102 (.mv (.t p104)),
   .p p105 (.extract 0 (.t p102)),
   .p p106 (.extract 1 (.t p102)),
   .p p107 (.extract 2 (.t p102)),
   .p p13 (.alloc 28 [.nils, .nils]),
   .n (.store 2 (.t p13) (.t p105)),
   .p p14 (.mv (.t p106)),
   .p p15 (.mv (.t p107))])
def b29 : AC := (.reg [.p p109 (.build [([.int .i64 (.ofNat 0)], 1, (.c (.int .u8 (.ofNat 3)))), ([], 1, (.c (.str 1 97)))] [.nils]),
   .p p110 (.bslice 35 1 4 [([], 4, (.t p109))] []),
   .p p111 (.build [([.nils], 1, (.t p110))] []),
   .p p112 (.call 5 [(.t p111)]),
   .p p108 (.mv (.t p112)),
   .p p113 (.extract 0 (.t p108)),
   .p p114 (.extract 1 (.t p108)),
   .p p16 (.mv (.t p113)),
   .p p17 (.mv (.t p114))])
def b31 : AC := (.reg [.p p116 (.bslice 9 1 1 [([], 1, (.c (.str 1 97)))] []),
   .p p117 (.build [([.int .i64 (.ofNat 0)], 1, (.c (.str 3 6451050))), ([], 1, (.t p116))] []),
   .p p118 (.bslice 38 1 3 [([], 3, (.t p117))] []),
   .p p119 (.build [([], 1, (.t p118))] [.nils]),
   .p p120 (.call 5 [(.t p119)]),
   .p p115 (.mv (.t p120)),
   .p p121 (.extract 0 (.t p115)),
   .p p122 (.extract 1 (.t p115)),
   .p p18 (.mv (.t p121)),
   .p p19 (.mv (.t p122))])
def b33 : AC := (.reg [.p p124 (.build [] [.int .i64 (.ofNat 0), .str 0 0, .nils]),
   .p p125 (.bslice 38 1 3 [([], 3, (.t p124))] []),
   .p p126 (.build [([], 1, (.t p125))] [.nils]),
   .p p127 (.call 5 [(.t p126)]),
   .p p123 (.mv (.t p127)),
   .p p128 (.extract 0 (.t p123)),
   .p p129 (.extract 1 (.t p123)),
   .p p20 (.mv (.t p128)),
   .p p21 (.mv (.t p129))])
def b34 : AC := (.seq (.reg [.p p130 (.mv (.t p9)),
   .p p131 (.bin .eql (.t p130) (.c (.int .i64 (.ofNat 25)))),
   .p p132 (.mv (.t p131)),
   .g p133 (.mv (.t p10)) p132 true,
   .g p134 (.bin .eql (.t p133) (.c (.int .i64 (.ofNat 3)))) p132 true,
   .p p135 (.pick (.t p132) (.t p134) (.c (.bool false))),
   .p p136 (.mv (.t p135)),
   .g p137 (.mv (.t p14)) p136 true,
   .g p138 (.bin .eql (.t p137) (.c (.int .i64 (.ofNat 42)))) p136 true,
   .p p139 (.pick (.t p136) (.t p138) (.c (.bool false))),
   .p p140 (.mv (.t p139)),
   .g p141 (.mv (.t p15)) p140 true,
   .g p142 (.bin .eql (.t p141) (.c (.int .i64 (.ofNat 3)))) p140 true,
   .p p143 (.pick (.t p140) (.t p142) (.c (.bool false))),
   .p p144 (.mv (.t p143)),
   .g p145 (.mv (.t p17)) p144 true,
   .g p146 (.bin .eql (.t p145) (.c (.int .i64 (.ofNat 1)))) p144 true,
   .p p147 (.pick (.t p144) (.t p146) (.c (.bool false))),
   .p p148 (.mv (.t p147)),
   .g p149 (.mv (.t p19)) p148 true,
   .g p150 (.bin .eql (.t p149) (.c (.int .i64 (.ofNat 4)))) p148 true,
   .p p151 (.pick (.t p148) (.t p150) (.c (.bool false))),
   .p p152 (.mv (.t p151)),
   .g p153 (.mv (.t p21)) p152 true,
   .g p154 (.bin .eql (.t p153) (.c (.int .i64 (.ofNat 4)))) p152 true,
   .p p155 (.pick (.t p152) (.t p154) (.c (.bool false))),
   .p p156 (.mv (.t p155)),
   .p p157 (.pick (.t p156) (.c (.bool true)) (.c (.bool false))),
   .p p158 (.mv (.t p157)),
   .p p159 (.pick (.t p158) (.c (.bool true)) (.c (.bool false))),
   .p p160 (.mv (.t p159)),
   .p p161 (.pick (.t p160) (.c (.bool true)) (.c (.bool false))),
   .p p162 (.mv (.t p161)),
   .p p163 (.pick (.t p162) (.c (.bool true)) (.c (.bool false))),
   .p p164 (.mv (.t p163)),
   .p p165 (.pick (.t p164) (.c (.bool true)) (.c (.bool false))),
   .p p166 (.mv (.t p165)),
   .p p167 (.pick (.t p166) (.c (.bool true)) (.c (.bool false))),
   .p p168 (.mv (.t p167)),
   .g p169 (.call 6 []) p168 true,
   .p p170 (.pick (.t p168) (.t p169) (.c (.bool false))),
   .p p0 (.mv (.t p170))])
   .ret)
def b32 : AC := .seq b33 b34
def b30 : AC := .seq b31 b32
def b28 : AC := .seq b29 b30
def b26 : AC := .seq b27 b28
def b20 : AC := .seq b21 b26
def b18 : AC := .seq b19 b20
def b16 : AC := .seq b17 b18
def b10 : AC := .seq b11 b16
def b8 : AC := .seq b9 b10
def b2 : AC := .seq b3 b8
def b0 : AC := .seq b1 b2
/- bastion/bastionlaw12.DescNames -/
def a3 : AF :=
  .code [] b0
   [.t p0]
def b4_1 : AC := (.reg [.p p2 (.alloc 28 [.nils, .nils]),
   .p p3 (.mv (.c (.int .i64 (.ofNat 0)))),
   .p p4 (.mv (.c (.int .i64 (.ofNat 0))))])
def b4_3 : AC := (.reg [.p p5 (.alloc 28 [.nils, .nils])])
def b4_5 : AC := (.reg [.p p12 (.call 7 []),
   .p p6 (.mv (.t p12))])
def b4_8 : AC := (.reg [.p p13 (.mv (.t p0)),
   .p p14 (.call 8 [(.t p13), (.c (.str 1 10))]),
   .p p15 (.lenSlc (.t p14)),
   .p p16 (.mv (.c (.int .i64 (.ofNat 0))))])
def b4_11 : AC := (.seq (.reg [.p p17 (.bin .lss (.t p16) (.t p15))])
   (.seq (.cond (.t p17) .skip (.exit 0))
   (.seq (.block 1 (.seq (.reg [.p p18 (.mv (.t p16)),
   .p p19 (.iaddrS 1 (.t p14) (.t p16)),
   .p p20 (.load1 (.t p19)),
   .p p7 (.mv (.t p18)),
   .p p8 (.mv (.t p20))])
   (.seq (.reg [.p p22 (.mv (.t p8)),
   .p p23 (.call 9 [(.t p22)]),
   .p p21 (.mv (.t p23)),
   .p p24 (.extract 0 (.t p21)),
   .p p25 (.extract 1 (.t p21)),
   .p p9 (.mv (.t p24)),
   .p p10 (.mv (.t p25))])
   (.seq (.seq (.reg [.p p26 (.mv (.t p10)),
   .p p27 (.bin .eql (.t p26) (.c (.int .i64 (.ofNat 0)))),
   .p p28 (.mv (.t p27)),
   .g p29 (.mv (.t p9)) p28 true,
   .g p30 (.lenSlc (.t p29)) p28 true,
   .g p31 (.bin .gtr (.t p30) (.c (.int .i64 (.ofNat 0)))) p28 true,
   .p p32 (.pick (.t p28) (.t p31) (.c (.bool false)))])
   (.cond (.t p32) (.seq (.reg [.p p33 (.mv (.t p6)),
   .p p34 (.mv (.t p7)),
   .p p35 (.bin .add (.t p34) (.c (.int .i64 (.ofNat 1)))),
   .p p36 (.mv (.t p9)),
   .p p37 (.call 10 [(.t p5), (.t p33), (.t p35), (.t p36)]),
   .p p11 (.mv (.t p37))])
   (.seq (.reg [.p p38 (.mv (.t p11)),
   .p p39 (.eq true (.ifc true [22, 139]) (.t p38) (.c (.nili)))])
   (.cond (.t p39) (.reg [.p p40 (.mv (.t p11)),
   .p p41 (.call 11 [(.t p40)]),
   .p p10 (.mv (.t p41))]) .skip))) .skip))
   (.seq (.reg [.p p42 (.mv (.t p10)),
   .p p43 (.bin .neq (.t p42) (.c (.int .i64 (.ofNat 0))))])
   (.cond (.t p43) (.seq (.reg [.p p44 (.build [] [.nils, .nils]),
   .p p45 (.mv (.t p7)),
   .p p46 (.bin .add (.t p45) (.c (.int .i64 (.ofNat 1)))),
   .p p47 (.mv (.t p10)),
   .n (.store 2 (.t p2) (.t p44)),
   .p p3 (.mv (.t p46)),
   .p p4 (.mv (.t p47))])
   .ret) .skip))))))
   (.reg [.p p48 (.bin .add (.t p16) (.c (.int .i64 (.ofNat 1)))),
   .p p16 (.mv (.t p48))]))))
def b4_10 : AC := .loop b4_11
def b4_9 : AC := .block 0 b4_10
def b4_7 : AC := .seq b4_8 b4_9
def b4_12 : AC := (.seq (.reg [.p p49 (.loadn 2 (.t p5)),
   .n (.store 2 (.t p2) (.t p49)),
   .p p3 (.mv (.c (.int .i64 (.ofNat 0)))),
   .p p4 (.mv (.c (.int .i64 (.ofNat 0))))])
   .ret)
def b4_6 : AC := .seq b4_7 b4_12
def b4_4 : AC := .seq b4_5 b4_6
def b4_2 : AC := .seq b4_3 b4_4
def b4_0 : AC := .seq b4_1 b4_2
/- bastion/desc.Parse -/
def a4 : AF :=
  .code [p0] b4_0
   [.cell p2 2, .t p3, .t p4]
/- bastion/desc.Print -/
def a5 : AF :=
  .code [p0] (.seq (.reg [.p p1 (.box 28 (.t p0)),
   .p p2 (.mv (.c (.str 0 0))),
   .p p3 (.mv (.c (.int .i64 (.ofNat 0))))])
   (.seq (.reg [.p p11 (.call 7 []),
   .p p12 (.build [([.nils, .nils], 1, (.t p11))] [.nilp, .nils, .int .i64 (.ofNat 0)]),
   .p p13 (.box 54 (.t p12)),
   .p p4 (.mv (.t p13))])
   (.seq (.seq (.reg [.p p14 (.mv (.t p4)),
   .p p15 (.faddr 0 (.t p1)),
   .p p16 (.load1 (.t p15)),
   .p p17 (.call 12 [(.t p14), (.c (.str 0 0)), (.t p16)]),
   .p p5 (.mv (.t p17))])
   (.seq (.reg [.p p18 (.mv (.t p5)),
   .p p19 (.eq true (.ifc true [22, 139]) (.t p18) (.c (.nili)))])
   (.cond (.t p19) (.seq (.reg [.p p20 (.mv (.t p5)),
   .p p21 (.call 11 [(.t p20)]),
   .p p2 (.mv (.c (.str 0 0))),
   .p p3 (.mv (.t p21))])
   .ret) .skip)))
   (.seq (.seq (.reg [.p p22 (.faddr 1 (.t p1)),
   .p p23 (.load1 (.t p22)),
   .p p24 (.lenSlc (.t p23)),
   .p p25 (.mv (.c (.int .i64 (.ofNat 0))))])
   (.block 0 (.loop (.seq (.reg [.p p26 (.bin .lss (.t p25) (.t p24))])
   (.seq (.cond (.t p26) .skip (.exit 0))
   (.seq (.block 1 (.seq (.reg [.p p27 (.iaddrS 4 (.t p23) (.t p25)),
   .p p28 (.loadn 4 (.t p27)),
   .p p7 (.alloc 35 [.int .i64 (.ofNat 0), .int .u8 (.ofNat 0), .str 0 0, .nils]),
   .n (.store 4 (.t p7) (.t p28))])
   (.seq (.reg [.p p8 (.mv (.c (.str 0 0)))])
   (.seq (.seq (.reg [.p p29 (.faddr 1 (.t p7)),
   .p p30 (.load1 (.t p29))])
   (.block 2 (.seq (.reg [.p p32 (.bin .eql (.t p30) (.c (.int .u8 (.ofNat 1)))),
   .p p31 (.mv (.t p32))])
   (.cond (.t p31) (.reg [.p p8 (.mv (.c (.str 8 7310575213499737460)))]) (.seq (.reg [.p p34 (.bin .eql (.t p30) (.c (.int .u8 (.ofNat 2)))),
   .p p33 (.mv (.t p34))])
   (.cond (.t p33) (.reg [.p p8 (.mv (.c (.str 3 6451050)))]) (.seq (.reg [.p p2 (.mv (.c (.str 0 0))),
   .p p3 (.mv (.c (.int .i64 (.ofNat 1))))])
   .ret)))))))
   (.seq (.seq (.reg [.p p35 (.mv (.t p4)),
   .p p36 (.mv (.t p8)),
   .p p37 (.faddr 2 (.t p7)),
   .p p38 (.load1 (.t p37)),
   .p p39 (.bslice 9 2 1 [([], 1, (.t p36)), ([], 1, (.t p38))] []),
   .p p40 (.call 13 [(.t p35), (.c (.str 0 0)), (.t p39)]),
   .p p9 (.mv (.t p40))])
   (.seq (.reg [.p p41 (.mv (.t p9)),
   .p p42 (.eq true (.ifc true [22, 139]) (.t p41) (.c (.nili)))])
   (.cond (.t p42) (.seq (.reg [.p p43 (.mv (.t p9)),
   .p p44 (.call 11 [(.t p43)]),
   .p p2 (.mv (.c (.str 0 0))),
   .p p3 (.mv (.t p44))])
   .ret) .skip)))
   (.seq (.reg [.p p45 (.mv (.t p4)),
   .p p46 (.faddr 3 (.t p7)),
   .p p47 (.load1 (.t p46)),
   .p p48 (.call 12 [(.t p45), (.c (.str 2 8224)), (.t p47)]),
   .p p10 (.mv (.t p48))])
   (.seq (.reg [.p p49 (.mv (.t p10)),
   .p p50 (.eq true (.ifc true [22, 139]) (.t p49) (.c (.nili)))])
   (.cond (.t p50) (.seq (.reg [.p p51 (.mv (.t p10)),
   .p p52 (.call 11 [(.t p51)]),
   .p p2 (.mv (.c (.str 0 0))),
   .p p3 (.mv (.t p52))])
   .ret) .skip))))))))
   (.reg [.p p53 (.bin .add (.t p25) (.c (.int .i64 (.ofNat 1)))),
   .p p25 (.mv (.t p53))])))))))
   (.seq (.reg [.p p54 (.mv (.t p4)),
   .p p55 (.nilck (.t p54)),
   .p p56 (.faddr 3 (.t p55)),
   .p p57 (.call 14 [(.t p56)]),
   .p p2 (.mv (.t p57)),
   .p p3 (.mv (.c (.int .i64 (.ofNat 0))))])
   .ret)))))
   [.t p2, .t p3]
/- bastion/bastionlaw12.awake -/
def a6 : AF :=
  .code [] (.seq (.reg [.p p0 (.mv (.c (.bool false)))])
   (.seq (.reg [.p p1 (.mv (.c (.str 78 2848096649121813296335242652917673210844277999037565438642199078041613194728728901559519778228625278934339468472857117752814464737513467688070268333393125702634878630564683291042532974966)))])
   (.seq (.reg [.p p8 (.mv (.t p1)),
   .p p9 (.call 4 [(.t p8)]),
   .p p7 (.mv (.t p9)),
   .p p10 (.extract 0 (.t p7)),
   .p p11 (.extract 1 (.t p7)),
   .p p12 (.extract 2 (.t p7)),
   .p p2 (.alloc 28 [.nils, .nils]),
   .n (.store 2 (.t p2) (.t p10)),
   .p p3 (.mv (.t p11)),
   .p p4 (.mv (.t p12))])
   (.seq (.reg [.p p14 (.loadn 2 (.t p2)),
   .p p15 (.call 5 [(.t p14)]),
   .p p13 (.mv (.t p15)),
   .p p16 (.extract 0 (.t p13)),
   .p p17 (.extract 1 (.t p13)),
   .p p5 (.mv (.t p16)),
   .p p6 (.mv (.t p17))])
   (.seq (.reg [.p p18 (.mv (.t p4)),
   .p p19 (.bin .eql (.t p18) (.c (.int .i64 (.ofNat 0)))),
   .p p20 (.mv (.t p19)),
   .g p21 (.mv (.t p3)) p20 true,
   .g p22 (.bin .eql (.t p21) (.c (.int .i64 (.ofNat 0)))) p20 true,
   .p p23 (.pick (.t p20) (.t p22) (.c (.bool false))),
   .p p24 (.mv (.t p23)),
   .g p25 (.faddr 0 (.t p2)) p24 true,
   .g p26 (.load1 (.t p25)) p24 true,
   .g p27 (.lenSlc (.t p26)) p24 true,
   .g p28 (.bin .eql (.t p27) (.c (.int .i64 (.ofNat 1)))) p24 true,
   .p p29 (.pick (.t p24) (.t p28) (.c (.bool false))),
   .p p30 (.mv (.t p29)),
   .g p31 (.faddr 1 (.t p2)) p30 true,
   .g p32 (.load1 (.t p31)) p30 true,
   .g p33 (.lenSlc (.t p32)) p30 true,
   .g p34 (.bin .eql (.t p33) (.c (.int .i64 (.ofNat 3)))) p30 true,
   .p p35 (.pick (.t p30) (.t p34) (.c (.bool false))),
   .p p36 (.mv (.t p35)),
   .g p37 (.faddr 1 (.t p2)) p36 true,
   .g p38 (.load1 (.t p37)) p36 true,
   .g p39 (.iaddrS 4 (.t p38) (.c (.int .i64 (.ofNat 1)))) p36 true,
   .g p40 (.faddr 1 (.t p39)) p36 true,
   .g p41 (.load1 (.t p40)) p36 true,
   .g p42 (.bin .eql (.t p41) (.c (.int .u8 (.ofNat 2)))) p36 true,
   .p p43 (.pick (.t p36) (.t p42) (.c (.bool false))),
   .p p44 (.mv (.t p43)),
   .g p45 (.faddr 1 (.t p2)) p44 true,
   .g p46 (.load1 (.t p45)) p44 true,
   .g p47 (.iaddrS 4 (.t p46) (.c (.int .i64 (.ofNat 1)))) p44 true,
   .g p48 (.faddr 3 (.t p47)) p44 true,
   .g p49 (.load1 (.t p48)) p44 true,
   .g p50 (.iaddrS 3 (.t p49) (.c (.int .i64 (.ofNat 1)))) p44 true,
   .g p51 (.faddr 0 (.t p50)) p44 true,
   .g p52 (.load1 (.t p51)) p44 true,
   .g p53 (.bin .eql (.t p52) (.c (.int .i64 (.ofNat 6)))) p44 true,
   .p p54 (.pick (.t p44) (.t p53) (.c (.bool false))),
   .p p55 (.mv (.t p54)),
   .g p56 (.mv (.t p6)) p55 true,
   .g p57 (.bin .eql (.t p56) (.c (.int .i64 (.ofNat 0)))) p55 true,
   .p p58 (.pick (.t p55) (.t p57) (.c (.bool false))),
   .p p59 (.mv (.t p58)),
   .g p60 (.mv (.t p5)) p59 true,
   .g p61 (.mv (.t p1)) p59 true,
   .g p62 (.bin .eql (.t p60) (.t p61)) p59 true,
   .p p63 (.pick (.t p59) (.t p62) (.c (.bool false))),
   .p p64 (.mv (.t p63)),
   .g p65 (.call 15 [(.c (.str 3 3222881))]) p64 true,
   .p p66 (.pick (.t p64) (.t p65) (.c (.bool false))),
   .p p67 (.mv (.t p66)),
   .g p68 (.call 16 [(.c (.str 5 425977851745))]) p67 true,
   .p p69 (.pick (.t p67) (.t p68) (.c (.bool false))),
   .p p0 (.mv (.t p69))])
   .ret)))))
   [.t p0]
/- bastion/desc.rules -/
def a7 : AF :=
  .code [] (.seq (.reg [.p p0 (.mv (.c (.nilm)))])
   (.seq (.reg [.p p1 (.mv (.c (.fn 17 [] [])))])
   (.seq (.reg [.p p2 (.mv (.c (.fn 18 [] [])))])
   (.seq (.reg [.p p3 (.mv (.c (.fn 19 [] [])))])
   (.seq (.reg [.p p4 (.mv (.c (.fn 20 [] [])))])
   (.seq (.reg [.p p5 (.mv (.c (.fn 21 [] [])))])
   (.seq (.reg [.p p6 (.mkmap),
   .p p7 (.mv (.t p1)),
   .p p8 (.build [([], 1, (.t p7)), ([], 1, (.c (.int .i64 (.ofNat 1)))), ([], 1, (.c (.int .i64 (.ofNat 1)))), ([.int .i64 (.ofNat 0)], 1, (.c (.fn 16 [] [])))] [.int .i64 (.ofNat 0), .bool false]),
   .n (.insert .str (.t p6) (.c (.str 7 28539428140183145)) (.t p8)),
   .p p9 (.mv (.t p1)),
   .p p10 (.mv (.t p5)),
   .p p11 (.build [([], 1, (.t p9)), ([], 1, (.c (.int .i64 (.ofNat 1)))), ([], 1, (.c (.int .i64 (.ofNat 400)))), ([.int .i64 (.ofNat 0)], 1, (.t p10))] [.int .i64 (.ofNat 0), .bool false]),
   .n (.insert .str (.t p6) (.c (.str 2 28271)) (.t p11)),
   .p p12 (.mv (.t p1)),
   .p p13 (.mv (.t p5)),
   .p p14 (.build [([], 1, (.t p12)), ([], 1, (.c (.int .i64 (.ofNat 1)))), ([], 1, (.c (.int .i64 (.ofNat 400)))), ([.int .i64 (.ofNat 0)], 1, (.t p13))] [.int .i64 (.ofNat 0), .bool false]),
   .n (.insert .str (.t p6) (.c (.str 5 495673696624)) (.t p14)),
   .p p15 (.mv (.t p3)),
   .p p16 (.build [([], 1, (.t p15)), ([], 1, (.c (.int .i64 (.ofNat 2)))), ([], 1, (.c (.int .i64 (.ofNat 2)))), ([], 1, (.c (.int .i64 (.ofNat 1))))] [.nilf, .int .i64 (.ofNat 0), .bool false]),
   .n (.insert .str (.t p6) (.c (.str 3 7496054)) (.t p16)),
   .p p17 (.mv (.t p4)),
   .p p18 (.build [([], 1, (.t p17)), ([], 1, (.c (.int .i64 (.ofNat 1)))), ([], 1, (.c (.int .i64 (.ofNat 1)))), ([], 1, (.c (.int .i64 (.negSucc 0))))] [.nilf, .int .i64 (.ofNat 0), .bool false]),
   .n (.insert .str (.t p6) (.c (.str 3 6648693)) (.t p18)),
   .p p19 (.mv (.t p2)),
   .p p20 (.build [([], 1, (.t p19)), ([], 1, (.c (.int .i64 (.ofNat 1)))), ([], 1, (.c (.int .i64 (.ofNat 400)))), ([], 1, (.c (.int .i64 (.negSucc 0))))] [.nilf, .int .i64 (.ofNat 0), .bool false]),
   .n (.insert .str (.t p6) (.c (.str 5 495605605742)) (.t p20)),
   .p p21 (.mv (.t p2)),
   .p p22 (.build [([], 1, (.t p21)), ([], 1, (.c (.int .i64 (.ofNat 1)))), ([], 1, (.c (.int .i64 (.ofNat 400)))), ([], 1, (.c (.int .i64 (.negSucc 0))))] [.nilf, .int .i64 (.ofNat 0), .bool false]),
   .n (.insert .str (.t p6) (.c (.str 4 1936154996)) (.t p22)),
   .p p23 (.mv (.t p2)),
   .p p24 (.build [([], 1, (.t p23)), ([], 1, (.c (.int .i64 (.ofNat 2)))), ([], 1, (.c (.int .i64 (.ofNat 400)))), ([], 1, (.c (.int .i64 (.ofNat 1)))), ([], 1, (.c (.fn 23 [] []))), ([.int .i64 (.ofNat 0)], 1, (.c (.bool true)))] []),
   .n (.insert .str (.t p6) (.c (.str 4 1936291937)) (.t p24)),
   .p p25 (.mv (.t p2)),
   .p p26 (.build [([], 1, (.t p25)), ([], 1, (.c (.int .i64 (.ofNat 1)))), ([], 1, (.c (.int .i64 (.ofNat 400)))), ([.int .i64 (.ofNat 0), .nilf, .int .i64 (.ofNat 0)], 1, (.c (.bool true)))] []),
   .n (.insert .str (.t p6) (.c (.str 4 1852139639)) (.t p26)),
   .p p27 (.mv (.t p2)),
   .p p28 (.build [([], 1, (.t p27)), ([], 1, (.c (.int .i64 (.ofNat 1)))), ([], 1, (.c (.int .i64 (.ofNat 400))))] [.int .i64 (.ofNat 0), .nilf, .int .i64 (.ofNat 0), .bool false]),
   .n (.insert .str (.t p6) (.c (.str 2 28516)) (.t p28)),
   .p p29 (.mv (.t p2)),
   .p p30 (.build [([], 1, (.t p29)), ([], 1, (.c (.int .i64 (.ofNat 1)))), ([], 1, (.c (.int .i64 (.ofNat 1)))), ([.int .i64 (.ofNat 0), .nilf], 1, (.c (.int .i64 (.ofNat 5)))), ([], 1, (.c (.bool true)))] []),
   .n (.insert .str (.t p6) (.c (.str 5 495622648436)) (.t p30)),
   .p p31 (.mv (.t p2)),
   .p p32 (.build [([], 1, (.t p31)), ([], 1, (.c (.int .i64 (.ofNat 1)))), ([], 1, (.c (.int .i64 (.ofNat 1)))), ([.int .i64 (.ofNat 0), .nilf], 1, (.c (.int .i64 (.ofNat 1000)))), ([], 1, (.c (.bool true)))] []),
   .n (.insert .str (.t p6) (.c (.str 5 499984984428)) (.t p32)),
   .p p33 (.mv (.t p2)),
   .p p34 (.build [([], 1, (.t p33)), ([.int .i64 (.ofNat 0), .int .i64 (.ofNat 0), .int .i64 (.ofNat 0), .nilf, .int .i64 (.ofNat 0)], 1, (.c (.bool true)))] []),
   .n (.insert .str (.t p6) (.c (.str 6 119165837795693)) (.t p34)),
   .p p35 (.mv (.t p2)),
   .p p36 (.mv (.t p5)),
   .p p37 (.build [([], 1, (.t p35)), ([], 1, (.c (.int .i64 (.ofNat 1)))), ([], 1, (.c (.int .i64 (.ofNat 400)))), ([.int .i64 (.ofNat 0)], 1, (.t p36))] [.int .i64 (.ofNat 0), .bool false]),
   .n (.insert .str (.t p6) (.c (.str 4 1885693291)) (.t p37)),
   .p p38 (.mv (.t p6)),
   .p p0 (.mv (.t p38))])
   .ret)))))))
   [.t p0]
/- strings.Split -/
def a8 : AF :=
  .code [p0, p1] (.seq (.reg [.p p4 (.mv (.c (.nils)))])
   (.seq (.reg [.p p5 (.mv (.t p0)),
   .p p6 (.mv (.t p1)),
   .p p7 (.call 24 [(.t p5), (.t p6), (.c (.int .i64 (.ofNat 0))), (.c (.int .i64 (.negSucc 0)))]),
   .p p4 (.mv (.t p7))])
   .ret))
   [.t p4]
/- bastion/words.Split -/
def a9 : AF :=
  .code [p0] (.seq (.reg [.p p2 (.mv (.c (.nils))),
   .p p3 (.mv (.c (.int .i64 (.ofNat 0))))])
   (.seq (.seq (.reg [.p p10 (.mv (.t p0)),
   .p p11 (.lenStr (.t p10)),
   .p p12 (.bin .gtr (.t p11) (.c (.int .i64 (.ofNat 400))))])
   (.cond (.t p12) (.seq (.reg [.p p2 (.mv (.c (.nils))),
   .p p3 (.mv (.c (.int .i64 (.ofNat 40))))])
   .ret) .skip))
   (.seq (.reg [.p p4 (.mv (.c (.nils)))])
   (.seq (.reg [.p p13 (.mv (.t p0)),
   .p p5 (.mv (.t p13))])
   (.block 0 (.loop (.block 1 (.seq (.reg [.p p14 (.mv (.t p5)),
   .p p15 (.call 25 [(.t p14), (.c (.str 2 2336))]),
   .p p5 (.mv (.t p15))])
   (.block 2 (.seq (.reg [.p p49 (.mv (.t p5)),
   .p p50 (.bin .eql (.t p49) (.c (.str 0 0))),
   .p p48 (.mv (.t p50))])
   (.cond (.t p48) (.seq (.reg [.p p51 (.mv (.t p4)),
   .p p2 (.mv (.t p51)),
   .p p3 (.mv (.c (.int .i64 (.ofNat 0))))])
   .ret) (.seq (.reg [.p p53 (.mv (.t p5)),
   .p p54 (.idxStr (.t p53) (.c (.int .i64 (.ofNat 0)))),
   .p p55 (.bin .eql (.t p54) (.c (.int .u8 (.ofNat 35)))),
   .p p52 (.mv (.t p55))])
   (.cond (.t p52) (.seq (.seq (.reg [.p p56 (.mv (.t p5)),
   .p p57 (.call 26 [(.t p56), (.c (.str 1 10))])])
   (.cond (.t p57) (.seq (.reg [.p p2 (.mv (.c (.nils))),
   .p p3 (.mv (.c (.int .i64 (.ofNat 4))))])
   .ret) .skip))
   (.seq (.reg [.p p58 (.mv (.t p4)),
   .p p2 (.mv (.t p58)),
   .p p3 (.mv (.c (.int .i64 (.ofNat 0))))])
   .ret)) (.seq (.reg [.p p60 (.mv (.t p5)),
   .p p61 (.idxStr (.t p60) (.c (.int .i64 (.ofNat 0)))),
   .p p62 (.bin .eql (.t p61) (.c (.int .u8 (.ofNat 34)))),
   .p p59 (.mv (.t p62))])
   (.cond (.t p59) (.seq (.reg [.p p64 (.mv (.t p5)),
   .p p65 (.sliceStr (.t p64) (some (.c (.int .i64 (.ofNat 1)))) none),
   .p p66 (.call 27 [(.t p65)]),
   .p p63 (.mv (.t p66)),
   .p p67 (.extract 0 (.t p63)),
   .p p68 (.extract 1 (.t p63)),
   .p p69 (.extract 2 (.t p63)),
   .p p6 (.mv (.t p67)),
   .p p7 (.mv (.t p68)),
   .p p8 (.mv (.t p69))])
   (.seq (.seq (.reg [.p p70 (.mv (.t p8)),
   .p p71 (.not (.t p70)),
   .p p72 (.mv (.t p71)),
   .g p73 (.mv (.t p7)) p72 false,
   .g p74 (.bin .neq (.t p73) (.c (.str 0 0))) p72 false,
   .g p75 (.mv (.t p74)) p72 false,
   .g p76 (.mv (.t p7)) p75 true,
   .g p77 (.idxStr (.t p76) (.c (.int .i64 (.ofNat 0)))) p75 true,
   .g p78 (.bin .neq (.t p77) (.c (.int .u8 (.ofNat 32)))) p75 true,
   .g p79 (.pick (.t p75) (.t p78) (.c (.bool false))) p72 false,
   .g p80 (.mv (.t p79)) p72 false,
   .g p81 (.mv (.t p7)) p80 true,
   .g p82 (.idxStr (.t p81) (.c (.int .i64 (.ofNat 0)))) p80 true,
   .g p83 (.bin .neq (.t p82) (.c (.int .u8 (.ofNat 9)))) p80 true,
   .g p84 (.pick (.t p80) (.t p83) (.c (.bool false))) p72 false,
   .p p85 (.pick (.t p72) (.c (.bool true)) (.t p84))])
   (.cond (.t p85) (.seq (.reg [.p p2 (.mv (.c (.nils))),
   .p p3 (.mv (.c (.int .i64 (.ofNat 4))))])
   .ret) .skip))
   (.reg [.p p86 (.mv (.t p4)),
   .p p87 (.mv (.t p6)),
   .p p88 (.bslice 9 1 1 [([], 1, (.t p87))] []),
   .p p89 (.append 9 1 16 (.t p86) (.t p88)),
   .p p90 (.mv (.t p7)),
   .p p4 (.mv (.t p89)),
   .p p5 (.mv (.t p90))]))) (.seq (.reg [.p p9 (.mv (.c (.int .i64 (.ofNat 0))))])
   (.seq (.block 3 (.loop (.seq (.seq (.reg [.p p16 (.mv (.t p9)),
   .p p17 (.mv (.t p5)),
   .p p18 (.lenStr (.t p17)),
   .p p19 (.bin .lss (.t p16) (.t p18)),
   .p p20 (.mv (.t p19)),
   .g p21 (.mv (.t p5)) p20 true,
   .g p22 (.mv (.t p9)) p20 true,
   .g p23 (.idxStr (.t p21) (.t p22)) p20 true,
   .g p24 (.bin .neq (.t p23) (.c (.int .u8 (.ofNat 32)))) p20 true,
   .p p25 (.pick (.t p20) (.t p24) (.c (.bool false))),
   .p p26 (.mv (.t p25)),
   .g p27 (.mv (.t p5)) p26 true,
   .g p28 (.mv (.t p9)) p26 true,
   .g p29 (.idxStr (.t p27) (.t p28)) p26 true,
   .g p30 (.bin .neq (.t p29) (.c (.int .u8 (.ofNat 9)))) p26 true,
   .p p31 (.pick (.t p26) (.t p30) (.c (.bool false)))])
   (.cond (.t p31) .skip (.exit 3)))
   (.block 4 (.seq (.seq (.reg [.p p32 (.mv (.t p5)),
   .p p33 (.mv (.t p9)),
   .p p34 (.idxStr (.t p32) (.t p33)),
   .p p35 (.call 28 [(.t p34)]),
   .p p36 (.not (.t p35))])
   (.cond (.t p36) (.seq (.reg [.p p2 (.mv (.c (.nils))),
   .p p3 (.mv (.c (.int .i64 (.ofNat 4))))])
   .ret) .skip))
   (.reg [.p p37 (.mv (.t p9)),
   .p p38 (.bin .add (.t p37) (.c (.int .i64 (.ofNat 1)))),
   .p p9 (.mv (.t p38))]))))))
   (.dreg [(.p p39 (.mv (.t p4)), 0), (.p p40 (.mv (.t p5)), 0), (.p p41 (.mv (.t p9)), 0), (.p p42 (.sliceStr (.t p40) none (some (.t p41))), 6), (.p p43 (.bslice 9 1 1 [([], 1, (.t p42))] []), 14), (.p p44 (.append 9 1 16 (.t p39) (.t p43)), 31), (.p p45 (.mv (.t p5)), 0), (.p p46 (.mv (.t p9)), 0), (.p p47 (.sliceStr (.t p45) (some (.t p46)) none), 192), (.p p4 (.mv (.t p44)), 63), (.p p5 (.mv (.t p47)), 1023)]))))))))))))))))))
   [.t p2, .t p3]
/- (*bastion/desc.Doc).line -/
def a10 : AF :=
  .code [p0, p1, p2, p3] (.seq (.reg [.p p8 (.mv (.c (.nili)))])
   (.seq (.seq (.reg [.p p15 (.mv (.t p3)),
   .p p16 (.iaddrS 1 (.t p15) (.c (.int .i64 (.ofNat 0)))),
   .p p17 (.load1 (.t p16))])
   (.block 0 (.seq (.reg [.p p19 (.bin .eql (.t p17) (.c (.str 8 7310575213499737460))),
   .p p18 (.mv (.t p19))])
   (.cond (.t p18) (.seq (.reg [.p p20 (.mv (.t p0)),
   .p p21 (.mv (.t p2)),
   .p p22 (.mv (.t p3)),
   .p p23 (.sliceS 1 (.t p22) (some (.c (.int .i64 (.ofNat 1)))) none none),
   .p p24 (.call 29 [(.t p20), (.t p21), (.c (.int .u8 (.ofNat 1))), (.t p23)]),
   .p p8 (.mv (.t p24))])
   .ret) (.seq (.reg [.p p26 (.bin .eql (.t p17) (.c (.str 3 6451050))),
   .p p25 (.mv (.t p26))])
   (.cond (.t p25) (.seq (.reg [.p p27 (.mv (.t p0)),
   .p p28 (.mv (.t p2)),
   .p p29 (.mv (.t p3)),
   .p p30 (.sliceS 1 (.t p29) (some (.c (.int .i64 (.ofNat 1)))) none none),
   .p p31 (.call 29 [(.t p27), (.t p28), (.c (.int .u8 (.ofNat 2))), (.t p30)]),
   .p p8 (.mv (.t p31))])
   .ret) .skip))))))
   (.seq (.dreg [(.p p32 (.mv (.t p0)), 0), (.p p33 (.nilck (.t p32)), 1), (.p p34 (.faddr 0 (.t p33)), 3), (.p p9 (.mv (.c (.int .u8 (.ofNat 0)))), 0), (.p p10 (.mv (.t p34)), 15)])
   (.seq (.seq (.reg [.p p35 (.mv (.t p0)),
   .p p36 (.nilck (.t p35)),
   .p p37 (.faddr 1 (.t p36)),
   .p p38 (.load1 (.t p37)),
   .p p39 (.lenSlc (.t p38)),
   .p p11 (.mv (.t p39))])
   (.seq (.reg [.p p40 (.mv (.t p11)),
   .p p41 (.bin .gtr (.t p40) (.c (.int .i64 (.ofNat 0))))])
   (.cond (.t p41) (.seq (.reg [.p p42 (.mv (.t p0)),
   .p p43 (.nilck (.t p42)),
   .p p44 (.faddr 1 (.t p43)),
   .p p45 (.load1 (.t p44)),
   .p p46 (.mv (.t p11)),
   .p p47 (.bin .sub (.t p46) (.c (.int .i64 (.ofNat 1)))),
   .p p48 (.iaddrS 4 (.t p45) (.t p47)),
   .p p12 (.mv (.t p48))])
   (.dreg [(.p p49 (.mv (.t p12)), 0), (.p p50 (.nilck (.t p49)), 1), (.p p51 (.faddr 1 (.t p50)), 3), (.p p52 (.load1 (.t p51)), 7), (.p p53 (.mv (.t p12)), 0), (.p p54 (.nilck (.t p53)), 16), (.p p55 (.faddr 3 (.t p54)), 48), (.p p9 (.mv (.t p52)), 15), (.p p10 (.mv (.t p55)), 255)])) .skip)))
   (.seq (.dreg [(.p p56 (.mv (.t p2)), 0), (.p p57 (.mv (.t p3)), 0), (.p p58 (.iaddrS 1 (.t p57) (.c (.int .i64 (.ofNat 0)))), 2), (.p p59 (.load1 (.t p58)), 6), (.p p60 (.mv (.t p3)), 0), (.p p61 (.sliceS 1 (.t p60) (some (.c (.int .i64 (.ofNat 1)))) none none), 16), (.p p62 (.build [([], 1, (.t p56)), ([], 1, (.t p59)), ([], 1, (.t p61))] []), 63), (.p p13 (.alloc 38 [.int .i64 (.ofNat 0), .str 0 0, .nils]), 0), (.n (.store 3 (.t p13) (.t p62)), 255)])
   (.seq (.seq (.dreg [(.p p63 (.mv (.t p1)), 0), (.p p64 (.faddr 1 (.t p13)), 0), (.p p65 (.load1 (.t p64)), 2), (.p p66 (.lookup .str false (.agg [.nilf, .int .i64 (.ofNat 0), .int .i64 (.ofNat 0), .int .i64 (.ofNat 0), .nilf, .int .i64 (.ofNat 0), .bool false]) (.t p63) (.t p65)), 7), (.p p67 (.mv (.t p9)), 0), (.p p68 (.mv (.t p10)), 0), (.p p69 (.nilck (.t p68)), 32), (.p p70 (.load1 (.t p69)), 96), (.p p71 (.loadn 3 (.t p13)), 0), (.p p72 (.call 30 [(.t p66), (.t p67), (.t p70), (.t p71)]), 511), (.p p14 (.mv (.t p72)), 1023)])
   (.seq (.reg [.p p73 (.mv (.t p14)),
   .p p74 (.eq true (.ifc true [22, 139]) (.t p73) (.c (.nili)))])
   (.cond (.t p74) (.seq (.reg [.p p75 (.mv (.t p14)),
   .p p8 (.mv (.t p75))])
   .ret) .skip)))
   (.seq (.dreg [(.p p76 (.mv (.t p10)), 0), (.p p77 (.mv (.t p10)), 0), (.p p78 (.nilck (.t p77)), 2), (.p p79 (.load1 (.t p78)), 6), (.p p80 (.loadn 3 (.t p13)), 0), (.p p81 (.bslice 38 1 3 [([], 3, (.t p80))] []), 16), (.p p82 (.append 38 3 48 (.t p79) (.t p81)), 62), (.p p83 (.nilck (.t p76)), 127), (.n (.store 1 (.t p83) (.t p82)), 255)])
   (.seq (.reg [.p p8 (.mv (.c (.nili)))])
   .ret))))))))
   [.t p8]
/- bastion/desc.told -/
def a11 : AF :=
  .code [p0] (.seq (.reg [.p p2 (.mv (.c (.int .i64 (.ofNat 0))))])
   (.seq (.reg [.p p3 (.alloc 22 [.int .i64 (.ofNat 0)]),
   .n (.store 1 (.t p3) (.c (.int .i64 (.ofNat 0))))])
   (.seq (.reg [.p p4 (.mv (.t p0)),
   .p p5 (.mkif 75 (.t p3)),
   .p p6 (.call 31 [(.t p4), (.t p5)])])
   (.seq (.reg [.p p7 (.load1 (.t p3)),
   .p p2 (.mv (.t p7))])
   .ret))))
   [.t p2]
/- (*bastion/desc.printer).items -/
def a12 : AF :=
  .code [p0, p1, p2] (.seq (.reg [.p p6 (.mv (.c (.nili)))])
   (.seq (.seq (.reg [.p p13 (.mv (.t p2)),
   .p p14 (.lenSlc (.t p13)),
   .p p15 (.mv (.c (.int .i64 (.ofNat 0))))])
   (.block 0 (.loop (.seq (.reg [.p p16 (.bin .lss (.t p15) (.t p14))])
   (.seq (.cond (.t p16) .skip (.exit 0))
   (.seq (.block 1 (.seq (.reg [.p p17 (.iaddrS 3 (.t p13) (.t p15)),
   .p p18 (.loadn 3 (.t p17)),
   .p p8 (.alloc 38 [.int .i64 (.ofNat 0), .str 0 0, .nils]),
   .n (.store 3 (.t p8) (.t p18))])
   (.seq (.reg [.p p19 (.faddr 1 (.t p8)),
   .p p20 (.load1 (.t p19)),
   .p p21 (.bslice 9 1 1 [([], 1, (.t p20))] []),
   .p p22 (.faddr 2 (.t p8)),
   .p p23 (.load1 (.t p22)),
   .p p24 (.append 9 1 16 (.t p21) (.t p23)),
   .p p9 (.mv (.t p24))])
   (.seq (.seq (.reg [.p p25 (.faddr 1 (.t p8)),
   .p p26 (.load1 (.t p25)),
   .p p27 (.bin .eql (.t p26) (.c (.str 8 7310575213499737460))),
   .p p28 (.mv (.t p27)),
   .g p29 (.faddr 1 (.t p8)) p28 false,
   .g p30 (.load1 (.t p29)) p28 false,
   .g p31 (.bin .eql (.t p30) (.c (.str 3 6451050))) p28 false,
   .p p32 (.pick (.t p28) (.c (.bool true)) (.t p31))])
   (.cond (.t p32) (.seq (.seq (.reg [.p p34 (.mv (.t p9)),
   .p p35 (.call 32 [(.t p34)]),
   .p p33 (.mv (.t p35)),
   .p p36 (.extract 0 (.t p33)),
   .p p37 (.extract 1 (.t p33)),
   .p p10 (.mv (.t p36)),
   .p p11 (.mv (.t p37))])
   (.seq (.reg [.p p38 (.mv (.t p11)),
   .p p39 (.bin .neq (.t p38) (.c (.int .i64 (.ofNat 0)))),
   .p p40 (.mv (.t p39)),
   .g p41 (.mv (.t p1)) p40 false,
   .g p42 (.lenStr (.t p41)) p40 false,
   .g p43 (.mv (.t p10)) p40 false,
   .g p44 (.lenStr (.t p43)) p40 false,
   .g p45 (.bin .add (.t p42) (.t p44)) p40 false,
   .g p46 (.bin .gtr (.t p45) (.c (.int .i64 (.ofNat 400)))) p40 false,
   .p p47 (.pick (.t p40) (.c (.bool true)) (.t p46))])
   (.cond (.t p47) (.seq (.reg [.p p48 (.mkif 22 (.c (.int .i64 (.ofNat 40)))),
   .p p6 (.mv (.t p48))])
   .ret) .skip)))
   (.seq (.reg [.p p49 (.mkif 22 (.c (.int .i64 (.ofNat 4)))),
   .p p6 (.mv (.t p49))])
   .ret)) .skip))
   (.seq (.reg [.p p50 (.mv (.t p0)),
   .p p51 (.mv (.t p1)),
   .p p52 (.mv (.t p9)),
   .p p53 (.call 13 [(.t p50), (.t p51), (.t p52)]),
   .p p12 (.mv (.t p53))])
   (.seq (.reg [.p p54 (.mv (.t p12)),
   .p p55 (.eq true (.ifc true [22, 139]) (.t p54) (.c (.nili)))])
   (.cond (.t p55) (.seq (.reg [.p p56 (.mv (.t p12)),
   .p p6 (.mv (.t p56))])
   .ret) .skip)))))))
   (.reg [.p p57 (.bin .add (.t p15) (.c (.int .i64 (.ofNat 1)))),
   .p p15 (.mv (.t p57))])))))))
   (.seq (.reg [.p p6 (.mv (.c (.nili)))])
   .ret)))
   [.t p6]
/- (*bastion/desc.printer).put -/
def a13 : AF :=
  .code [p0, p1, p2] (.seq (.reg [.p p6 (.mv (.c (.nili)))])
   (.seq (.reg [.p p9 (.mv (.t p0)),
   .p p10 (.nilck (.t p9)),
   .p p11 (.faddr 5 (.t p10)),
   .p p12 (.load1 (.t p11)),
   .p p13 (.bin .add (.t p12) (.c (.int .i64 (.ofNat 1)))),
   .p p14 (.nilck (.t p9)),
   .p p15 (.faddr 5 (.t p14)),
   .n (.store 1 (.t p15) (.t p13))])
   (.seq (.reg [.p p17 (.mv (.t p2)),
   .p p18 (.call 32 [(.t p17)]),
   .p p16 (.mv (.t p18)),
   .p p19 (.extract 0 (.t p16)),
   .p p20 (.extract 1 (.t p16)),
   .p p7 (.mv (.t p19)),
   .p p8 (.mv (.t p20))])
   (.seq (.seq (.reg [.p p21 (.mv (.t p8)),
   .p p22 (.bin .neq (.t p21) (.c (.int .i64 (.ofNat 0)))),
   .p p23 (.mv (.t p22)),
   .g p24 (.mv (.t p1)) p23 false,
   .g p25 (.lenStr (.t p24)) p23 false,
   .g p26 (.mv (.t p7)) p23 false,
   .g p27 (.lenStr (.t p26)) p23 false,
   .g p28 (.bin .add (.t p25) (.t p27)) p23 false,
   .g p29 (.bin .gtr (.t p28) (.c (.int .i64 (.ofNat 400)))) p23 false,
   .p p30 (.pick (.t p23) (.c (.bool true)) (.t p29))])
   (.cond (.t p30) (.seq (.reg [.p p31 (.mkif 22 (.c (.int .i64 (.ofNat 40)))),
   .p p6 (.mv (.t p31))])
   .ret) .skip))
   (.seq (.reg [.p p32 (.mv (.t p0)),
   .p p33 (.nilck (.t p32)),
   .p p34 (.faddr 3 (.t p33)),
   .p p35 (.mv (.t p1)),
   .p p36 (.call 33 [(.t p34), (.t p35)])])
   (.seq (.reg [.p p37 (.mv (.t p0)),
   .p p38 (.nilck (.t p37)),
   .p p39 (.faddr 3 (.t p38)),
   .p p40 (.mv (.t p7)),
   .p p41 (.call 33 [(.t p39), (.t p40)])])
   (.seq (.reg [.p p42 (.mv (.t p0)),
   .p p43 (.nilck (.t p42)),
   .p p44 (.faddr 3 (.t p43)),
   .p p45 (.call 34 [(.t p44), (.c (.int .u8 (.ofNat 10)))])])
   (.seq (.dreg [(.p p46 (.mv (.t p0)), 0), (.p p47 (.nilck (.t p46)), 1), (.p p48 (.faddr 0 (.t p47)), 3), (.p p49 (.mv (.t p0)), 0), (.p p50 (.nilck (.t p49)), 8), (.p p51 (.faddr 2 (.t p50)), 24), (.p p52 (.load1 (.t p51)), 56), (.p p53 (.mv (.t p0)), 0), (.p p54 (.nilck (.t p53)), 128), (.p p55 (.faddr 5 (.t p54)), 384), (.p p56 (.load1 (.t p55)), 896), (.p p57 (.mv (.t p2)), 0), (.p p58 (.call 10 [(.t p48), (.t p52), (.t p56), (.t p57)]), 4095), (.p p6 (.mv (.t p58)), 8191)])
   .ret))))))))
   [.t p6]
/- (*strings.Builder).String -/
def a14 : AF :=
  .code [p0] (.seq (.reg [.p p2 (.mv (.c (.str 0 0)))])
   (.seq (.dreg [(.p p3 (.mv (.t p0)), 0), (.p p4 (.nilck (.t p3)), 1), (.p p5 (.faddr 1 (.t p4)), 3), (.p p6 (.load1 (.t p5)), 7), (.p p7 (.usd (.t p6)), 15), (.p p8 (.mv (.t p0)), 0), (.p p9 (.nilck (.t p8)), 32), (.p p10 (.faddr 1 (.t p9)), 96), (.p p11 (.load1 (.t p10)), 224), (.p p12 (.lenSlc (.t p11)), 480), (.p p13 (.ustr 5 (.t p7) (.t p12)), 1023), (.p p2 (.mv (.t p13)), 2047)])
   .ret))
   [.t p2]
/- bastion/desc.Name -/
def a15 : AF :=
  .code [p0] (.seq (.reg [.p p2 (.mv (.c (.bool false)))])
   (.seq (.seq (.reg [.p p3 (.mv (.t p0)),
   .p p4 (.bin .eql (.t p3) (.c (.str 0 0))),
   .p p5 (.mv (.t p4)),
   .g p6 (.mv (.t p0)) p5 false,
   .g p7 (.lenStr (.t p6)) p5 false,
   .g p8 (.bin .gtr (.t p7) (.c (.int .i64 (.ofNat 24)))) p5 false,
   .p p9 (.pick (.t p5) (.c (.bool true)) (.t p8)),
   .p p10 (.mv (.t p9)),
   .g p11 (.mv (.t p0)) p10 false,
   .g p12 (.idxStr (.t p11) (.c (.int .i64 (.ofNat 0)))) p10 false,
   .g p13 (.bin .lss (.t p12) (.c (.int .u8 (.ofNat 97)))) p10 false,
   .p p14 (.pick (.t p10) (.c (.bool true)) (.t p13)),
   .p p15 (.mv (.t p14)),
   .g p16 (.mv (.t p0)) p15 false,
   .g p17 (.idxStr (.t p16) (.c (.int .i64 (.ofNat 0)))) p15 false,
   .g p18 (.bin .gtr (.t p17) (.c (.int .u8 (.ofNat 122)))) p15 false,
   .p p19 (.pick (.t p15) (.c (.bool true)) (.t p18))])
   (.cond (.t p19) (.seq (.reg [.p p2 (.mv (.c (.bool false)))])
   .ret) .skip))
   (.seq (.reg [.p p20 (.mv (.t p0)),
   .p p21 (.call 35 [(.t p20), (.c (.str 38 12117391813846758031141756778034423710743608522770212737987117973555293213725218199772029537))]),
   .p p22 (.bin .eql (.t p21) (.c (.str 0 0))),
   .p p2 (.mv (.t p22))])
   .ret)))
   [.t p2]
/- bastion/desc.Path -/
def a16 : AF :=
  .code [p0] (.seq (.reg [.p p2 (.mv (.c (.bool false)))])
   (.seq (.seq (.reg [.p p7 (.mv (.t p0)),
   .p p8 (.call 8 [(.t p7), (.c (.str 1 47))]),
   .p p9 (.lenSlc (.t p8)),
   .p p10 (.mv (.c (.int .i64 (.ofNat 0))))])
   (.block 0 (.loop (.seq (.reg [.p p11 (.bin .lss (.t p10) (.t p9))])
   (.seq (.cond (.t p11) .skip (.exit 0))
   (.seq (.block 1 (.seq (.reg [.p p12 (.iaddrS 1 (.t p8) (.t p10)),
   .p p13 (.load1 (.t p12)),
   .p p4 (.mv (.t p13))])
   (.seq (.seq (.reg [.p p14 (.mv (.t p4)),
   .p p15 (.bin .eql (.t p14) (.c (.str 0 0))),
   .p p16 (.mv (.t p15)),
   .g p17 (.mv (.t p4)) p16 false,
   .g p18 (.bin .eql (.t p17) (.c (.str 1 46))) p16 false,
   .p p19 (.pick (.t p16) (.c (.bool true)) (.t p18)),
   .p p20 (.mv (.t p19)),
   .g p21 (.mv (.t p4)) p20 false,
   .g p22 (.bin .eql (.t p21) (.c (.str 2 11822))) p20 false,
   .p p23 (.pick (.t p20) (.c (.bool true)) (.t p22))])
   (.cond (.t p23) (.seq (.reg [.p p2 (.mv (.c (.bool false)))])
   .ret) .skip))
   (.seq (.reg [.p p24 (.mv (.t p4)),
   .p p25 (.lenStr (.t p24)),
   .p p26 (.mv (.c (.int .i64 (.ofNat 0))))])
   (.block 2 (.loop (.seq (.reg [.p p27 (.bin .lss (.t p26) (.t p25))])
   (.seq (.cond (.t p27) .skip (.exit 2))
   (.seq (.block 3 (.seq (.reg [.p p28 (.mv (.t p26)),
   .p p5 (.mv (.t p28))])
   (.seq (.reg [.p p29 (.mv (.t p4)),
   .p p30 (.mv (.t p5)),
   .p p31 (.idxStr (.t p29) (.t p30)),
   .p p6 (.mv (.t p31))])
   (.seq (.reg [.p p32 (.mv (.t p6)),
   .p p33 (.bin .geq (.t p32) (.c (.int .u8 (.ofNat 97)))),
   .p p34 (.mv (.t p33)),
   .g p35 (.mv (.t p6)) p34 true,
   .g p36 (.bin .leq (.t p35) (.c (.int .u8 (.ofNat 122)))) p34 true,
   .p p37 (.pick (.t p34) (.t p36) (.c (.bool false))),
   .p p38 (.mv (.t p37)),
   .g p39 (.mv (.t p6)) p38 false,
   .g p40 (.bin .geq (.t p39) (.c (.int .u8 (.ofNat 65)))) p38 false,
   .g p41 (.mv (.t p40)) p38 false,
   .g p42 (.mv (.t p6)) p41 true,
   .g p43 (.bin .leq (.t p42) (.c (.int .u8 (.ofNat 90)))) p41 true,
   .g p44 (.pick (.t p41) (.t p43) (.c (.bool false))) p38 false,
   .p p45 (.pick (.t p38) (.c (.bool true)) (.t p44)),
   .p p46 (.mv (.t p45)),
   .g p47 (.mv (.t p6)) p46 false,
   .g p48 (.bin .geq (.t p47) (.c (.int .u8 (.ofNat 48)))) p46 false,
   .g p49 (.mv (.t p48)) p46 false,
   .g p50 (.mv (.t p6)) p49 true,
   .g p51 (.bin .leq (.t p50) (.c (.int .u8 (.ofNat 57)))) p49 true,
   .g p52 (.pick (.t p49) (.t p51) (.c (.bool false))) p46 false,
   .p p53 (.pick (.t p46) (.c (.bool true)) (.t p52)),
   .p p54 (.mv (.t p53)),
   .g p55 (.mv (.t p6)) p54 false,
   .g p56 (.bin .eql (.t p55) (.c (.int .u8 (.ofNat 45)))) p54 false,
   .p p57 (.pick (.t p54) (.c (.bool true)) (.t p56)),
   .p p58 (.mv (.t p57)),
   .g p59 (.mv (.t p6)) p58 false,
   .g p60 (.bin .eql (.t p59) (.c (.int .u8 (.ofNat 95)))) p58 false,
   .p p61 (.pick (.t p58) (.c (.bool true)) (.t p60)),
   .p p62 (.mv (.t p61)),
   .g p63 (.mv (.t p6)) p62 false,
   .g p64 (.bin .eql (.t p63) (.c (.int .u8 (.ofNat 46)))) p62 false,
   .p p65 (.pick (.t p62) (.c (.bool true)) (.t p64)),
   .p p66 (.not (.t p65))])
   (.cond (.t p66) (.seq (.reg [.p p2 (.mv (.c (.bool false)))])
   .ret) .skip)))))
   (.reg [.p p67 (.bin .add (.t p26) (.c (.int .i64 (.ofNat 1)))),
   .p p26 (.mv (.t p67))]))))))))))
   (.reg [.p p68 (.bin .add (.t p10) (.c (.int .i64 (.ofNat 1)))),
   .p p10 (.mv (.t p68))])))))))
   (.seq (.reg [.p p69 (.mv (.t p0)),
   .p p70 (.lenStr (.t p69)),
   .p p71 (.bin .leq (.t p70) (.c (.int .i64 (.ofNat 48)))),
   .p p2 (.mv (.t p71))])
   .ret)))
   [.t p2]
/- bastion/desc.rules$1 -/
def a17 : AF :=
  .code [p0, p1] (.seq (.reg [.p p4 (.mv (.c (.bool false)))])
   (.seq (.reg [.p p5 (.mv (.t p0)),
   .p p6 (.bin .eql (.t p5) (.c (.int .u8 (.ofNat 0)))),
   .p p4 (.mv (.t p6))])
   .ret))
   [.t p4]
/- bastion/desc.rules$2 -/
def a18 : AF :=
  .code [p0, p1] (.seq (.reg [.p p4 (.mv (.c (.bool false)))])
   (.seq (.reg [.p p5 (.mv (.t p0)),
   .p p6 (.bin .neq (.t p5) (.c (.int .u8 (.ofNat 0)))),
   .p p4 (.mv (.t p6))])
   .ret))
   [.t p4]
/- bastion/desc.rules$3 -/
def a19 : AF :=
  .code [p0, p1] (.seq (.reg [.p p4 (.mv (.c (.bool false)))])
   (.seq (.reg [.p p4 (.mv (.c (.bool true)))])
   .ret))
   [.t p4]
/- bastion/desc.rules$4 -/
def a20 : AF :=
  .code [p0, p1] (.seq (.reg [.p p4 (.mv (.c (.bool false)))])
   (.seq (.reg [.p p5 (.mv (.t p0)),
   .p p6 (.bin .eql (.t p5) (.c (.int .u8 (.ofNat 2)))),
   .p p7 (.mv (.t p6)),
   .g p8 (.mv (.t p1)) p7 true,
   .p p9 (.pick (.t p7) (.t p8) (.c (.bool false))),
   .p p4 (.mv (.t p9))])
   .ret))
   [.t p4]
/- bastion/desc.rules$5 -/
def a21 : AF :=
  .code [p0] (.seq (.reg [.p p2 (.mv (.c (.bool false)))])
   (.seq (.reg [.p p3 (.mv (.t p0)),
   .p p4 (.call 22 [(.t p3)]),
   .p p5 (.bin .eql (.t p4) (.c (.int .i64 (.ofNat 0)))),
   .p p2 (.mv (.t p5))])
   .ret))
   [.t p2]
/- bastion/glob.Check -/
def a22 : AF :=
  .code [p0] (.seq (.reg [.p p2 (.mv (.c (.int .i64 (.ofNat 0))))])
   (.seq (.block 0 (.seq (.reg [.p p4 (.mv (.t p0)),
   .p p5 (.lenStr (.t p4)),
   .p p6 (.bin .gtr (.t p5) (.c (.int .i64 (.ofNat 64)))),
   .p p3 (.mv (.t p6))])
   (.cond (.t p3) (.seq (.reg [.p p2 (.mv (.c (.int .i64 (.ofNat 40))))])
   .ret) (.seq (.reg [.p p8 (.mv (.t p0)),
   .p p9 (.bin .eql (.t p8) (.c (.str 0 0))),
   .p p10 (.mv (.t p9)),
   .g p11 (.mv (.t p0)) p10 false,
   .g p12 (.call 36 [(.t p11), (.c (.fn 37 [] []))]) p10 false,
   .p p13 (.pick (.t p10) (.c (.bool true)) (.t p12)),
   .p p7 (.mv (.t p13))])
   (.cond (.t p7) (.seq (.reg [.p p2 (.mv (.c (.int .i64 (.ofNat 4))))])
   .ret) .skip)))))
   (.seq (.reg [.p p2 (.mv (.c (.int .i64 (.ofNat 0))))])
   .ret)))
   [.t p2]
/- bastion/desc.plain -/
def a23 : AF :=
  .code [p0] (.seq (.reg [.p p2 (.mv (.c (.bool false)))])
   (.seq (.reg [.p p5 (.mv (.t p0)),
   .p p6 (.bin .neq (.t p5) (.c (.str 0 0))),
   .p p7 (.mv (.t p6)),
   .g p8 (.mv (.t p0)) p7 true,
   .g p9 (.lenStr (.t p8)) p7 true,
   .g p10 (.bin .leq (.t p9) (.c (.int .i64 (.ofNat 64)))) p7 true,
   .p p11 (.pick (.t p7) (.t p10) (.c (.bool false))),
   .p p3 (.mv (.t p11))])
   (.seq (.seq (.reg [.p p12 (.mv (.t p0)),
   .p p13 (.lenStr (.t p12)),
   .p p14 (.mv (.c (.int .i64 (.ofNat 0))))])
   (.block 0 (.loop (.seq (.reg [.p p15 (.bin .lss (.t p14) (.t p13))])
   (.seq (.cond (.t p15) .skip (.exit 0))
   (.seq (.block 1 (.seq (.reg [.p p16 (.mv (.t p14)),
   .p p4 (.mv (.t p16))])
   (.reg [.p p17 (.mv (.t p3)),
   .p p18 (.mv (.t p17)),
   .g p19 (.mv (.t p0)) p18 true,
   .g p20 (.mv (.t p4)) p18 true,
   .g p21 (.idxStr (.t p19) (.t p20)) p18 true,
   .g p22 (.bin .geq (.t p21) (.c (.int .u8 (.ofNat 33)))) p18 true,
   .p p23 (.pick (.t p18) (.t p22) (.c (.bool false))),
   .p p24 (.mv (.t p23)),
   .g p25 (.mv (.t p0)) p24 true,
   .g p26 (.mv (.t p4)) p24 true,
   .g p27 (.idxStr (.t p25) (.t p26)) p24 true,
   .g p28 (.bin .leq (.t p27) (.c (.int .u8 (.ofNat 126)))) p24 true,
   .p p29 (.pick (.t p24) (.t p28) (.c (.bool false))),
   .p p3 (.mv (.t p29))])))
   (.reg [.p p30 (.bin .add (.t p14) (.c (.int .i64 (.ofNat 1)))),
   .p p14 (.mv (.t p30))])))))))
   (.seq (.reg [.p p31 (.mv (.t p3)),
   .p p2 (.mv (.t p31))])
   .ret))))
   [.t p2]
/- strings.genSplit -/
def a24 : AF :=
  .code [p0, p1, p2, p3] (.seq (.reg [.p p8 (.mv (.c (.nils)))])
   (.seq (.seq (.reg [.p p12 (.mv (.t p3)),
   .p p13 (.bin .eql (.t p12) (.c (.int .i64 (.ofNat 0))))])
   (.cond (.t p13) (.seq (.reg [.p p8 (.mv (.c (.nils)))])
   .ret) .skip))
   (.seq (.seq (.reg [.p p14 (.mv (.t p1)),
   .p p15 (.bin .eql (.t p14) (.c (.str 0 0)))])
   (.cond (.t p15) (.seq (.reg [.p p16 (.mv (.t p0)),
   .p p17 (.mv (.t p3)),
   .p p18 (.call 38 [(.t p16), (.t p17)]),
   .p p8 (.mv (.t p18))])
   .ret) .skip))
   (.seq (.seq (.reg [.p p19 (.mv (.t p3)),
   .p p20 (.bin .lss (.t p19) (.c (.int .i64 (.ofNat 0))))])
   (.cond (.t p20) (.reg [.p p21 (.mv (.t p0)),
   .p p22 (.mv (.t p1)),
   .p p23 (.call 39 [(.t p21), (.t p22)]),
   .p p24 (.bin .add (.t p23) (.c (.int .i64 (.ofNat 1)))),
   .p p3 (.mv (.t p24))]) .skip))
   (.seq (.reg [.p p25 (.mv (.t p3)),
   .p p26 (.mv (.t p0)),
   .p p27 (.lenStr (.t p26)),
   .p p28 (.bin .add (.t p27) (.c (.int .i64 (.ofNat 1)))),
   .p p29 (.min (.t p25) (.t p28)),
   .p p3 (.mv (.t p29))])
   (.seq (.reg [.p p30 (.mv (.t p3)),
   .p p31 (.mkslice 9 1 16 [.str 0 0] (.t p30) (.t p30)),
   .p p9 (.mv (.t p31))])
   (.seq (.reg [.p p32 (.mv (.t p3)),
   .p p33 (.bin .sub (.t p32) (.c (.int .i64 (.ofNat 1)))),
   .p p3 (.mv (.t p33))])
   (.seq (.reg [.p p10 (.mv (.c (.int .i64 (.ofNat 0))))])
   (.seq (.block 0 (.loop (.seq (.seq (.reg [.p p34 (.mv (.t p10)),
   .p p35 (.mv (.t p3)),
   .p p36 (.bin .lss (.t p34) (.t p35))])
   (.cond (.t p36) .skip (.exit 0)))
   (.block 1 (.seq (.reg [.p p37 (.mv (.t p0)),
   .p p38 (.mv (.t p1)),
   .p p39 (.call 40 [(.t p37), (.t p38)]),
   .p p11 (.mv (.t p39))])
   (.seq (.seq (.reg [.p p40 (.mv (.t p11)),
   .p p41 (.bin .lss (.t p40) (.c (.int .i64 (.ofNat 0))))])
   (.cond (.t p41) (.exit 0) .skip))
   (.seq (.reg [.p p42 (.mv (.t p9)),
   .p p43 (.mv (.t p10)),
   .p p44 (.mv (.t p0)),
   .p p45 (.mv (.t p11)),
   .p p46 (.mv (.t p2)),
   .p p47 (.bin .add (.t p45) (.t p46)),
   .p p48 (.sliceStr (.t p44) none (some (.t p47))),
   .p p49 (.iaddrS 1 (.t p42) (.t p43)),
   .n (.store 1 (.t p49) (.t p48))])
   (.seq (.reg [.p p50 (.mv (.t p0)),
   .p p51 (.mv (.t p11)),
   .p p52 (.mv (.t p1)),
   .p p53 (.lenStr (.t p52)),
   .p p54 (.bin .add (.t p51) (.t p53)),
   .p p55 (.sliceStr (.t p50) (some (.t p54)) none),
   .p p0 (.mv (.t p55))])
   (.reg [.p p56 (.mv (.t p10)),
   .p p57 (.bin .add (.t p56) (.c (.int .i64 (.ofNat 1)))),
   .p p10 (.mv (.t p57))])))))))))
   (.seq (.reg [.p p58 (.mv (.t p9)),
   .p p59 (.mv (.t p10)),
   .p p60 (.mv (.t p0)),
   .p p61 (.iaddrS 1 (.t p58) (.t p59)),
   .n (.store 1 (.t p61) (.t p60))])
   (.seq (.reg [.p p62 (.mv (.t p9)),
   .p p63 (.mv (.t p10)),
   .p p64 (.bin .add (.t p63) (.c (.int .i64 (.ofNat 1)))),
   .p p65 (.sliceS 1 (.t p62) none (some (.t p64)) none),
   .p p8 (.mv (.t p65))])
   .ret)))))))))))
   [.t p8]
/- strings.TrimLeft -/
def a25 : AF :=
  .code [p0, p1] (.seq (.reg [.p p4 (.mv (.c (.str 0 0)))])
   (.seq (.seq (.reg [.p p7 (.mv (.t p0)),
   .p p8 (.bin .eql (.t p7) (.c (.str 0 0))),
   .p p9 (.mv (.t p8)),
   .g p10 (.mv (.t p1)) p9 false,
   .g p11 (.bin .eql (.t p10) (.c (.str 0 0))) p9 false,
   .p p12 (.pick (.t p9) (.c (.bool true)) (.t p11))])
   (.cond (.t p12) (.seq (.reg [.p p13 (.mv (.t p0)),
   .p p4 (.mv (.t p13))])
   .ret) .skip))
   (.seq (.seq (.reg [.p p14 (.mv (.t p1)),
   .p p15 (.lenStr (.t p14)),
   .p p16 (.bin .eql (.t p15) (.c (.int .i64 (.ofNat 1)))),
   .p p17 (.mv (.t p16)),
   .g p18 (.mv (.t p1)) p17 true,
   .g p19 (.idxStr (.t p18) (.c (.int .i64 (.ofNat 0)))) p17 true,
   .g p20 (.bin .lss (.t p19) (.c (.int .u8 (.ofNat 128)))) p17 true,
   .p p21 (.pick (.t p17) (.t p20) (.c (.bool false)))])
   (.cond (.t p21) (.seq (.reg [.p p22 (.mv (.t p0)),
   .p p23 (.mv (.t p1)),
   .p p24 (.idxStr (.t p23) (.c (.int .i64 (.ofNat 0)))),
   .p p25 (.call 41 [(.t p22), (.t p24)]),
   .p p4 (.mv (.t p25))])
   .ret) .skip))
   (.seq (.seq (.reg [.p p27 (.mv (.t p1)),
   .p p28 (.call 42 [(.t p27)]),
   .p p26 (.mv (.t p28)),
   .p p29 (.extract 0 (.t p26)),
   .p p30 (.extract 1 (.t p26)),
   .p p5 (.alloc 87 [.bool false, .bool false, .bool false, .bool false, .bool false, .bool false, .bool false, .bool false, .bool false, .bool false, .bool false, .bool false, .bool false, .bool false, .bool false, .bool false, .bool false, .bool false, .bool false, .bool false, .bool false, .bool false, .bool false, .bool false, .bool false, .bool false, .bool false, .bool false, .bool false, .bool false, .bool false, .bool false, .bool false, .bool false, .bool false, .bool false, .bool false, .bool false, .bool false, .bool false, .bool false, .bool false, .bool false, .bool false, .bool false, .bool false, .bool false, .bool false, .bool false, .bool false, .bool false, .bool false, .bool false, .bool false, .bool false, .bool false, .bool false, .bool false, .bool false, .bool false, .bool false, .bool false, .bool false, .bool false, .bool false, .bool false, .bool false, .bool false, .bool false, .bool false, .bool false, .bool false, .bool false, .bool false, .bool false, .bool false, .bool false, .bool false, .bool false, .bool false, .bool false, .bool false, .bool false, .bool false, .bool false, .bool false, .bool false, .bool false, .bool false, .bool false, .bool false, .bool false, .bool false, .bool false, .bool false, .bool false, .bool false, .bool false, .bool false, .bool false, .bool false, .bool false, .bool false, .bool false, .bool false, .bool false, .bool false, .bool false, .bool false, .bool false, .bool false, .bool false, .bool false, .bool false, .bool false, .bool false, .bool false, .bool false, .bool false, .bool false, .bool false, .bool false, .bool false, .bool false, .bool false, .bool false, .bool false, .bool false, .bool false, .bool false, .bool false, .bool false, .bool false, .bool false, .bool false, .bool false, .bool false, .bool false, .bool false, .bool false, .bool false, .bool false, .bool false, .bool false, .bool false, .bool false, .bool false, .bool false, .bool false, .bool false, .bool false, .bool false, .bool false, .bool false, .bool false, .bool false, .bool false, .bool false, .bool false, .bool false, .bool false, .bool false, .bool false, .bool false, .bool false, .bool false, .bool false, .bool false, .bool false, .bool false, .bool false, .bool false, .bool false, .bool false, .bool false, .bool false, .bool false, .bool false, .bool false, .bool false, .bool false, .bool false, .bool false, .bool false, .bool false, .bool false, .bool false, .bool false, .bool false, .bool false, .bool false, .bool false, .bool false, .bool false, .bool false, .bool false, .bool false, .bool false, .bool false, .bool false, .bool false, .bool false, .bool false, .bool false, .bool false, .bool false, .bool false, .bool false, .bool false, .bool false, .bool false, .bool false, .bool false, .bool false, .bool false, .bool false, .bool false, .bool false, .bool false, .bool false, .bool false, .bool false, .bool false, .bool false, .bool false, .bool false, .bool false, .bool false, .bool false, .bool false, .bool false, .bool false, .bool false, .bool false, .bool false, .bool false, .bool false, .bool false, .bool false, .bool false, .bool false, .bool false, .bool false, .bool false, .bool false, .bool false, .bool false, .bool false, .bool false, .bool false, .bool false, .bool false, .bool false, .bool false, .bool false, .bool false]),
   .n (.store 256 (.t p5) (.t p29)),
   .p p6 (.mv (.t p30))])
   (.seq (.reg [.p p31 (.mv (.t p6))])
   (.cond (.t p31) (.seq (.reg [.p p32 (.mv (.t p0)),
   .p p33 (.call 43 [(.t p32), (.t p5)]),
   .p p4 (.mv (.t p33))])
   .ret) .skip)))
   (.seq (.reg [.p p34 (.mv (.t p0)),
   .p p35 (.mv (.t p1)),
   .p p36 (.call 44 [(.t p34), (.t p35)]),
   .p p4 (.mv (.t p36))])
   .ret)))))
   [.t p4]
/- strings.Contains -/
def a26 : AF :=
  .code [p0, p1] (.seq (.reg [.p p4 (.mv (.c (.bool false)))])
   (.seq (.reg [.p p5 (.mv (.t p0)),
   .p p6 (.mv (.t p1)),
   .p p7 (.call 40 [(.t p5), (.t p6)]),
   .p p8 (.bin .geq (.t p7) (.c (.int .i64 (.ofNat 0)))),
   .p p4 (.mv (.t p8))])
   .ret))
   [.t p4]
/- bastion/words.quoted -/
def a27 : AF :=
  .code [p0] (.seq (.reg [.p p2 (.mv (.c (.str 0 0))),
   .p p3 (.mv (.c (.str 0 0))),
   .p p4 (.mv (.c (.bool false)))])
   (.seq (.reg [.p p5 (.alloc 52 [.nilp, .nils])])
   (.seq (.reg [.p p12 (.call 45 []),
   .p p6 (.mv (.t p12))])
   (.seq (.block 0 (.loop (.seq (.seq (.reg [.p p13 (.mv (.t p0)),
   .p p14 (.bin .neq (.t p13) (.c (.str 0 0)))])
   (.cond (.t p14) .skip (.exit 0)))
   (.block 1 (.seq (.reg [.p p15 (.mv (.t p0)),
   .p p16 (.idxStr (.t p15) (.c (.int .i64 (.ofNat 0)))),
   .p p7 (.mv (.t p16))])
   (.seq (.reg [.p p17 (.mv (.t p0)),
   .p p18 (.sliceStr (.t p17) (some (.c (.int .i64 (.ofNat 1)))) none),
   .p p0 (.mv (.t p18))])
   (.block 2 (.seq (.reg [.p p22 (.mv (.t p7)),
   .p p23 (.bin .eql (.t p22) (.c (.int .u8 (.ofNat 34)))),
   .p p21 (.mv (.t p23))])
   (.cond (.t p21) (.seq (.reg [.p p24 (.call 14 [(.t p5)]),
   .p p25 (.mv (.t p0)),
   .p p2 (.mv (.t p24)),
   .p p3 (.mv (.t p25)),
   .p p4 (.mv (.c (.bool true)))])
   .ret) (.seq (.reg [.p p27 (.mv (.t p7)),
   .p p28 (.bin .eql (.t p27) (.c (.int .u8 (.ofNat 92)))),
   .p p26 (.mv (.t p28))])
   (.cond (.t p26) (.seq (.seq (.reg [.p p29 (.mv (.t p0)),
   .p p30 (.bin .eql (.t p29) (.c (.str 0 0)))])
   (.cond (.t p30) (.seq (.reg [.p p2 (.mv (.c (.str 0 0))),
   .p p3 (.mv (.c (.str 0 0))),
   .p p4 (.mv (.c (.bool false)))])
   .ret) .skip))
   (.seq (.dreg [(.p p31 (.mv (.t p0)), 0), (.p p32 (.idxStr (.t p31) (.c (.int .i64 (.ofNat 0)))), 1), (.p p33 (.mv (.t p0)), 0), (.p p34 (.sliceStr (.t p33) (some (.c (.int .i64 (.ofNat 1)))) none), 4), (.p p7 (.mv (.t p32)), 3), (.p p0 (.mv (.t p34)), 31)])
   (.seq (.seq (.reg [.p p35 (.mv (.t p7)),
   .p p36 (.bin .eql (.t p35) (.c (.int .u8 (.ofNat 120))))])
   (.cond (.t p36) (.seq (.seq (.reg [.p p37 (.mv (.t p0)),
   .p p38 (.lenStr (.t p37)),
   .p p39 (.bin .lss (.t p38) (.c (.int .i64 (.ofNat 2))))])
   (.cond (.t p39) (.seq (.reg [.p p2 (.mv (.c (.str 0 0))),
   .p p3 (.mv (.c (.str 0 0))),
   .p p4 (.mv (.c (.bool false)))])
   .ret) .skip))
   (.seq (.dreg [(.p p40 (.mv (.t p0)), 0), (.p p41 (.idxStr (.t p40) (.c (.int .i64 (.ofNat 0)))), 1), (.p p42 (.call 46 [(.c (.str 16 136107713667768957684761770045455085872)), (.t p41)]), 3), (.p p43 (.mv (.t p0)), 0), (.p p44 (.idxStr (.t p43) (.c (.int .i64 (.ofNat 1)))), 8), (.p p45 (.call 46 [(.c (.str 16 136107713667768957684761770045455085872)), (.t p44)]), 31), (.p p8 (.mv (.t p42)), 63), (.p p9 (.mv (.t p45)), 127)])
   (.seq (.seq (.reg [.p p46 (.mv (.t p8)),
   .p p47 (.bin .lss (.t p46) (.c (.int .i64 (.ofNat 0)))),
   .p p48 (.mv (.t p47)),
   .g p49 (.mv (.t p9)) p48 false,
   .g p50 (.bin .lss (.t p49) (.c (.int .i64 (.ofNat 0)))) p48 false,
   .p p51 (.pick (.t p48) (.c (.bool true)) (.t p50))])
   (.cond (.t p51) (.seq (.reg [.p p2 (.mv (.c (.str 0 0))),
   .p p3 (.mv (.c (.str 0 0))),
   .p p4 (.mv (.c (.bool false)))])
   .ret) .skip))
   (.seq (.reg [.p p52 (.mv (.t p8)),
   .p p53 (.shf true (.t p52) (.c (.int .u64 (.ofNat 4)))),
   .p p54 (.mv (.t p9)),
   .p p55 (.bin .or (.t p53) (.t p54)),
   .p p56 (.convI .u8 (.t p55)),
   .p p57 (.call 34 [(.t p5), (.t p56)])])
   (.seq (.reg [.p p58 (.mv (.t p0)),
   .p p59 (.sliceStr (.t p58) (some (.c (.int .i64 (.ofNat 2)))) none),
   .p p0 (.mv (.t p59))])
   (.exit 1)))))) .skip))
   (.seq (.reg [.p p61 (.mv (.t p6)),
   .p p62 (.mv (.t p7)),
   .p p63 (.lookup .int true (.int .u8 (.ofNat 0)) (.t p61) (.t p62)),
   .p p60 (.mv (.t p63)),
   .p p64 (.extract 0 (.t p60)),
   .p p65 (.extract 1 (.t p60)),
   .p p10 (.mv (.t p64)),
   .p p11 (.mv (.t p65))])
   (.seq (.seq (.reg [.p p66 (.mv (.t p11)),
   .p p67 (.not (.t p66))])
   (.cond (.t p67) (.seq (.reg [.p p2 (.mv (.c (.str 0 0))),
   .p p3 (.mv (.c (.str 0 0))),
   .p p4 (.mv (.c (.bool false)))])
   .ret) .skip))
   (.reg [.p p68 (.mv (.t p10)),
   .p p69 (.call 34 [(.t p5), (.t p68)])])))))) (.seq (.reg [.p p71 (.mv (.t p7)),
   .p p72 (.bin .lss (.t p71) (.c (.int .u8 (.ofNat 32)))),
   .p p73 (.mv (.t p72)),
   .g p74 (.mv (.t p7)) p73 false,
   .g p75 (.bin .gtr (.t p74) (.c (.int .u8 (.ofNat 126)))) p73 false,
   .p p76 (.pick (.t p73) (.c (.bool true)) (.t p75)),
   .p p70 (.mv (.t p76))])
   (.cond (.t p70) (.seq (.reg [.p p2 (.mv (.c (.str 0 0))),
   .p p3 (.mv (.c (.str 0 0))),
   .p p4 (.mv (.c (.bool false)))])
   .ret) (.reg [.p p19 (.mv (.t p7)),
   .p p20 (.call 34 [(.t p5), (.t p19)])]))))))))))))))
   (.seq (.reg [.p p2 (.mv (.c (.str 0 0))),
   .p p3 (.mv (.c (.str 0 0))),
   .p p4 (.mv (.c (.bool false)))])
   .ret)))))
   [.t p2, .t p3, .t p4]
/- bastion/words.plain -/
def a28 : AF :=
  .code [p0] (.seq (.reg [.p p2 (.mv (.c (.bool false)))])
   (.seq (.reg [.p p3 (.mv (.t p0)),
   .p p4 (.bin .geq (.t p3) (.c (.int .u8 (.ofNat 33)))),
   .p p5 (.mv (.t p4)),
   .g p6 (.mv (.t p0)) p5 true,
   .g p7 (.bin .leq (.t p6) (.c (.int .u8 (.ofNat 126)))) p5 true,
   .p p8 (.pick (.t p5) (.t p7) (.c (.bool false))),
   .p p9 (.mv (.t p8)),
   .g p10 (.mv (.t p0)) p9 true,
   .g p11 (.bin .neq (.t p10) (.c (.int .u8 (.ofNat 34)))) p9 true,
   .p p12 (.pick (.t p9) (.t p11) (.c (.bool false))),
   .p p2 (.mv (.t p12))])
   .ret))
   [.t p2]
/- (*bastion/desc.Doc).section -/
def a29 : AF :=
  .code [p0, p1, p2, p3] (.seq (.reg [.p p8 (.mv (.c (.nili)))])
   (.seq (.seq (.reg [.p p12 (.mv (.t p3)),
   .p p13 (.lenSlc (.t p12)),
   .p p14 (.bin .neq (.t p13) (.c (.int .i64 (.ofNat 1))))])
   (.cond (.t p14) (.seq (.reg [.p p15 (.mkif 22 (.c (.int .i64 (.ofNat 4)))),
   .p p8 (.mv (.t p15))])
   .ret) .skip))
   (.seq (.seq (.reg [.p p16 (.mv (.t p3)),
   .p p17 (.iaddrS 1 (.t p16) (.c (.int .i64 (.ofNat 0)))),
   .p p18 (.load1 (.t p17)),
   .p p19 (.call 15 [(.t p18)]),
   .p p20 (.not (.t p19))])
   (.cond (.t p20) (.seq (.reg [.p p21 (.mkif 22 (.c (.int .i64 (.ofNat 63)))),
   .p p8 (.mv (.t p21))])
   .ret) .skip))
   (.seq (.reg [.p p9 (.mv (.c (.int .i64 (.ofNat 0))))])
   (.seq (.seq (.reg [.p p22 (.mv (.t p0)),
   .p p23 (.nilck (.t p22)),
   .p p24 (.faddr 1 (.t p23)),
   .p p25 (.load1 (.t p24)),
   .p p26 (.lenSlc (.t p25)),
   .p p27 (.mv (.c (.int .i64 (.ofNat 0))))])
   (.block 0 (.loop (.seq (.reg [.p p28 (.bin .lss (.t p27) (.t p26))])
   (.seq (.cond (.t p28) .skip (.exit 0))
   (.seq (.block 1 (.seq (.reg [.p p29 (.iaddrS 4 (.t p25) (.t p27)),
   .p p30 (.loadn 4 (.t p29)),
   .p p11 (.alloc 35 [.int .i64 (.ofNat 0), .int .u8 (.ofNat 0), .str 0 0, .nils]),
   .n (.store 4 (.t p11) (.t p30))])
   (.seq (.reg [.p p31 (.faddr 1 (.t p11)),
   .p p32 (.load1 (.t p31)),
   .p p33 (.mv (.t p2)),
   .p p34 (.bin .eql (.t p32) (.t p33))])
   (.cond (.t p34) (.seq (.reg [.p p35 (.mv (.t p9)),
   .p p36 (.bin .add (.t p35) (.c (.int .i64 (.ofNat 1)))),
   .p p9 (.mv (.t p36))])
   (.seq (.dreg [(.p p37 (.faddr 2 (.t p11)), 0), (.p p38 (.load1 (.t p37)), 1), (.p p39 (.mv (.t p3)), 0), (.p p40 (.iaddrS 1 (.t p39) (.c (.int .i64 (.ofNat 0)))), 4), (.p p41 (.load1 (.t p40)), 12), (.p p42 (.bin .eql (.t p38) (.t p41)), 31)])
   (.cond (.t p42) (.seq (.reg [.p p43 (.mkif 22 (.c (.int .i64 (.ofNat 6)))),
   .p p8 (.mv (.t p43))])
   .ret) .skip))) .skip))))
   (.reg [.p p44 (.bin .add (.t p27) (.c (.int .i64 (.ofNat 1)))),
   .p p27 (.mv (.t p44))])))))))
   (.seq (.seq (.reg [.p p45 (.mv (.t p9)),
   .p p46 (.bin .geq (.t p45) (.c (.int .i64 (.ofNat 24))))])
   (.cond (.t p46) (.seq (.reg [.p p47 (.mkif 22 (.c (.int .i64 (.ofNat 3)))),
   .p p8 (.mv (.t p47))])
   .ret) .skip))
   (.seq (.dreg [(.p p48 (.mv (.t p0)), 0), (.p p49 (.mv (.t p0)), 0), (.p p50 (.nilck (.t p49)), 2), (.p p51 (.faddr 1 (.t p50)), 6), (.p p52 (.load1 (.t p51)), 14), (.p p53 (.mv (.t p1)), 0), (.p p54 (.mv (.t p2)), 0), (.p p55 (.mv (.t p3)), 0), (.p p56 (.iaddrS 1 (.t p55) (.c (.int .i64 (.ofNat 0)))), 128), (.p p57 (.load1 (.t p56)), 384), (.p p58 (.build [([], 1, (.t p53)), ([], 1, (.t p54)), ([], 1, (.t p57))] [.nils]), 992), (.p p59 (.bslice 35 1 4 [([], 4, (.t p58))] []), 2016), (.p p60 (.append 35 4 56 (.t p52) (.t p59)), 4094), (.p p61 (.nilck (.t p48)), 8191), (.p p62 (.faddr 1 (.t p61)), 16383), (.n (.store 1 (.t p62) (.t p60)), 32767)])
   (.seq (.reg [.p p8 (.mv (.c (.nili)))])
   .ret))))))))
   [.t p8]
/- (bastion/desc.rule).check -/
def a30 : AF :=
  .code [p0, p1, p2, p3] (.seq (.reg [.p p4 (.box 62 (.t p0)),
   .p p7 (.box 38 (.t p3)),
   .p p8 (.mv (.c (.nili)))])
   (.seq (.reg [.p p18 (.faddr 2 (.t p7)),
   .p p19 (.load1 (.t p18)),
   .p p20 (.lenSlc (.t p19)),
   .p p9 (.mv (.t p20))])
   (.seq (.seq (.reg [.p p21 (.faddr 0 (.t p4)),
   .p p22 (.load1 (.t p21)),
   .p p23 (.eq false .fn (.t p22) (.c (.nilf))),
   .p p24 (.mv (.t p23)),
   .g p25 (.faddr 0 (.t p4)) p24 false,
   .g p26 (.load1 (.t p25)) p24 false,
   .g p27 (.mv (.t p1)) p24 false,
   .g p28 (.mv (.t p2)) p24 false,
   .g p29 (.lenSlc (.t p28)) p24 false,
   .g p30 (.bin .eql (.t p29) (.c (.int .i64 (.ofNat 0)))) p24 false,
   .g p31 (.callv (.t p26) [(.t p27), (.t p30)]) p24 false,
   .g p32 (.not (.t p31)) p24 false,
   .p p33 (.pick (.t p24) (.c (.bool true)) (.t p32)),
   .p p34 (.mv (.t p33)),
   .g p35 (.mv (.t p9)) p34 false,
   .g p36 (.faddr 1 (.t p4)) p34 false,
   .g p37 (.load1 (.t p36)) p34 false,
   .g p38 (.bin .lss (.t p35) (.t p37)) p34 false,
   .p p39 (.pick (.t p34) (.c (.bool true)) (.t p38)),
   .p p40 (.mv (.t p39)),
   .g p41 (.mv (.t p9)) p40 false,
   .g p42 (.faddr 2 (.t p4)) p40 false,
   .g p43 (.load1 (.t p42)) p40 false,
   .g p44 (.bin .gtr (.t p41) (.t p43)) p40 false,
   .p p45 (.pick (.t p40) (.c (.bool true)) (.t p44))])
   (.cond (.t p45) (.seq (.reg [.p p46 (.mkif 22 (.c (.int .i64 (.ofNat 4)))),
   .p p8 (.mv (.t p46))])
   .ret) .skip))
   (.seq (.seq (.reg [.p p47 (.faddr 2 (.t p7)),
   .p p48 (.load1 (.t p47)),
   .p p49 (.lenSlc (.t p48)),
   .p p50 (.mv (.c (.int .i64 (.ofNat 0))))])
   (.block 0 (.loop (.seq (.reg [.p p51 (.bin .lss (.t p50) (.t p49))])
   (.seq (.cond (.t p51) .skip (.exit 0))
   (.seq (.block 1 (.seq (.reg [.p p52 (.mv (.t p50)),
   .p p53 (.iaddrS 1 (.t p48) (.t p50)),
   .p p54 (.load1 (.t p53)),
   .p p10 (.mv (.t p52)),
   .p p11 (.mv (.t p54))])
   (.seq (.reg [.p p55 (.faddr 3 (.t p4)),
   .p p56 (.load1 (.t p55)),
   .p p57 (.bin .lss (.t p56) (.c (.int .i64 (.ofNat 0)))),
   .p p58 (.mv (.t p57)),
   .g p59 (.mv (.t p10)) p58 false,
   .g p60 (.faddr 3 (.t p4)) p58 false,
   .g p61 (.load1 (.t p60)) p58 false,
   .g p62 (.bin .lss (.t p59) (.t p61)) p58 false,
   .p p63 (.pick (.t p58) (.c (.bool true)) (.t p62)),
   .p p64 (.mv (.t p63)),
   .g p65 (.mv (.t p11)) p64 true,
   .g p66 (.call 15 [(.t p65)]) p64 true,
   .g p67 (.not (.t p66)) p64 true,
   .p p68 (.pick (.t p64) (.t p67) (.c (.bool false)))])
   (.cond (.t p68) (.seq (.reg [.p p69 (.mkif 22 (.c (.int .i64 (.ofNat 63)))),
   .p p8 (.mv (.t p69))])
   .ret) .skip))))
   (.reg [.p p70 (.bin .add (.t p50) (.c (.int .i64 (.ofNat 1)))),
   .p p50 (.mv (.t p70))])))))))
   (.seq (.seq (.reg [.p p71 (.faddr 4 (.t p4)),
   .p p72 (.load1 (.t p71)),
   .p p73 (.eq true .fn (.t p72) (.c (.nilf)))])
   (.cond (.t p73) (.seq (.reg [.p p74 (.faddr 2 (.t p7)),
   .p p75 (.load1 (.t p74)),
   .p p76 (.faddr 3 (.t p4)),
   .p p77 (.load1 (.t p76)),
   .p p78 (.max (.c (.int .i64 (.ofNat 0))) (.t p77)),
   .p p79 (.sliceS 1 (.t p75) (some (.t p78)) none none),
   .p p80 (.lenSlc (.t p79)),
   .p p81 (.mv (.c (.int .i64 (.ofNat 0))))])
   (.block 2 (.loop (.seq (.reg [.p p82 (.bin .lss (.t p81) (.t p80))])
   (.seq (.cond (.t p82) .skip (.exit 2))
   (.seq (.block 3 (.seq (.reg [.p p83 (.iaddrS 1 (.t p79) (.t p81)),
   .p p84 (.load1 (.t p83)),
   .p p13 (.mv (.t p84))])
   (.seq (.reg [.p p85 (.faddr 4 (.t p4)),
   .p p86 (.load1 (.t p85)),
   .p p87 (.mv (.t p13)),
   .p p88 (.callv (.t p86) [(.t p87)]),
   .p p89 (.not (.t p88))])
   (.cond (.t p89) (.seq (.reg [.p p90 (.mkif 22 (.c (.int .i64 (.ofNat 4)))),
   .p p8 (.mv (.t p90))])
   .ret) .skip))))
   (.reg [.p p91 (.bin .add (.t p81) (.c (.int .i64 (.ofNat 1)))),
   .p p81 (.mv (.t p91))]))))))) .skip))
   (.seq (.seq (.reg [.p p92 (.faddr 5 (.t p4)),
   .p p93 (.load1 (.t p92)),
   .p p94 (.bin .gtr (.t p93) (.c (.int .i64 (.ofNat 0))))])
   (.cond (.t p94) (.seq (.reg [.p p96 (.faddr 2 (.t p7)),
   .p p97 (.load1 (.t p96)),
   .p p98 (.iaddrS 1 (.t p97) (.c (.int .i64 (.ofNat 0)))),
   .p p99 (.load1 (.t p98)),
   .p p100 (.call 47 [(.t p99)]),
   .p p95 (.mv (.t p100)),
   .p p101 (.extract 0 (.t p95)),
   .p p102 (.extract 1 (.t p95)),
   .p p14 (.mv (.t p101)),
   .p p15 (.mv (.t p102))])
   (.seq (.dreg [(.p p103 (.mv (.t p15)), 0), (.p p104 (.eq true (.ifc true [22, 139]) (.t p103) (.c (.nili))), 1), (.p p105 (.mv (.t p104)), 3), (.g p106 (.mv (.t p14)) p105 false, 7), (.g p107 (.call 48 [(.t p106)]) p105 false, 15), (.g p108 (.faddr 2 (.t p7)) p105 false, 7), (.g p109 (.load1 (.t p108)) p105 false, 39), (.g p110 (.iaddrS 1 (.t p109) (.c (.int .i64 (.ofNat 0)))) p105 false, 103), (.g p111 (.load1 (.t p110)) p105 false, 231), (.g p112 (.bin .neq (.t p107) (.t p111)) p105 false, 511), (.p p113 (.pick (.t p105) (.c (.bool true)) (.t p112)), 1023), (.p p114 (.mv (.t p113)), 2047), (.g p115 (.mv (.t p14)) p114 false, 4095), (.g p116 (.bin .lss (.t p115) (.c (.int .i64 (.ofNat 1)))) p114 false, 8191), (.p p117 (.pick (.t p114) (.c (.bool true)) (.t p116)), 16383), (.p p118 (.mv (.t p117)), 32767), (.g p119 (.mv (.t p14)) p118 false, 65535), (.g p120 (.faddr 5 (.t p4)) p118 false, 65535), (.g p121 (.load1 (.t p120)) p118 false, 196607), (.g p122 (.bin .gtr (.t p119) (.t p121)) p118 false, 524287), (.p p123 (.pick (.t p118) (.c (.bool true)) (.t p122)), 1048575)])
   (.cond (.t p123) (.seq (.reg [.p p124 (.mkif 22 (.c (.int .i64 (.ofNat 1)))),
   .p p8 (.mv (.t p124))])
   .ret) .skip))) .skip))
   (.seq (.seq (.reg [.p p125 (.mv (.t p2)),
   .p p126 (.lenSlc (.t p125)),
   .p p127 (.mv (.c (.int .i64 (.ofNat 0))))])
   (.block 4 (.loop (.seq (.reg [.p p128 (.bin .lss (.t p127) (.t p126))])
   (.seq (.cond (.t p128) .skip (.exit 4))
   (.seq (.block 5 (.seq (.reg [.p p129 (.iaddrS 3 (.t p125) (.t p127)),
   .p p130 (.loadn 3 (.t p129)),
   .p p17 (.alloc 38 [.int .i64 (.ofNat 0), .str 0 0, .nils]),
   .n (.store 3 (.t p17) (.t p130))])
   (.seq (.dreg [(.p p131 (.faddr 6 (.t p4)), 0), (.p p132 (.load1 (.t p131)), 1), (.p p133 (.mv (.t p132)), 3), (.g p134 (.faddr 1 (.t p17)) p133 true, 7), (.g p135 (.load1 (.t p134)) p133 true, 15), (.g p136 (.faddr 1 (.t p7)) p133 true, 7), (.g p137 (.load1 (.t p136)) p133 true, 39), (.g p138 (.bin .eql (.t p135) (.t p137)) p133 true, 127), (.p p139 (.pick (.t p133) (.t p138) (.c (.bool false))), 255), (.p p140 (.mv (.t p139)), 511), (.g p141 (.faddr 1 (.t p7)) p140 true, 1023), (.g p142 (.load1 (.t p141)) p140 true, 2047), (.g p143 (.bin .neq (.t p142) (.c (.str 4 1936291937))) p140 true, 4095), (.g p144 (.mv (.t p143)) p140 true, 8191), (.g p145 (.faddr 2 (.t p17)) p144 false, 16383), (.g p146 (.load1 (.t p145)) p144 false, 32767), (.g p147 (.iaddrS 1 (.t p146) (.c (.int .i64 (.ofNat 0)))) p144 false, 65535), (.g p148 (.load1 (.t p147)) p144 false, 131071), (.g p149 (.faddr 2 (.t p7)) p144 false, 16383), (.g p150 (.load1 (.t p149)) p144 false, 278527), (.g p151 (.iaddrS 1 (.t p150) (.c (.int .i64 (.ofNat 0)))) p144 false, 802815), (.g p152 (.load1 (.t p151)) p144 false, 1851391), (.g p153 (.bin .eql (.t p148) (.t p152)) p144 false, 4194303), (.g p154 (.pick (.t p144) (.c (.bool true)) (.t p153)) p140 true, 8388607), (.p p155 (.pick (.t p140) (.t p154) (.c (.bool false))), 16777215)])
   (.cond (.t p155) (.seq (.reg [.p p156 (.mkif 22 (.c (.int .i64 (.ofNat 6)))),
   .p p8 (.mv (.t p156))])
   .ret) .skip))))
   (.reg [.p p157 (.bin .add (.t p127) (.c (.int .i64 (.ofNat 1)))),
   .p p127 (.mv (.t p157))])))))))
   (.seq (.seq (.reg [.p p158 (.mv (.t p2)),
   .p p159 (.lenSlc (.t p158)),
   .p p160 (.bin .geq (.t p159) (.c (.int .i64 (.ofNat 40))))])
   (.cond (.t p160) (.seq (.reg [.p p161 (.mkif 22 (.c (.int .i64 (.ofNat 3)))),
   .p p8 (.mv (.t p161))])
   .ret) .skip))
   (.seq (.reg [.p p8 (.mv (.c (.nili)))])
   .ret)))))))))
   [.t p8]
/- errors.As -/ def a31 : AF := .asErr 22 75
/- bastion/words.Join -/
def a32 : AF :=
  .code [p0] (.seq (.reg [.p p2 (.mv (.c (.str 0 0))),
   .p p3 (.mv (.c (.int .i64 (.ofNat 0))))])
   (.seq (.reg [.p p4 (.mv (.c (.nils)))])
   (.seq (.seq (.reg [.p p8 (.mv (.t p0)),
   .p p9 (.lenSlc (.t p8)),
   .p p10 (.mv (.c (.int .i64 (.ofNat 0))))])
   (.block 0 (.loop (.seq (.reg [.p p11 (.bin .lss (.t p10) (.t p9))])
   (.seq (.cond (.t p11) .skip (.exit 0))
   (.seq (.block 1 (.seq (.reg [.p p12 (.iaddrS 1 (.t p8) (.t p10)),
   .p p13 (.load1 (.t p12)),
   .p p6 (.mv (.t p13))])
   (.reg [.p p14 (.mv (.t p4)),
   .p p15 (.mv (.t p6)),
   .p p16 (.call 53 [(.t p15)]),
   .p p17 (.bslice 9 1 1 [([], 1, (.t p16))] []),
   .p p18 (.append 9 1 16 (.t p14) (.t p17)),
   .p p4 (.mv (.t p18))])))
   (.reg [.p p19 (.bin .add (.t p10) (.c (.int .i64 (.ofNat 1)))),
   .p p10 (.mv (.t p19))])))))))
   (.seq (.reg [.p p20 (.mv (.t p4)),
   .p p21 (.call 54 [(.t p20), (.c (.str 1 32))]),
   .p p7 (.mv (.t p21))])
   (.seq (.seq (.reg [.p p22 (.mv (.t p7)),
   .p p23 (.lenStr (.t p22)),
   .p p24 (.bin .gtr (.t p23) (.c (.int .i64 (.ofNat 400))))])
   (.cond (.t p24) (.seq (.reg [.p p2 (.mv (.c (.str 0 0))),
   .p p3 (.mv (.c (.int .i64 (.ofNat 40))))])
   .ret) .skip))
   (.seq (.reg [.p p25 (.mv (.t p7)),
   .p p2 (.mv (.t p25)),
   .p p3 (.mv (.c (.int .i64 (.ofNat 0))))])
   .ret))))))
   [.t p2, .t p3]
/- (*strings.Builder).WriteString -/
def a33 : AF :=
  .code [p0, p1] (.seq (.reg [.p p4 (.mv (.c (.int .i64 (.ofNat 0)))),
   .p p5 (.mv (.c (.nili)))])
   (.seq (.reg [.p p6 (.mv (.t p0)),
   .p p7 (.call 55 [(.t p6)])])
   (.seq (.reg [.p p8 (.mv (.t p0)),
   .p p9 (.mv (.t p0)),
   .p p10 (.nilck (.t p9)),
   .p p11 (.faddr 1 (.t p10)),
   .p p12 (.load1 (.t p11)),
   .p p13 (.mv (.t p1)),
   .p p14 (.append 5 1 1 (.t p12) (.t p13)),
   .p p15 (.nilck (.t p8)),
   .p p16 (.faddr 1 (.t p15)),
   .n (.store 1 (.t p16) (.t p14))])
   (.seq (.reg [.p p17 (.mv (.t p1)),
   .p p18 (.lenStr (.t p17)),
   .p p4 (.mv (.t p18)),
   .p p5 (.mv (.c (.nili)))])
   .ret))))
   [.t p4, .t p5]
/- (*strings.Builder).WriteByte -/
def a34 : AF :=
  .code [p0, p1] (.seq (.reg [.p p4 (.mv (.c (.nili)))])
   (.seq (.reg [.p p5 (.mv (.t p0)),
   .p p6 (.call 55 [(.t p5)])])
   (.seq (.reg [.p p7 (.mv (.t p0)),
   .p p8 (.mv (.t p0)),
   .p p9 (.nilck (.t p8)),
   .p p10 (.faddr 1 (.t p9)),
   .p p11 (.load1 (.t p10)),
   .p p12 (.mv (.t p1)),
   .p p13 (.bslice 5 1 1 [([], 1, (.t p12))] []),
   .p p14 (.append 5 1 1 (.t p11) (.t p13)),
   .p p15 (.nilck (.t p7)),
   .p p16 (.faddr 1 (.t p15)),
   .n (.store 1 (.t p16) (.t p14))])
   (.seq (.reg [.p p4 (.mv (.c (.nili)))])
   .ret))))
   [.t p4]
/- strings.Trim -/
def a35 : AF :=
  .code [p0, p1] (.seq (.reg [.p p4 (.mv (.c (.str 0 0)))])
   (.seq (.seq (.reg [.p p7 (.mv (.t p0)),
   .p p8 (.bin .eql (.t p7) (.c (.str 0 0))),
   .p p9 (.mv (.t p8)),
   .g p10 (.mv (.t p1)) p9 false,
   .g p11 (.bin .eql (.t p10) (.c (.str 0 0))) p9 false,
   .p p12 (.pick (.t p9) (.c (.bool true)) (.t p11))])
   (.cond (.t p12) (.seq (.reg [.p p13 (.mv (.t p0)),
   .p p4 (.mv (.t p13))])
   .ret) .skip))
   (.seq (.seq (.reg [.p p14 (.mv (.t p1)),
   .p p15 (.lenStr (.t p14)),
   .p p16 (.bin .eql (.t p15) (.c (.int .i64 (.ofNat 1)))),
   .p p17 (.mv (.t p16)),
   .g p18 (.mv (.t p1)) p17 true,
   .g p19 (.idxStr (.t p18) (.c (.int .i64 (.ofNat 0)))) p17 true,
   .g p20 (.bin .lss (.t p19) (.c (.int .u8 (.ofNat 128)))) p17 true,
   .p p21 (.pick (.t p17) (.t p20) (.c (.bool false)))])
   (.cond (.t p21) (.seq (.dreg [(.p p22 (.mv (.t p0)), 0), (.p p23 (.mv (.t p1)), 0), (.p p24 (.idxStr (.t p23) (.c (.int .i64 (.ofNat 0)))), 2), (.p p25 (.call 56 [(.t p22), (.t p24)]), 7), (.p p26 (.mv (.t p1)), 0), (.p p27 (.idxStr (.t p26) (.c (.int .i64 (.ofNat 0)))), 16), (.p p28 (.call 41 [(.t p25), (.t p27)]), 63), (.p p4 (.mv (.t p28)), 127)])
   .ret) .skip))
   (.seq (.seq (.reg [.p p30 (.mv (.t p1)),
   .p p31 (.call 42 [(.t p30)]),
   .p p29 (.mv (.t p31)),
   .p p32 (.extract 0 (.t p29)),
   .p p33 (.extract 1 (.t p29)),
   .p p5 (.alloc 87 [.bool false, .bool false, .bool false, .bool false, .bool false, .bool false, .bool false, .bool false, .bool false, .bool false, .bool false, .bool false, .bool false, .bool false, .bool false, .bool false, .bool false, .bool false, .bool false, .bool false, .bool false, .bool false, .bool false, .bool false, .bool false, .bool false, .bool false, .bool false, .bool false, .bool false, .bool false, .bool false, .bool false, .bool false, .bool false, .bool false, .bool false, .bool false, .bool false, .bool false, .bool false, .bool false, .bool false, .bool false, .bool false, .bool false, .bool false, .bool false, .bool false, .bool false, .bool false, .bool false, .bool false, .bool false, .bool false, .bool false, .bool false, .bool false, .bool false, .bool false, .bool false, .bool false, .bool false, .bool false, .bool false, .bool false, .bool false, .bool false, .bool false, .bool false, .bool false, .bool false, .bool false, .bool false, .bool false, .bool false, .bool false, .bool false, .bool false, .bool false, .bool false, .bool false, .bool false, .bool false, .bool false, .bool false, .bool false, .bool false, .bool false, .bool false, .bool false, .bool false, .bool false, .bool false, .bool false, .bool false, .bool false, .bool false, .bool false, .bool false, .bool false, .bool false, .bool false, .bool false, .bool false, .bool false, .bool false, .bool false, .bool false, .bool false, .bool false, .bool false, .bool false, .bool false, .bool false, .bool false, .bool false, .bool false, .bool false, .bool false, .bool false, .bool false, .bool false, .bool false, .bool false, .bool false, .bool false, .bool false, .bool false, .bool false, .bool false, .bool false, .bool false, .bool false, .bool false, .bool false, .bool false, .bool false, .bool false, .bool false, .bool false, .bool false, .bool false, .bool false, .bool false, .bool false, .bool false, .bool false, .bool false, .bool false, .bool false, .bool false, .bool false, .bool false, .bool false, .bool false, .bool false, .bool false, .bool false, .bool false, .bool false, .bool false, .bool false, .bool false, .bool false, .bool false, .bool false, .bool false, .bool false, .bool false, .bool false, .bool false, .bool false, .bool false, .bool false, .bool false, .bool false, .bool false, .bool false, .bool false, .bool false, .bool false, .bool false, .bool false, .bool false, .bool false, .bool false, .bool false, .bool false, .bool false, .bool false, .bool false, .bool false, .bool false, .bool false, .bool false, .bool false, .bool false, .bool false, .bool false, .bool false, .bool false, .bool false, .bool false, .bool false, .bool false, .bool false, .bool false, .bool false, .bool false, .bool false, .bool false, .bool false, .bool false, .bool false, .bool false, .bool false, .bool false, .bool false, .bool false, .bool false, .bool false, .bool false, .bool false, .bool false, .bool false, .bool false, .bool false, .bool false, .bool false, .bool false, .bool false, .bool false, .bool false, .bool false, .bool false, .bool false, .bool false, .bool false, .bool false, .bool false, .bool false, .bool false, .bool false, .bool false, .bool false, .bool false, .bool false, .bool false, .bool false, .bool false, .bool false, .bool false, .bool false, .bool false, .bool false]),
   .n (.store 256 (.t p5) (.t p32)),
   .p p6 (.mv (.t p33))])
   (.seq (.reg [.p p34 (.mv (.t p6))])
   (.cond (.t p34) (.seq (.reg [.p p35 (.mv (.t p0)),
   .p p36 (.call 57 [(.t p35), (.t p5)]),
   .p p37 (.call 43 [(.t p36), (.t p5)]),
   .p p4 (.mv (.t p37))])
   .ret) .skip)))
   (.seq (.reg [.p p38 (.mv (.t p0)),
   .p p39 (.mv (.t p1)),
   .p p40 (.call 58 [(.t p38), (.t p39)]),
   .p p41 (.mv (.t p1)),
   .p p42 (.call 44 [(.t p40), (.t p41)]),
   .p p4 (.mv (.t p42))])
   .ret)))))
   [.t p4]
/- strings.ContainsFunc -/
def a36 : AF :=
  .code [p0, p1] (.seq (.reg [.p p4 (.mv (.c (.bool false)))])
   (.seq (.reg [.p p5 (.mv (.t p0)),
   .p p6 (.mv (.t p1)),
   .p p7 (.call 59 [(.t p5), (.t p6)]),
   .p p8 (.bin .geq (.t p7) (.c (.int .i64 (.ofNat 0)))),
   .p p4 (.mv (.t p8))])
   .ret))
   [.t p4]
/- bastion/glob.Check$1 -/
def a37 : AF :=
  .code [p0] (.seq (.reg [.p p2 (.mv (.c (.bool false)))])
   (.seq (.reg [.p p3 (.mv (.t p0)),
   .p p4 (.bin .lss (.t p3) (.c (.int .i32 (.ofNat 33)))),
   .p p5 (.mv (.t p4)),
   .g p6 (.mv (.t p0)) p5 false,
   .g p7 (.bin .gtr (.t p6) (.c (.int .i32 (.ofNat 126)))) p5 false,
   .p p8 (.pick (.t p5) (.c (.bool true)) (.t p7)),
   .p p2 (.mv (.t p8))])
   .ret))
   [.t p2]
/- strings.explode -/
def a38 : AF :=
  .code [p0, p1] (.seq (.reg [.p p4 (.mv (.c (.nils)))])
   (.seq (.reg [.p p10 (.mv (.t p0)),
   .p p11 (.call 60 [(.t p10)]),
   .p p5 (.mv (.t p11))])
   (.seq (.seq (.reg [.p p12 (.mv (.t p1)),
   .p p13 (.bin .lss (.t p12) (.c (.int .i64 (.ofNat 0)))),
   .p p14 (.mv (.t p13)),
   .g p15 (.mv (.t p1)) p14 false,
   .g p16 (.mv (.t p5)) p14 false,
   .g p17 (.bin .gtr (.t p15) (.t p16)) p14 false,
   .p p18 (.pick (.t p14) (.c (.bool true)) (.t p17))])
   (.cond (.t p18) (.reg [.p p19 (.mv (.t p5)),
   .p p1 (.mv (.t p19))]) .skip))
   (.seq (.reg [.p p20 (.mv (.t p1)),
   .p p21 (.mkslice 9 1 16 [.str 0 0] (.t p20) (.t p20)),
   .p p6 (.mv (.t p21))])
   (.seq (.seq (.reg [.p p7 (.mv (.c (.int .i64 (.ofNat 0))))])
   (.block 0 (.loop (.seq (.seq (.reg [.p p22 (.mv (.t p7)),
   .p p23 (.mv (.t p1)),
   .p p24 (.bin .sub (.t p23) (.c (.int .i64 (.ofNat 1)))),
   .p p25 (.bin .lss (.t p22) (.t p24))])
   (.cond (.t p25) .skip (.exit 0)))
   (.seq (.block 1 (.seq (.reg [.p p29 (.mv (.t p0)),
   .p p30 (.call 61 [(.t p29)]),
   .p p28 (.mv (.t p30)),
   .p p31 (.extract 0 (.t p28)),
   .p p32 (.extract 1 (.t p28)),
   .p p8 (.mv (.t p31)),
   .p p9 (.mv (.t p32))])
   (.seq (.reg [.p p33 (.mv (.t p6)),
   .p p34 (.mv (.t p7)),
   .p p35 (.mv (.t p0)),
   .p p36 (.mv (.t p9)),
   .p p37 (.sliceStr (.t p35) none (some (.t p36))),
   .p p38 (.iaddrS 1 (.t p33) (.t p34)),
   .n (.store 1 (.t p38) (.t p37))])
   (.reg [.p p39 (.mv (.t p0)),
   .p p40 (.mv (.t p9)),
   .p p41 (.sliceStr (.t p39) (some (.t p40)) none),
   .p p0 (.mv (.t p41))]))))
   (.reg [.p p26 (.mv (.t p7)),
   .p p27 (.bin .add (.t p26) (.c (.int .i64 (.ofNat 1)))),
   .p p7 (.mv (.t p27))]))))))
   (.seq (.seq (.reg [.p p42 (.mv (.t p1)),
   .p p43 (.bin .gtr (.t p42) (.c (.int .i64 (.ofNat 0))))])
   (.cond (.t p43) (.reg [.p p44 (.mv (.t p6)),
   .p p45 (.mv (.t p1)),
   .p p46 (.bin .sub (.t p45) (.c (.int .i64 (.ofNat 1)))),
   .p p47 (.mv (.t p0)),
   .p p48 (.iaddrS 1 (.t p44) (.t p46)),
   .n (.store 1 (.t p48) (.t p47))]) .skip))
   (.seq (.reg [.p p49 (.mv (.t p6)),
   .p p4 (.mv (.t p49))])
   .ret)))))))
   [.t p4]
/- strings.Count -/
def a39 : AF :=
  .code [p0, p1] (.seq (.reg [.p p4 (.mv (.c (.int .i64 (.ofNat 0))))])
   (.seq (.seq (.reg [.p p7 (.mv (.t p1)),
   .p p8 (.lenStr (.t p7)),
   .p p9 (.bin .eql (.t p8) (.c (.int .i64 (.ofNat 0))))])
   (.cond (.t p9) (.seq (.reg [.p p10 (.mv (.t p0)),
   .p p11 (.call 60 [(.t p10)]),
   .p p12 (.bin .add (.t p11) (.c (.int .i64 (.ofNat 1)))),
   .p p4 (.mv (.t p12))])
   .ret) .skip))
   (.seq (.seq (.reg [.p p13 (.mv (.t p1)),
   .p p14 (.lenStr (.t p13)),
   .p p15 (.bin .eql (.t p14) (.c (.int .i64 (.ofNat 1))))])
   (.cond (.t p15) (.seq (.reg [.p p16 (.mv (.t p0)),
   .p p17 (.mv (.t p1)),
   .p p18 (.idxStr (.t p17) (.c (.int .i64 (.ofNat 0)))),
   .p p19 (.call 62 [(.t p16), (.t p18)]),
   .p p4 (.mv (.t p19))])
   .ret) .skip))
   (.seq (.reg [.p p5 (.mv (.c (.int .i64 (.ofNat 0))))])
   (.block 0 (.loop (.block 1 (.seq (.reg [.p p20 (.mv (.t p0)),
   .p p21 (.mv (.t p1)),
   .p p22 (.call 40 [(.t p20), (.t p21)]),
   .p p6 (.mv (.t p22))])
   (.seq (.seq (.reg [.p p23 (.mv (.t p6)),
   .p p24 (.bin .eql (.t p23) (.c (.int .i64 (.negSucc 0))))])
   (.cond (.t p24) (.seq (.reg [.p p25 (.mv (.t p5)),
   .p p4 (.mv (.t p25))])
   .ret) .skip))
   (.seq (.reg [.p p26 (.mv (.t p5)),
   .p p27 (.bin .add (.t p26) (.c (.int .i64 (.ofNat 1)))),
   .p p5 (.mv (.t p27))])
   (.reg [.p p28 (.mv (.t p0)),
   .p p29 (.mv (.t p6)),
   .p p30 (.mv (.t p1)),
   .p p31 (.lenStr (.t p30)),
   .p p32 (.bin .add (.t p29) (.t p31)),
   .p p33 (.sliceStr (.t p28) (some (.t p32)) none),
   .p p0 (.mv (.t p33))])))))))))))
   [.t p4]
/- strings.Index -/
def a40 : AF :=
  .code [p0, p1] (.seq (.reg [.p p4 (.mv (.c (.int .i64 (.ofNat 0))))])
   (.seq (.reg [.p p5 (.mv (.t p0)),
   .p p6 (.mv (.t p1)),
   .p p7 (.call 63 [(.t p5), (.t p6)]),
   .p p4 (.mv (.t p7))])
   .ret))
   [.t p4]
/- strings.trimLeftByte -/
def a41 : AF :=
  .code [p0, p1] (.seq (.reg [.p p4 (.mv (.c (.str 0 0)))])
   (.seq (.block 0 (.loop (.seq (.seq (.reg [.p p5 (.mv (.t p0)),
   .p p6 (.lenStr (.t p5)),
   .p p7 (.bin .gtr (.t p6) (.c (.int .i64 (.ofNat 0)))),
   .p p8 (.mv (.t p7)),
   .g p9 (.mv (.t p0)) p8 true,
   .g p10 (.idxStr (.t p9) (.c (.int .i64 (.ofNat 0)))) p8 true,
   .g p11 (.mv (.t p1)) p8 true,
   .g p12 (.bin .eql (.t p10) (.t p11)) p8 true,
   .p p13 (.pick (.t p8) (.t p12) (.c (.bool false)))])
   (.cond (.t p13) .skip (.exit 0)))
   (.block 1 (.reg [.p p14 (.mv (.t p0)),
   .p p15 (.sliceStr (.t p14) (some (.c (.int .i64 (.ofNat 1)))) none),
   .p p0 (.mv (.t p15))])))))
   (.seq (.reg [.p p16 (.mv (.t p0)),
   .p p4 (.mv (.t p16))])
   .ret)))
   [.t p4]
/- strings.makeASCIISet -/
def a42 : AF :=
  .code [p0] (.seq (.reg [.p p2 (.alloc 87 [.bool false, .bool false, .bool false, .bool false, .bool false, .bool false, .bool false, .bool false, .bool false, .bool false, .bool false, .bool false, .bool false, .bool false, .bool false, .bool false, .bool false, .bool false, .bool false, .bool false, .bool false, .bool false, .bool false, .bool false, .bool false, .bool false, .bool false, .bool false, .bool false, .bool false, .bool false, .bool false, .bool false, .bool false, .bool false, .bool false, .bool false, .bool false, .bool false, .bool false, .bool false, .bool false, .bool false, .bool false, .bool false, .bool false, .bool false, .bool false, .bool false, .bool false, .bool false, .bool false, .bool false, .bool false, .bool false, .bool false, .bool false, .bool false, .bool false, .bool false, .bool false, .bool false, .bool false, .bool false, .bool false, .bool false, .bool false, .bool false, .bool false, .bool false, .bool false, .bool false, .bool false, .bool false, .bool false, .bool false, .bool false, .bool false, .bool false, .bool false, .bool false, .bool false, .bool false, .bool false, .bool false, .bool false, .bool false, .bool false, .bool false, .bool false, .bool false, .bool false, .bool false, .bool false, .bool false, .bool false, .bool false, .bool false, .bool false, .bool false, .bool false, .bool false, .bool false, .bool false, .bool false, .bool false, .bool false, .bool false, .bool false, .bool false, .bool false, .bool false, .bool false, .bool false, .bool false, .bool false, .bool false, .bool false, .bool false, .bool false, .bool false, .bool false, .bool false, .bool false, .bool false, .bool false, .bool false, .bool false, .bool false, .bool false, .bool false, .bool false, .bool false, .bool false, .bool false, .bool false, .bool false, .bool false, .bool false, .bool false, .bool false, .bool false, .bool false, .bool false, .bool false, .bool false, .bool false, .bool false, .bool false, .bool false, .bool false, .bool false, .bool false, .bool false, .bool false, .bool false, .bool false, .bool false, .bool false, .bool false, .bool false, .bool false, .bool false, .bool false, .bool false, .bool false, .bool false, .bool false, .bool false, .bool false, .bool false, .bool false, .bool false, .bool false, .bool false, .bool false, .bool false, .bool false, .bool false, .bool false, .bool false, .bool false, .bool false, .bool false, .bool false, .bool false, .bool false, .bool false, .bool false, .bool false, .bool false, .bool false, .bool false, .bool false, .bool false, .bool false, .bool false, .bool false, .bool false, .bool false, .bool false, .bool false, .bool false, .bool false, .bool false, .bool false, .bool false, .bool false, .bool false, .bool false, .bool false, .bool false, .bool false, .bool false, .bool false, .bool false, .bool false, .bool false, .bool false, .bool false, .bool false, .bool false, .bool false, .bool false, .bool false, .bool false, .bool false, .bool false, .bool false, .bool false, .bool false, .bool false, .bool false, .bool false, .bool false, .bool false, .bool false, .bool false, .bool false, .bool false, .bool false, .bool false, .bool false, .bool false, .bool false, .bool false, .bool false, .bool false, .bool false, .bool false, .bool false, .bool false, .bool false, .bool false, .bool false, .bool false]),
   .p p3 (.mv (.c (.bool false)))])
   (.seq (.seq (.reg [.p p4 (.mv (.c (.int .i64 (.ofNat 0))))])
   (.block 0 (.loop (.seq (.seq (.reg [.p p6 (.mv (.t p4)),
   .p p7 (.mv (.t p0)),
   .p p8 (.lenStr (.t p7)),
   .p p9 (.bin .lss (.t p6) (.t p8))])
   (.cond (.t p9) .skip (.exit 0)))
   (.seq (.block 1 (.seq (.reg [.p p12 (.mv (.t p0)),
   .p p13 (.mv (.t p4)),
   .p p14 (.idxStr (.t p12) (.t p13)),
   .p p5 (.mv (.t p14))])
   (.seq (.seq (.reg [.p p15 (.mv (.t p5)),
   .p p16 (.bin .geq (.t p15) (.c (.int .u8 (.ofNat 128))))])
   (.cond (.t p16) (.seq (.reg [.p p17 (.loadn 256 (.t p2)),
   .n (.store 256 (.t p2) (.t p17)),
   .p p3 (.mv (.c (.bool false)))])
   .ret) .skip))
   (.reg [.p p18 (.mv (.t p5)),
   .p p19 (.iaddrA 256 1 (.t p2) (.t p18)),
   .n (.store 1 (.t p19) (.c (.bool true)))]))))
   (.reg [.p p10 (.mv (.t p4)),
   .p p11 (.bin .add (.t p10) (.c (.int .i64 (.ofNat 1)))),
   .p p4 (.mv (.t p11))]))))))
   (.seq (.reg [.p p20 (.loadn 256 (.t p2)),
   .n (.store 256 (.t p2) (.t p20)),
   .p p3 (.mv (.c (.bool true)))])
   .ret)))
   [.cell p2 256, .t p3]
/- strings.trimLeftASCII -/
def a43 : AF :=
  .code [p0, p1] (.seq (.reg [.p p4 (.mv (.c (.str 0 0)))])
   (.seq (.block 0 (.loop (.seq (.seq (.reg [.p p5 (.mv (.t p0)),
   .p p6 (.lenStr (.t p5)),
   .p p7 (.bin .gtr (.t p6) (.c (.int .i64 (.ofNat 0))))])
   (.cond (.t p7) .skip (.exit 0)))
   (.block 1 (.seq (.seq (.reg [.p p8 (.mv (.t p1)),
   .p p9 (.mv (.t p0)),
   .p p10 (.idxStr (.t p9) (.c (.int .i64 (.ofNat 0)))),
   .p p11 (.call 64 [(.t p8), (.t p10)]),
   .p p12 (.not (.t p11))])
   (.cond (.t p12) (.exit 0) .skip))
   (.reg [.p p13 (.mv (.t p0)),
   .p p14 (.sliceStr (.t p13) (some (.c (.int .i64 (.ofNat 1)))) none),
   .p p0 (.mv (.t p14))]))))))
   (.seq (.reg [.p p15 (.mv (.t p0)),
   .p p4 (.mv (.t p15))])
   .ret)))
   [.t p4]
/- strings.trimLeftUnicode -/
def a44 : AF :=
  .code [p0, p1] (.seq (.reg [.p p4 (.mv (.c (.str 0 0)))])
   (.seq (.block 0 (.loop (.seq (.seq (.reg [.p p7 (.mv (.t p0)),
   .p p8 (.lenStr (.t p7)),
   .p p9 (.bin .gtr (.t p8) (.c (.int .i64 (.ofNat 0))))])
   (.cond (.t p9) .skip (.exit 0)))
   (.block 1 (.seq (.reg [.p p11 (.mv (.t p0)),
   .p p12 (.call 61 [(.t p11)]),
   .p p10 (.mv (.t p12)),
   .p p13 (.extract 0 (.t p10)),
   .p p14 (.extract 1 (.t p10)),
   .p p5 (.mv (.t p13)),
   .p p6 (.mv (.t p14))])
   (.seq (.seq (.reg [.p p15 (.mv (.t p1)),
   .p p16 (.mv (.t p5)),
   .p p17 (.call 65 [(.t p15), (.t p16)]),
   .p p18 (.not (.t p17))])
   (.cond (.t p18) (.exit 0) .skip))
   (.reg [.p p19 (.mv (.t p0)),
   .p p20 (.mv (.t p6)),
   .p p21 (.sliceStr (.t p19) (some (.t p20)) none),
   .p p0 (.mv (.t p21))])))))))
   (.seq (.reg [.p p22 (.mv (.t p0)),
   .p p4 (.mv (.t p22))])
   .ret)))
   [.t p4]
/- bastion/words.marks -/
def a45 : AF :=
  .code [] (.seq (.reg [.p p0 (.mv (.c (.nilm)))])
   (.seq (.reg [.p p1 (.mkmap),
   .n (.insert .int (.t p1) (.c (.int .u8 (.ofNat 34))) (.c (.int .u8 (.ofNat 34)))),
   .n (.insert .int (.t p1) (.c (.int .u8 (.ofNat 92))) (.c (.int .u8 (.ofNat 92)))),
   .n (.insert .int (.t p1) (.c (.int .u8 (.ofNat 110))) (.c (.int .u8 (.ofNat 10)))),
   .n (.insert .int (.t p1) (.c (.int .u8 (.ofNat 116))) (.c (.int .u8 (.ofNat 9)))),
   .p p2 (.mv (.t p1)),
   .p p0 (.mv (.t p2))])
   .ret))
   [.t p0]
/- strings.IndexByte -/
def a46 : AF :=
  .code [p0, p1] (.seq (.reg [.p p4 (.mv (.c (.int .i64 (.ofNat 0))))])
   (.seq (.reg [.p p5 (.mv (.t p0)),
   .p p6 (.mv (.t p1)),
   .p p7 (.call 66 [(.t p5), (.t p6)]),
   .p p4 (.mv (.t p7))])
   .ret))
   [.t p4]
/- strconv.Atoi -/
def a47 : AF :=
  .code [p0] (.seq (.reg [.p p2 (.mv (.c (.int .i64 (.ofNat 0)))),
   .p p3 (.mv (.c (.nili)))])
   (.seq (.reg [.p p7 (.mv (.t p0)),
   .p p8 (.call 67 [(.t p7)]),
   .p p6 (.mv (.t p8)),
   .p p9 (.extract 0 (.t p6)),
   .p p10 (.extract 1 (.t p6)),
   .p p4 (.mv (.t p9)),
   .p p5 (.mv (.t p10))])
   (.seq (.seq (.reg [.p p11 (.mv (.t p5)),
   .p p12 (.eq true (.ifc true [22, 139]) (.t p11) (.c (.nili)))])
   (.cond (.t p12) (.seq (.reg [.p p13 (.mv (.t p4)),
   .p p14 (.mv (.t p0)),
   .p p15 (.mv (.t p5)),
   .p p16 (.call 68 [(.c (.str 4 1768911937)), (.t p14), (.c (.int .i64 (.ofNat 0))), (.c (.int .i64 (.ofNat 0))), (.t p15)]),
   .p p2 (.mv (.t p13)),
   .p p3 (.mv (.t p16))])
   .ret) .skip))
   (.seq (.reg [.p p17 (.mv (.t p4)),
   .p p2 (.mv (.t p17)),
   .p p3 (.mv (.c (.nili)))])
   .ret))))
   [.t p2, .t p3]
/- strconv.Itoa -/
def a48 : AF :=
  .code [p0] (.seq (.reg [.p p2 (.mv (.c (.str 0 0)))])
   (.seq (.reg [.p p3 (.mv (.t p0)),
   .p p4 (.call 69 [(.t p3)]),
   .p p2 (.mv (.t p4))])
   .ret))
   [.t p2]
/- bastion/words.own -/
def a53 : AF :=
  .code [p0] (.seq (.reg [.p p1 (.box 9 (.t p0)),
   .p p2 (.mv (.c (.str 0 0)))])
   (.seq (.reg [.p p6 (.load1 (.t p1)),
   .p p7 (.bin .neq (.t p6) (.c (.str 0 0))),
   .p p8 (.mv (.t p7)),
   .g p9 (.load1 (.t p1)) p8 true,
   .g p10 (.idxStr (.t p9) (.c (.int .i64 (.ofNat 0)))) p8 true,
   .g p11 (.bin .neq (.t p10) (.c (.int .u8 (.ofNat 35)))) p8 true,
   .p p12 (.pick (.t p8) (.t p11) (.c (.bool false))),
   .p p3 (.alloc 4 [.bool false]),
   .n (.store 1 (.t p3) (.t p12))])
   (.seq (.reg [.p p13 (.mkfn 73 [] [(.t p1)]),
   .p p4 (.mv (.t p13))])
   (.seq (.reg [.p p14 (.mv (.t p4)),
   .p p15 (.mkfn 74 [] [(.t p3)]),
   .p p16 (.callv (.t p14) [(.t p15)])])
   (.seq (.seq (.reg [.p p17 (.load1 (.t p3))])
   (.cond (.t p17) (.seq (.reg [.p p18 (.load1 (.t p1)),
   .p p2 (.mv (.t p18))])
   .ret) .skip))
   (.seq (.reg [.p p5 (.alloc 52 [.nilp, .nils])])
   (.seq (.reg [.p p19 (.call 34 [(.t p5), (.c (.int .u8 (.ofNat 34)))])])
   (.seq (.reg [.p p20 (.mv (.t p4)),
   .p p21 (.mkfn 75 [] [(.t p5)]),
   .p p22 (.callv (.t p20) [(.t p21)])])
   (.seq (.reg [.p p23 (.call 34 [(.t p5), (.c (.int .u8 (.ofNat 34)))])])
   (.seq (.reg [.p p24 (.call 14 [(.t p5)]),
   .p p2 (.mv (.t p24))])
   .ret))))))))))
   [.t p2]
/- strings.Join -/
def a54 : AF :=
  .code [p0, p1] (.seq (.reg [.p p4 (.mv (.c (.str 0 0)))])
   (.seq (.seq (.reg [.p p11 (.mv (.t p0)),
   .p p12 (.lenSlc (.t p11))])
   (.block 0 (.seq (.reg [.p p14 (.bin .eql (.t p12) (.c (.int .i64 (.ofNat 0)))),
   .p p13 (.mv (.t p14))])
   (.cond (.t p13) (.seq (.reg [.p p4 (.mv (.c (.str 0 0)))])
   .ret) (.seq (.reg [.p p16 (.bin .eql (.t p12) (.c (.int .i64 (.ofNat 1)))),
   .p p15 (.mv (.t p16))])
   (.cond (.t p15) (.seq (.reg [.p p17 (.mv (.t p0)),
   .p p18 (.iaddrS 1 (.t p17) (.c (.int .i64 (.ofNat 0)))),
   .p p19 (.load1 (.t p18)),
   .p p4 (.mv (.t p19))])
   .ret) .skip))))))
   (.seq (.reg [.p p5 (.mv (.c (.int .i64 (.ofNat 0))))])
   (.seq (.seq (.reg [.p p20 (.mv (.t p1)),
   .p p21 (.lenStr (.t p20)),
   .p p22 (.bin .gtr (.t p21) (.c (.int .i64 (.ofNat 0))))])
   (.cond (.t p22) (.seq (.seq (.reg [.p p23 (.mv (.t p1)),
   .p p24 (.lenStr (.t p23)),
   .p p25 (.mv (.t p0)),
   .p p26 (.lenSlc (.t p25)),
   .p p27 (.bin .sub (.t p26) (.c (.int .i64 (.ofNat 1)))),
   .p p28 (.bin .quo (.c (.int .i64 (.ofNat 9223372036854775807))) (.t p27)),
   .p p29 (.bin .geq (.t p24) (.t p28))])
   (.cond (.t p29) (.reg [.p p30 (.mkif 9 (.c (.str 36 232023140547069528372253906381035003553488466437483087989658184371904395368843875349619))),
   .n (.stop)]) .skip))
   (.reg [.p p31 (.mv (.t p5)),
   .p p32 (.mv (.t p1)),
   .p p33 (.lenStr (.t p32)),
   .p p34 (.mv (.t p0)),
   .p p35 (.lenSlc (.t p34)),
   .p p36 (.bin .sub (.t p35) (.c (.int .i64 (.ofNat 1)))),
   .p p37 (.bin .mul (.t p33) (.t p36)),
   .p p38 (.bin .add (.t p31) (.t p37)),
   .p p5 (.mv (.t p38))])) .skip))
   (.seq (.seq (.reg [.p p39 (.mv (.t p0)),
   .p p40 (.lenSlc (.t p39)),
   .p p41 (.mv (.c (.int .i64 (.ofNat 0))))])
   (.block 1 (.loop (.seq (.reg [.p p42 (.bin .lss (.t p41) (.t p40))])
   (.seq (.cond (.t p42) .skip (.exit 1))
   (.seq (.block 2 (.seq (.reg [.p p43 (.iaddrS 1 (.t p39) (.t p41)),
   .p p44 (.load1 (.t p43)),
   .p p7 (.mv (.t p44))])
   (.seq (.seq (.reg [.p p45 (.mv (.t p7)),
   .p p46 (.lenStr (.t p45)),
   .p p47 (.mv (.t p5)),
   .p p48 (.bin .sub (.c (.int .i64 (.ofNat 9223372036854775807))) (.t p47)),
   .p p49 (.bin .gtr (.t p46) (.t p48))])
   (.cond (.t p49) (.reg [.p p50 (.mkif 9 (.c (.str 36 232023140547069528372253906381035003553488466437483087989658184371904395368843875349619))),
   .n (.stop)]) .skip))
   (.reg [.p p51 (.mv (.t p5)),
   .p p52 (.mv (.t p7)),
   .p p53 (.lenStr (.t p52)),
   .p p54 (.bin .add (.t p51) (.t p53)),
   .p p5 (.mv (.t p54))]))))
   (.reg [.p p55 (.bin .add (.t p41) (.c (.int .i64 (.ofNat 1)))),
   .p p41 (.mv (.t p55))])))))))
   (.seq (.reg [.p p8 (.alloc 52 [.nilp, .nils])])
   (.seq (.reg [.p p56 (.mv (.t p5)),
   .p p57 (.call 76 [(.t p8), (.t p56)])])
   (.seq (.reg [.p p58 (.mv (.t p0)),
   .p p59 (.iaddrS 1 (.t p58) (.c (.int .i64 (.ofNat 0)))),
   .p p60 (.load1 (.t p59)),
   .p p61 (.call 33 [(.t p8), (.t p60)])])
   (.seq (.seq (.reg [.p p62 (.mv (.t p0)),
   .p p63 (.sliceS 1 (.t p62) (some (.c (.int .i64 (.ofNat 1)))) none none),
   .p p64 (.lenSlc (.t p63)),
   .p p65 (.mv (.c (.int .i64 (.ofNat 0))))])
   (.block 3 (.loop (.seq (.reg [.p p66 (.bin .lss (.t p65) (.t p64))])
   (.seq (.cond (.t p66) .skip (.exit 3))
   (.seq (.block 4 (.seq (.reg [.p p67 (.iaddrS 1 (.t p63) (.t p65)),
   .p p68 (.load1 (.t p67)),
   .p p10 (.mv (.t p68))])
   (.seq (.reg [.p p69 (.mv (.t p1)),
   .p p70 (.call 33 [(.t p8), (.t p69)])])
   (.reg [.p p71 (.mv (.t p10)),
   .p p72 (.call 33 [(.t p8), (.t p71)])]))))
   (.reg [.p p73 (.bin .add (.t p65) (.c (.int .i64 (.ofNat 1)))),
   .p p65 (.mv (.t p73))])))))))
   (.seq (.reg [.p p74 (.call 14 [(.t p8)]),
   .p p4 (.mv (.t p74))])
   .ret))))))))))
   [.t p4]
/- (*strings.Builder).copyCheck -/
def a55 : AF :=
  .code [p0] (.seq (.reg [.p p2 (.mv (.t p0)),
   .p p3 (.nilck (.t p2)),
   .p p4 (.faddr 0 (.t p3)),
   .p p5 (.load1 (.t p4)),
   .p p6 (.eq false .ptr (.t p5) (.c (.nilp)))])
   (.cond (.t p6) (.reg [.p p7 (.mv (.t p0)),
   .p p8 (.mv (.t p0)),
   .p p9 (.convU (.t p8)),
   .p p10 (.call 77 [(.t p9)]),
   .p p11 (.convP [(52, 0, 2), (53, 3, 6), (54, 3, 6)] (.t p10)),
   .p p12 (.nilck (.t p7)),
   .p p13 (.faddr 0 (.t p12)),
   .n (.store 1 (.t p13) (.t p11))]) (.seq (.reg [.p p14 (.mv (.t p0)),
   .p p15 (.nilck (.t p14)),
   .p p16 (.faddr 0 (.t p15)),
   .p p17 (.load1 (.t p16)),
   .p p18 (.mv (.t p0)),
   .p p19 (.eq true .ptr (.t p17) (.t p18))])
   (.cond (.t p19) .stop .skip))))
   []
/- strings.trimRightByte -/
def a56 : AF :=
  .code [p0, p1] (.seq (.reg [.p p4 (.mv (.c (.str 0 0)))])
   (.seq (.block 0 (.loop (.seq (.seq (.reg [.p p5 (.mv (.t p0)),
   .p p6 (.lenStr (.t p5)),
   .p p7 (.bin .gtr (.t p6) (.c (.int .i64 (.ofNat 0)))),
   .p p8 (.mv (.t p7)),
   .g p9 (.mv (.t p0)) p8 true,
   .g p10 (.mv (.t p0)) p8 true,
   .g p11 (.lenStr (.t p10)) p8 true,
   .g p12 (.bin .sub (.t p11) (.c (.int .i64 (.ofNat 1)))) p8 true,
   .g p13 (.idxStr (.t p9) (.t p12)) p8 true,
   .g p14 (.mv (.t p1)) p8 true,
   .g p15 (.bin .eql (.t p13) (.t p14)) p8 true,
   .p p16 (.pick (.t p8) (.t p15) (.c (.bool false)))])
   (.cond (.t p16) .skip (.exit 0)))
   (.block 1 (.reg [.p p17 (.mv (.t p0)),
   .p p18 (.mv (.t p0)),
   .p p19 (.lenStr (.t p18)),
   .p p20 (.bin .sub (.t p19) (.c (.int .i64 (.ofNat 1)))),
   .p p21 (.sliceStr (.t p17) none (some (.t p20))),
   .p p0 (.mv (.t p21))])))))
   (.seq (.reg [.p p22 (.mv (.t p0)),
   .p p4 (.mv (.t p22))])
   .ret)))
   [.t p4]
/- strings.trimRightASCII -/
def a57 : AF :=
  .code [p0, p1] (.seq (.reg [.p p4 (.mv (.c (.str 0 0)))])
   (.seq (.block 0 (.loop (.seq (.seq (.reg [.p p5 (.mv (.t p0)),
   .p p6 (.lenStr (.t p5)),
   .p p7 (.bin .gtr (.t p6) (.c (.int .i64 (.ofNat 0))))])
   (.cond (.t p7) .skip (.exit 0)))
   (.block 1 (.seq (.seq (.reg [.p p8 (.mv (.t p1)),
   .p p9 (.mv (.t p0)),
   .p p10 (.mv (.t p0)),
   .p p11 (.lenStr (.t p10)),
   .p p12 (.bin .sub (.t p11) (.c (.int .i64 (.ofNat 1)))),
   .p p13 (.idxStr (.t p9) (.t p12)),
   .p p14 (.call 64 [(.t p8), (.t p13)]),
   .p p15 (.not (.t p14))])
   (.cond (.t p15) (.exit 0) .skip))
   (.reg [.p p16 (.mv (.t p0)),
   .p p17 (.mv (.t p0)),
   .p p18 (.lenStr (.t p17)),
   .p p19 (.bin .sub (.t p18) (.c (.int .i64 (.ofNat 1)))),
   .p p20 (.sliceStr (.t p16) none (some (.t p19))),
   .p p0 (.mv (.t p20))]))))))
   (.seq (.reg [.p p21 (.mv (.t p0)),
   .p p4 (.mv (.t p21))])
   .ret)))
   [.t p4]
/- strings.trimRightUnicode -/
def a58 : AF :=
  .code [p0, p1] (.seq (.reg [.p p4 (.mv (.c (.str 0 0)))])
   (.seq (.block 0 (.loop (.seq (.seq (.reg [.p p7 (.mv (.t p0)),
   .p p8 (.lenStr (.t p7)),
   .p p9 (.bin .gtr (.t p8) (.c (.int .i64 (.ofNat 0))))])
   (.cond (.t p9) .skip (.exit 0)))
   (.block 1 (.seq (.reg [.p p10 (.mv (.t p0)),
   .p p11 (.mv (.t p0)),
   .p p12 (.lenStr (.t p11)),
   .p p13 (.bin .sub (.t p12) (.c (.int .i64 (.ofNat 1)))),
   .p p14 (.idxStr (.t p10) (.t p13)),
   .p p15 (.convI .i32 (.t p14)),
   .p p5 (.mv (.t p15)),
   .p p6 (.mv (.c (.int .i64 (.ofNat 1))))])
   (.seq (.seq (.reg [.p p16 (.mv (.t p5)),
   .p p17 (.bin .geq (.t p16) (.c (.int .i32 (.ofNat 128))))])
   (.cond (.t p17) (.reg [.p p19 (.mv (.t p0)),
   .p p20 (.call 78 [(.t p19)]),
   .p p18 (.mv (.t p20)),
   .p p21 (.extract 0 (.t p18)),
   .p p22 (.extract 1 (.t p18)),
   .p p5 (.mv (.t p21)),
   .p p6 (.mv (.t p22))]) .skip))
   (.seq (.seq (.reg [.p p23 (.mv (.t p1)),
   .p p24 (.mv (.t p5)),
   .p p25 (.call 65 [(.t p23), (.t p24)]),
   .p p26 (.not (.t p25))])
   (.cond (.t p26) (.exit 0) .skip))
   (.reg [.p p27 (.mv (.t p0)),
   .p p28 (.mv (.t p0)),
   .p p29 (.lenStr (.t p28)),
   .p p30 (.mv (.t p6)),
   .p p31 (.bin .sub (.t p29) (.t p30)),
   .p p32 (.sliceStr (.t p27) none (some (.t p31))),
   .p p0 (.mv (.t p32))]))))))))
   (.seq (.reg [.p p33 (.mv (.t p0)),
   .p p4 (.mv (.t p33))])
   .ret)))
   [.t p4]
/- strings.IndexFunc -/
def a59 : AF :=
  .code [p0, p1] (.seq (.reg [.p p4 (.mv (.c (.int .i64 (.ofNat 0))))])
   (.seq (.reg [.p p5 (.mv (.t p0)),
   .p p6 (.mv (.t p1)),
   .p p7 (.call 79 [(.t p5), (.t p6), (.c (.bool true))]),
   .p p4 (.mv (.t p7))])
   .ret))
   [.t p4]
/- unicode/utf8.RuneCountInString -/
def a60 : AF :=
  .code [p0] (.seq (.reg [.p p2 (.mv (.c (.int .i64 (.ofNat 0))))])
   (.seq (.seq (.reg [.p p3 (.mv (.t p0)),
   .p p4 (.range (.t p3))])
   (.block 0 (.loop (.seq (.reg [.p p5 (.next (.t p4)),
   .p p6 (.extract 0 (.t p5))])
   (.seq (.cond (.t p6) .skip (.exit 0))
   (.block 1 (.reg [.p p7 (.mv (.t p2)),
   .p p8 (.bin .add (.t p7) (.c (.int .i64 (.ofNat 1)))),
   .p p2 (.mv (.t p8))])))))))
   (.seq (.reg [.p p9 (.mv (.t p2)),
   .p p2 (.mv (.t p9))])
   .ret)))
   [.t p2]
/- unicode/utf8.DecodeRuneInString -/
def a61 : AF :=
  .code [p0] (.seq (.reg [.p p2 (.mv (.c (.int .i32 (.ofNat 0)))),
   .p p3 (.mv (.c (.int .i64 (.ofNat 0))))])
   (.seq (.seq (.reg [.p p4 (.mv (.t p0)),
   .p p5 (.bin .neq (.t p4) (.c (.str 0 0))),
   .p p6 (.mv (.t p5)),
   .g p7 (.mv (.t p0)) p6 true,
   .g p8 (.idxStr (.t p7) (.c (.int .i64 (.ofNat 0)))) p6 true,
   .g p9 (.bin .lss (.t p8) (.c (.int .u8 (.ofNat 128)))) p6 true,
   .p p10 (.pick (.t p6) (.t p9) (.c (.bool false)))])
   (.cond (.t p10) (.seq (.reg [.p p11 (.mv (.t p0)),
   .p p12 (.idxStr (.t p11) (.c (.int .i64 (.ofNat 0)))),
   .p p13 (.convI .i32 (.t p12)),
   .p p2 (.mv (.t p13)),
   .p p3 (.mv (.c (.int .i64 (.ofNat 1))))])
   .ret) (.reg [.p p15 (.mv (.t p0)),
   .p p16 (.call 80 [(.t p15)]),
   .p p14 (.mv (.t p16)),
   .p p17 (.extract 0 (.t p14)),
   .p p18 (.extract 1 (.t p14)),
   .p p2 (.mv (.t p17)),
   .p p3 (.mv (.t p18))])))
   .ret))
   [.t p2, .t p3]
/- internal/bytealg.CountString -/ def a62 : AF := .countStr
/- internal/stringslite.Index -/
def a63 : AF :=
  .code [p0, p1] (.seq (.reg [.p p4 (.mv (.c (.int .i64 (.ofNat 0))))])
   (.seq (.reg [.p p14 (.mv (.t p1)),
   .p p15 (.lenStr (.t p14)),
   .p p5 (.mv (.t p15))])
   (.seq (.block 0 (.seq (.reg [.p p17 (.mv (.t p5)),
   .p p18 (.bin .eql (.t p17) (.c (.int .i64 (.ofNat 0)))),
   .p p19 (.mv (.t p18)),
   .g p20 (.mv (.t p1)) p19 false,
   .g p21 (.mv (.t p0)) p19 false,
   .g p22 (.bin .eql (.t p20) (.t p21)) p19 false,
   .p p23 (.pick (.t p19) (.c (.bool true)) (.t p22)),
   .p p16 (.mv (.t p23))])
   (.cond (.t p16) (.seq (.reg [.p p4 (.mv (.c (.int .i64 (.ofNat 0))))])
   .ret) (.seq (.reg [.p p25 (.mv (.t p5)),
   .p p26 (.bin .eql (.t p25) (.c (.int .i64 (.ofNat 1)))),
   .p p24 (.mv (.t p26))])
   (.cond (.t p24) (.seq (.reg [.p p27 (.mv (.t p0)),
   .p p28 (.mv (.t p1)),
   .p p29 (.idxStr (.t p28) (.c (.int .i64 (.ofNat 0)))),
   .p p30 (.call 66 [(.t p27), (.t p29)]),
   .p p4 (.mv (.t p30))])
   .ret) (.seq (.reg [.p p32 (.mv (.t p5)),
   .p p33 (.mv (.t p0)),
   .p p34 (.lenStr (.t p33)),
   .p p35 (.bin .geq (.t p32) (.t p34)),
   .p p31 (.mv (.t p35))])
   (.cond (.t p31) (.seq (.reg [.p p4 (.mv (.c (.int .i64 (.negSucc 0))))])
   .ret) (.seq (.reg [.p p37 (.mv (.t p5)),
   .p p38 (.load1 (.c (.ptr 1 0))),
   .p p39 (.bin .leq (.t p37) (.t p38)),
   .p p40 (.mv (.t p39)),
   .g p41 (.mv (.t p0)) p40 true,
   .g p42 (.lenStr (.t p41)) p40 true,
   .g p43 (.bin .leq (.t p42) (.c (.int .i64 (.ofNat 64)))) p40 true,
   .p p44 (.pick (.t p40) (.t p43) (.c (.bool false))),
   .p p36 (.mv (.t p44))])
   (.cond (.t p36) (.seq (.reg [.p p45 (.mv (.t p0)),
   .p p46 (.mv (.t p1)),
   .p p47 (.call 81 [(.t p45), (.t p46)]),
   .p p4 (.mv (.t p47))])
   .ret) .skip)))))))))
   (.seq (.reg [.p p48 (.mv (.t p1)),
   .p p49 (.idxStr (.t p48) (.c (.int .i64 (.ofNat 0)))),
   .p p6 (.mv (.t p49))])
   (.seq (.reg [.p p50 (.mv (.t p1)),
   .p p51 (.idxStr (.t p50) (.c (.int .i64 (.ofNat 1)))),
   .p p7 (.mv (.t p51))])
   (.seq (.reg [.p p8 (.mv (.c (.int .i64 (.ofNat 0))))])
   (.seq (.reg [.p p52 (.mv (.t p0)),
   .p p53 (.lenStr (.t p52)),
   .p p54 (.mv (.t p5)),
   .p p55 (.bin .sub (.t p53) (.t p54)),
   .p p56 (.bin .add (.t p55) (.c (.int .i64 (.ofNat 1)))),
   .p p9 (.mv (.t p56))])
   (.seq (.reg [.p p10 (.mv (.c (.int .i64 (.ofNat 0))))])
   (.seq (.block 1 (.loop (.seq (.seq (.reg [.p p57 (.mv (.t p8)),
   .p p58 (.mv (.t p9)),
   .p p59 (.bin .lss (.t p57) (.t p58))])
   (.cond (.t p59) .skip (.exit 1)))
   (.block 2 (.seq (.seq (.reg [.p p60 (.mv (.t p0)),
   .p p61 (.mv (.t p8)),
   .p p62 (.idxStr (.t p60) (.t p61)),
   .p p63 (.mv (.t p6)),
   .p p64 (.bin .neq (.t p62) (.t p63))])
   (.cond (.t p64) (.seq (.reg [.p p65 (.mv (.t p0)),
   .p p66 (.mv (.t p8)),
   .p p67 (.bin .add (.t p66) (.c (.int .i64 (.ofNat 1)))),
   .p p68 (.mv (.t p9)),
   .p p69 (.sliceStr (.t p65) (some (.t p67)) (some (.t p68))),
   .p p70 (.mv (.t p6)),
   .p p71 (.call 66 [(.t p69), (.t p70)]),
   .p p11 (.mv (.t p71))])
   (.seq (.seq (.reg [.p p72 (.mv (.t p11)),
   .p p73 (.bin .lss (.t p72) (.c (.int .i64 (.ofNat 0))))])
   (.cond (.t p73) (.seq (.reg [.p p4 (.mv (.c (.int .i64 (.negSucc 0))))])
   .ret) .skip))
   (.reg [.p p74 (.mv (.t p8)),
   .p p75 (.mv (.t p11)),
   .p p76 (.bin .add (.t p75) (.c (.int .i64 (.ofNat 1)))),
   .p p77 (.bin .add (.t p74) (.t p76)),
   .p p8 (.mv (.t p77))]))) .skip))
   (.seq (.seq (.reg [.p p78 (.mv (.t p0)),
   .p p79 (.mv (.t p8)),
   .p p80 (.bin .add (.t p79) (.c (.int .i64 (.ofNat 1)))),
   .p p81 (.idxStr (.t p78) (.t p80)),
   .p p82 (.mv (.t p7)),
   .p p83 (.bin .eql (.t p81) (.t p82)),
   .p p84 (.mv (.t p83)),
   .g p85 (.mv (.t p0)) p84 true,
   .g p86 (.mv (.t p8)) p84 true,
   .g p87 (.mv (.t p8)) p84 true,
   .g p88 (.mv (.t p5)) p84 true,
   .g p89 (.bin .add (.t p87) (.t p88)) p84 true,
   .g p90 (.sliceStr (.t p85) (some (.t p86)) (some (.t p89))) p84 true,
   .g p91 (.mv (.t p1)) p84 true,
   .g p92 (.bin .eql (.t p90) (.t p91)) p84 true,
   .p p93 (.pick (.t p84) (.t p92) (.c (.bool false)))])
   (.cond (.t p93) (.seq (.reg [.p p94 (.mv (.t p8)),
   .p p4 (.mv (.t p94))])
   .ret) .skip))
   (.seq (.reg [.p p95 (.mv (.t p8)),
   .p p96 (.bin .add (.t p95) (.c (.int .i64 (.ofNat 1)))),
   .p p8 (.mv (.t p96))])
   (.seq (.reg [.p p97 (.mv (.t p10)),
   .p p98 (.bin .add (.t p97) (.c (.int .i64 (.ofNat 1)))),
   .p p10 (.mv (.t p98))])
   (.seq (.reg [.p p99 (.mv (.t p5)),
   .p p100 (.load1 (.c (.ptr 1 0))),
   .p p101 (.bin .leq (.t p99) (.t p100)),
   .p p102 (.mv (.t p101)),
   .g p103 (.mv (.t p10)) p102 true,
   .g p104 (.mv (.t p8)) p102 true,
   .g p105 (.call 82 [(.t p104)]) p102 true,
   .g p106 (.bin .gtr (.t p103) (.t p105)) p102 true,
   .p p107 (.pick (.t p102) (.t p106) (.c (.bool false)))])
   (.cond (.t p107) (.seq (.reg [.p p108 (.mv (.t p0)),
   .p p109 (.mv (.t p8)),
   .p p110 (.sliceStr (.t p108) (some (.t p109)) none),
   .p p111 (.mv (.t p1)),
   .p p112 (.call 81 [(.t p110), (.t p111)]),
   .p p12 (.mv (.t p112))])
   (.seq (.seq (.reg [.p p113 (.mv (.t p12)),
   .p p114 (.bin .geq (.t p113) (.c (.int .i64 (.ofNat 0))))])
   (.cond (.t p114) (.seq (.reg [.p p115 (.mv (.t p12)),
   .p p116 (.mv (.t p8)),
   .p p117 (.bin .add (.t p115) (.t p116)),
   .p p4 (.mv (.t p117))])
   .ret) .skip))
   (.seq (.reg [.p p4 (.mv (.c (.int .i64 (.negSucc 0))))])
   .ret))) (.seq (.reg [.p p118 (.mv (.t p5)),
   .p p119 (.load1 (.c (.ptr 1 0))),
   .p p120 (.bin .gtr (.t p118) (.t p119)),
   .p p121 (.mv (.t p120)),
   .g p122 (.mv (.t p10)) p121 true,
   .g p123 (.mv (.t p8)) p121 true,
   .g p124 (.shf false (.t p123) (.c (.int .u64 (.ofNat 4)))) p121 true,
   .g p125 (.bin .add (.c (.int .i64 (.ofNat 4))) (.t p124)) p121 true,
   .g p126 (.bin .geq (.t p122) (.t p125)) p121 true,
   .p p127 (.pick (.t p121) (.t p126) (.c (.bool false))),
   .p p128 (.mv (.t p127)),
   .g p129 (.mv (.t p8)) p128 true,
   .g p130 (.mv (.t p9)) p128 true,
   .g p131 (.bin .lss (.t p129) (.t p130)) p128 true,
   .p p132 (.pick (.t p128) (.t p131) (.c (.bool false)))])
   (.cond (.t p132) (.seq (.reg [.p p133 (.mv (.t p0)),
   .p p134 (.mv (.t p8)),
   .p p135 (.sliceStr (.t p133) (some (.t p134)) none),
   .p p136 (.mv (.t p1)),
   .p p137 (.call 83 [(.t p135), (.t p136)]),
   .p p13 (.mv (.t p137))])
   (.seq (.seq (.reg [.p p138 (.mv (.t p13)),
   .p p139 (.bin .lss (.t p138) (.c (.int .i64 (.ofNat 0))))])
   (.cond (.t p139) (.seq (.reg [.p p4 (.mv (.c (.int .i64 (.negSucc 0))))])
   .ret) .skip))
   (.seq (.reg [.p p140 (.mv (.t p8)),
   .p p141 (.mv (.t p13)),
   .p p142 (.bin .add (.t p140) (.t p141)),
   .p p4 (.mv (.t p142))])
   .ret))) .skip))))))))))))
   (.seq (.reg [.p p4 (.mv (.c (.int .i64 (.negSucc 0))))])
   .ret))))))))))
   [.t p4]
/- (*strings.asciiSet).contains -/
def a64 : AF :=
  .code [p0, p1] (.seq (.reg [.p p4 (.mv (.c (.bool false)))])
   (.seq (.reg [.p p5 (.mv (.t p0)),
   .p p6 (.mv (.t p1)),
   .p p7 (.nilck (.t p5)),
   .p p8 (.iaddrA 256 1 (.t p7) (.t p6)),
   .p p9 (.load1 (.t p8)),
   .p p4 (.mv (.t p9))])
   .ret))
   [.t p4]
/- strings.ContainsRune -/
def a65 : AF :=
  .code [p0, p1] (.seq (.reg [.p p4 (.mv (.c (.bool false)))])
   (.seq (.reg [.p p5 (.mv (.t p0)),
   .p p6 (.mv (.t p1)),
   .p p7 (.call 84 [(.t p5), (.t p6)]),
   .p p8 (.bin .geq (.t p7) (.c (.int .i64 (.ofNat 0)))),
   .p p4 (.mv (.t p8))])
   .ret))
   [.t p4]
/- internal/stringslite.IndexByte -/
def a66 : AF :=
  .code [p0, p1] (.seq (.reg [.p p4 (.mv (.c (.int .i64 (.ofNat 0))))])
   (.seq (.reg [.p p5 (.mv (.t p0)),
   .p p6 (.mv (.t p1)),
   .p p7 (.call 85 [(.t p5), (.t p6)]),
   .p p4 (.mv (.t p7))])
   .ret))
   [.t p4]
/- internal/strconv.Atoi -/
def a67 : AF :=
  .code [p0] (.seq (.reg [.p p2 (.mv (.c (.int .i64 (.ofNat 0)))),
   .p p3 (.mv (.c (.nili)))])
   (.seq (.reg [.p p11 (.mv (.t p0)),
   .p p12 (.lenStr (.t p11)),
   .p p4 (.mv (.t p12))])
   (.seq (.seq (.reg [.p p13 (.mv (.c (.bool false))),
   .g p14 (.mv (.t p4)) p13 true,
   .g p15 (.bin .lss (.c (.int .i64 (.ofNat 0))) (.t p14)) p13 true,
   .g p16 (.mv (.t p15)) p13 true,
   .g p17 (.mv (.t p4)) p16 true,
   .g p18 (.bin .lss (.t p17) (.c (.int .i64 (.ofNat 10)))) p16 true,
   .g p19 (.pick (.t p16) (.t p18) (.c (.bool false))) p13 true,
   .p p20 (.pick (.t p13) (.t p19) (.c (.bool false))),
   .p p21 (.mv (.t p20)),
   .g p22 (.mv (.c (.bool true))) p21 false,
   .g p23 (.mv (.t p4)) p22 true,
   .g p24 (.bin .lss (.c (.int .i64 (.ofNat 0))) (.t p23)) p22 true,
   .g p25 (.mv (.t p24)) p22 true,
   .g p26 (.mv (.t p4)) p25 true,
   .g p27 (.bin .lss (.t p26) (.c (.int .i64 (.ofNat 19)))) p25 true,
   .g p28 (.pick (.t p25) (.t p27) (.c (.bool false))) p22 true,
   .g p29 (.pick (.t p22) (.t p28) (.c (.bool false))) p21 false,
   .p p30 (.pick (.t p21) (.c (.bool true)) (.t p29))])
   (.cond (.t p30) (.seq (.reg [.p p31 (.mv (.t p0)),
   .p p5 (.mv (.t p31))])
   (.seq (.seq (.reg [.p p32 (.mv (.t p0)),
   .p p33 (.idxStr (.t p32) (.c (.int .i64 (.ofNat 0)))),
   .p p34 (.bin .eql (.t p33) (.c (.int .u8 (.ofNat 45)))),
   .p p35 (.mv (.t p34)),
   .g p36 (.mv (.t p0)) p35 false,
   .g p37 (.idxStr (.t p36) (.c (.int .i64 (.ofNat 0)))) p35 false,
   .g p38 (.bin .eql (.t p37) (.c (.int .u8 (.ofNat 43)))) p35 false,
   .p p39 (.pick (.t p35) (.c (.bool true)) (.t p38))])
   (.cond (.t p39) (.seq (.reg [.p p40 (.mv (.t p0)),
   .p p41 (.sliceStr (.t p40) (some (.c (.int .i64 (.ofNat 1)))) none),
   .p p0 (.mv (.t p41))])
   (.seq (.reg [.p p42 (.mv (.t p0)),
   .p p43 (.lenStr (.t p42)),
   .p p44 (.bin .lss (.t p43) (.c (.int .i64 (.ofNat 1))))])
   (.cond (.t p44) (.seq (.reg [.p p45 (.mkif 139 (.c (.int .i64 (.ofNat 2)))),
   .p p2 (.mv (.c (.int .i64 (.ofNat 0)))),
   .p p3 (.mv (.t p45))])
   .ret) .skip))) .skip))
   (.seq (.reg [.p p6 (.mv (.c (.int .i64 (.ofNat 0))))])
   (.seq (.seq (.reg [.p p46 (.mv (.t p0)),
   .p p47 (.convSB 5 (.t p46)),
   .p p48 (.lenSlc (.t p47)),
   .p p49 (.mv (.c (.int .i64 (.ofNat 0))))])
   (.block 0 (.loop (.seq (.reg [.p p50 (.bin .lss (.t p49) (.t p48))])
   (.seq (.cond (.t p50) .skip (.exit 0))
   (.seq (.block 1 (.seq (.reg [.p p51 (.iaddrS 1 (.t p47) (.t p49)),
   .p p52 (.load1 (.t p51)),
   .p p8 (.mv (.t p52))])
   (.seq (.reg [.p p53 (.mv (.t p8)),
   .p p54 (.bin .sub (.t p53) (.c (.int .u8 (.ofNat 48)))),
   .p p8 (.mv (.t p54))])
   (.seq (.seq (.reg [.p p55 (.mv (.t p8)),
   .p p56 (.bin .gtr (.t p55) (.c (.int .u8 (.ofNat 9))))])
   (.cond (.t p56) (.seq (.reg [.p p57 (.mkif 139 (.c (.int .i64 (.ofNat 2)))),
   .p p2 (.mv (.c (.int .i64 (.ofNat 0)))),
   .p p3 (.mv (.t p57))])
   .ret) .skip))
   (.reg [.p p58 (.mv (.t p6)),
   .p p59 (.bin .mul (.t p58) (.c (.int .i64 (.ofNat 10)))),
   .p p60 (.mv (.t p8)),
   .p p61 (.convI .i64 (.t p60)),
   .p p62 (.bin .add (.t p59) (.t p61)),
   .p p6 (.mv (.t p62))])))))
   (.reg [.p p63 (.bin .add (.t p49) (.c (.int .i64 (.ofNat 1)))),
   .p p49 (.mv (.t p63))])))))))
   (.seq (.seq (.reg [.p p64 (.mv (.t p5)),
   .p p65 (.idxStr (.t p64) (.c (.int .i64 (.ofNat 0)))),
   .p p66 (.bin .eql (.t p65) (.c (.int .u8 (.ofNat 45))))])
   (.cond (.t p66) (.reg [.p p67 (.mv (.t p6)),
   .p p68 (.neg (.t p67)),
   .p p6 (.mv (.t p68))]) .skip))
   (.seq (.reg [.p p69 (.mv (.t p6)),
   .p p2 (.mv (.t p69)),
   .p p3 (.mv (.c (.nili)))])
   .ret)))))) .skip))
   (.seq (.reg [.p p71 (.mv (.t p0)),
   .p p72 (.call 86 [(.t p71), (.c (.int .i64 (.ofNat 10))), (.c (.int .i64 (.ofNat 0)))]),
   .p p70 (.mv (.t p72)),
   .p p73 (.extract 0 (.t p70)),
   .p p74 (.extract 1 (.t p70)),
   .p p9 (.mv (.t p73)),
   .p p10 (.mv (.t p74))])
   (.seq (.reg [.p p75 (.mv (.t p9)),
   .p p76 (.mv (.t p10)),
   .p p2 (.mv (.t p75)),
   .p p3 (.mv (.t p76))])
   .ret)))))
   [.t p2, .t p3]
/- strconv.toError -/
def a68 : AF :=
  .code [p0, p1, p2, p3, p4] (.seq (.reg [.p p10 (.mv (.c (.nili)))])
   (.seq (.seq (.reg [.p p11 (.mv (.t p4))])
   (.block 0 (.seq (.reg [.p p13 (.mkif 139 (.c (.int .i64 (.ofNat 2)))),
   .p p14 (.eq false (.ifc false [22, 139]) (.t p11) (.t p13)),
   .p p12 (.mv (.t p14))])
   (.cond (.t p12) (.seq (.reg [.p p15 (.mv (.t p0)),
   .p p16 (.mv (.t p1)),
   .p p17 (.call 87 [(.t p15), (.t p16)]),
   .p p18 (.mkif 142 (.t p17)),
   .p p10 (.mv (.t p18))])
   .ret) (.seq (.reg [.p p20 (.mkif 139 (.c (.int .i64 (.ofNat 1)))),
   .p p21 (.eq false (.ifc false [22, 139]) (.t p11) (.t p20)),
   .p p19 (.mv (.t p21))])
   (.cond (.t p19) (.seq (.reg [.p p22 (.mv (.t p0)),
   .p p23 (.mv (.t p1)),
   .p p24 (.call 88 [(.t p22), (.t p23)]),
   .p p25 (.mkif 142 (.t p24)),
   .p p10 (.mv (.t p25))])
   .ret) (.seq (.reg [.p p27 (.mkif 139 (.c (.int .i64 (.ofNat 3)))),
   .p p28 (.eq false (.ifc false [22, 139]) (.t p11) (.t p27)),
   .p p26 (.mv (.t p28))])
   (.cond (.t p26) (.seq (.reg [.p p29 (.mv (.t p0)),
   .p p30 (.mv (.t p1)),
   .p p31 (.mv (.t p2)),
   .p p32 (.call 89 [(.t p29), (.t p30), (.t p31)]),
   .p p33 (.mkif 142 (.t p32)),
   .p p10 (.mv (.t p33))])
   .ret) (.seq (.reg [.p p35 (.mkif 139 (.c (.int .i64 (.ofNat 4)))),
   .p p36 (.eq false (.ifc false [22, 139]) (.t p11) (.t p35)),
   .p p34 (.mv (.t p36))])
   (.cond (.t p34) (.seq (.reg [.p p37 (.mv (.t p0)),
   .p p38 (.mv (.t p1)),
   .p p39 (.mv (.t p3)),
   .p p40 (.call 90 [(.t p37), (.t p38), (.t p39)]),
   .p p41 (.mkif 142 (.t p40)),
   .p p10 (.mv (.t p41))])
   .ret) .skip))))))))))
   (.seq (.reg [.p p42 (.mv (.t p4)),
   .p p10 (.mv (.t p42))])
   .ret)))
   [.t p10]
/- internal/strconv.Itoa -/
def a69 : AF :=
  .code [p0] (.seq (.reg [.p p2 (.mv (.c (.str 0 0)))])
   (.seq (.reg [.p p3 (.mv (.t p0)),
   .p p4 (.call 91 [(.t p3), (.c (.int .i64 (.ofNat 10)))]),
   .p p2 (.mv (.t p4))])
   .ret))
   [.t p2]
/- bastion/words.own$1 -/
def a73 : AF :=
  .code [p0, p1] (.seq (.reg [.p p4 (.load1 (.t p1)),
   .p p5 (.lenStr (.t p4)),
   .p p6 (.mv (.c (.int .i64 (.ofNat 0))))])
   (.block 0 (.loop (.seq (.reg [.p p7 (.bin .lss (.t p6) (.t p5))])
   (.seq (.cond (.t p7) .skip (.exit 0))
   (.seq (.block 1 (.seq (.reg [.p p8 (.mv (.t p6)),
   .p p3 (.mv (.t p8))])
   (.reg [.p p9 (.mv (.t p0)),
   .p p10 (.load1 (.t p1)),
   .p p11 (.mv (.t p3)),
   .p p12 (.idxStr (.t p10) (.t p11)),
   .p p13 (.callv (.t p9) [(.t p12)])])))
   (.reg [.p p14 (.bin .add (.t p6) (.c (.int .i64 (.ofNat 1)))),
   .p p6 (.mv (.t p14))])))))))
   []
/- bastion/words.own$2 -/
def a74 : AF :=
  .code [p0, p1] (.reg [.p p3 (.load1 (.t p1)),
   .p p4 (.mv (.t p3)),
   .g p5 (.mv (.t p0)) p4 true,
   .g p6 (.call 28 [(.t p5)]) p4 true,
   .p p7 (.pick (.t p4) (.t p6) (.c (.bool false))),
   .n (.store 1 (.t p1) (.t p7))])
   []
/- bastion/words.own$3 -/
def a75 : AF :=
  .code [p0, p1] (.block 0 (.seq (.reg [.p p13 (.mv (.t p0)),
   .p p14 (.bin .eql (.t p13) (.c (.int .u8 (.ofNat 34)))),
   .p p15 (.mv (.t p14)),
   .g p16 (.mv (.t p0)) p15 false,
   .g p17 (.bin .eql (.t p16) (.c (.int .u8 (.ofNat 92)))) p15 false,
   .p p18 (.pick (.t p15) (.c (.bool true)) (.t p17)),
   .p p12 (.mv (.t p18))])
   (.cond (.t p12) (.seq (.reg [.p p19 (.call 34 [(.t p1), (.c (.int .u8 (.ofNat 92)))])])
   (.reg [.p p20 (.mv (.t p0)),
   .p p21 (.call 34 [(.t p1), (.t p20)])])) (.seq (.reg [.p p23 (.mv (.t p0)),
   .p p24 (.bin .eql (.t p23) (.c (.int .u8 (.ofNat 10)))),
   .p p22 (.mv (.t p24))])
   (.cond (.t p22) (.reg [.p p25 (.call 33 [(.t p1), (.c (.str 2 28252))])]) (.seq (.reg [.p p27 (.mv (.t p0)),
   .p p28 (.bin .eql (.t p27) (.c (.int .u8 (.ofNat 9)))),
   .p p26 (.mv (.t p28))])
   (.cond (.t p26) (.reg [.p p29 (.call 33 [(.t p1), (.c (.str 2 29788))])]) (.seq (.reg [.p p31 (.mv (.t p0)),
   .p p32 (.bin .geq (.t p31) (.c (.int .u8 (.ofNat 32)))),
   .p p33 (.mv (.t p32)),
   .g p34 (.mv (.t p0)) p33 true,
   .g p35 (.bin .leq (.t p34) (.c (.int .u8 (.ofNat 126)))) p33 true,
   .p p36 (.pick (.t p33) (.t p35) (.c (.bool false))),
   .p p30 (.mv (.t p36))])
   (.cond (.t p30) (.reg [.p p37 (.mv (.t p0)),
   .p p38 (.call 34 [(.t p1), (.t p37)])]) (.seq (.reg [.p p3 (.call 33 [(.t p1), (.c (.str 2 30812))])])
   (.seq (.reg [.p p4 (.mv (.t p0)),
   .p p5 (.shf false (.t p4) (.c (.int .u64 (.ofNat 4)))),
   .p p6 (.idxStr (.c (.str 16 136107713667768957684761770045455085872)) (.t p5)),
   .p p7 (.call 34 [(.t p1), (.t p6)])])
   (.reg [.p p8 (.mv (.t p0)),
   .p p9 (.bin .and (.t p8) (.c (.int .u8 (.ofNat 15)))),
   .p p10 (.idxStr (.c (.str 16 136107713667768957684761770045455085872)) (.t p9)),
   .p p11 (.call 34 [(.t p1), (.t p10)])]))))))))))))
   []
/- (*strings.Builder).Grow -/
def a76 : AF :=
  .code [p0, p1] (.seq (.reg [.p p4 (.mv (.t p0)),
   .p p5 (.call 55 [(.t p4)])])
   (.seq (.seq (.reg [.p p6 (.mv (.t p1)),
   .p p7 (.bin .lss (.t p6) (.c (.int .i64 (.ofNat 0))))])
   (.cond (.t p7) (.reg [.p p8 (.mkif 9 (.c (.str 36 226187813140227768008177986391742176399534891738691412630441701833056540972817830802547))),
   .n (.stop)]) .skip))
   (.seq (.dreg [(.p p9 (.mv (.t p0)), 0), (.p p10 (.nilck (.t p9)), 1), (.p p11 (.faddr 1 (.t p10)), 3), (.p p12 (.load1 (.t p11)), 7), (.p p13 (.cap (.t p12)), 15), (.p p14 (.mv (.t p0)), 0), (.p p15 (.nilck (.t p14)), 32), (.p p16 (.faddr 1 (.t p15)), 96), (.p p17 (.load1 (.t p16)), 224), (.p p18 (.lenSlc (.t p17)), 480), (.p p19 (.bin .sub (.t p13) (.t p18)), 1023), (.p p20 (.mv (.t p1)), 0), (.p p21 (.bin .lss (.t p19) (.t p20)), 4095)])
   (.cond (.t p21) (.reg [.p p22 (.mv (.t p0)),
   .p p23 (.mv (.t p1)),
   .p p24 (.call 92 [(.t p22), (.t p23)])]) .skip))))
   []
/- internal/abi.NoEscape -/ def a77 : AF := .noEscape
/- unicode/utf8.DecodeLastRuneInString -/
def a78 : AF :=
  .code [p0] (.seq (.reg [.p p2 (.mv (.c (.int .i32 (.ofNat 0)))),
   .p p3 (.mv (.c (.int .i64 (.ofNat 0))))])
   (.seq (.reg [.p p7 (.mv (.t p0)),
   .p p8 (.lenStr (.t p7)),
   .p p4 (.mv (.t p8))])
   (.seq (.seq (.reg [.p p9 (.mv (.t p4)),
   .p p10 (.bin .eql (.t p9) (.c (.int .i64 (.ofNat 0))))])
   (.cond (.t p10) (.seq (.reg [.p p2 (.mv (.c (.int .i32 (.ofNat 65533)))),
   .p p3 (.mv (.c (.int .i64 (.ofNat 0))))])
   .ret) .skip))
   (.seq (.reg [.p p11 (.mv (.t p4)),
   .p p12 (.bin .sub (.t p11) (.c (.int .i64 (.ofNat 1)))),
   .p p5 (.mv (.t p12))])
   (.seq (.reg [.p p13 (.mv (.t p0)),
   .p p14 (.mv (.t p5)),
   .p p15 (.idxStr (.t p13) (.t p14)),
   .p p16 (.convI .i32 (.t p15)),
   .p p2 (.mv (.t p16))])
   (.seq (.seq (.reg [.p p17 (.mv (.t p2)),
   .p p18 (.bin .lss (.t p17) (.c (.int .i32 (.ofNat 128))))])
   (.cond (.t p18) (.seq (.reg [.p p19 (.mv (.t p2)),
   .p p2 (.mv (.t p19)),
   .p p3 (.mv (.c (.int .i64 (.ofNat 1))))])
   .ret) .skip))
   (.seq (.reg [.p p20 (.mv (.t p4)),
   .p p21 (.bin .sub (.t p20) (.c (.int .i64 (.ofNat 4)))),
   .p p22 (.max (.t p21) (.c (.int .i64 (.ofNat 0)))),
   .p p6 (.mv (.t p22))])
   (.seq (.seq (.reg [.p p23 (.mv (.t p5)),
   .p p24 (.bin .sub (.t p23) (.c (.int .i64 (.ofNat 1)))),
   .p p5 (.mv (.t p24))])
   (.block 0 (.loop (.seq (.seq (.reg [.p p25 (.mv (.t p5)),
   .p p26 (.mv (.t p6)),
   .p p27 (.bin .geq (.t p25) (.t p26))])
   (.cond (.t p27) .skip (.exit 0)))
   (.seq (.block 1 (.seq (.reg [.p p30 (.mv (.t p0)),
   .p p31 (.mv (.t p5)),
   .p p32 (.idxStr (.t p30) (.t p31)),
   .p p33 (.call 93 [(.t p32)])])
   (.cond (.t p33) (.exit 0) .skip)))
   (.reg [.p p28 (.mv (.t p5)),
   .p p29 (.bin .sub (.t p28) (.c (.int .i64 (.ofNat 1)))),
   .p p5 (.mv (.t p29))]))))))
   (.seq (.seq (.reg [.p p34 (.mv (.t p5)),
   .p p35 (.bin .lss (.t p34) (.c (.int .i64 (.ofNat 0))))])
   (.cond (.t p35) (.reg [.p p5 (.mv (.c (.int .i64 (.ofNat 0))))]) .skip))
   (.seq (.reg [.p p37 (.mv (.t p0)),
   .p p38 (.mv (.t p5)),
   .p p39 (.mv (.t p4)),
   .p p40 (.sliceStr (.t p37) (some (.t p38)) (some (.t p39))),
   .p p41 (.call 61 [(.t p40)]),
   .p p36 (.mv (.t p41)),
   .p p42 (.extract 0 (.t p36)),
   .p p43 (.extract 1 (.t p36)),
   .p p2 (.mv (.t p42)),
   .p p3 (.mv (.t p43))])
   (.seq (.seq (.reg [.p p44 (.mv (.t p5)),
   .p p45 (.mv (.t p3)),
   .p p46 (.bin .add (.t p44) (.t p45)),
   .p p47 (.mv (.t p4)),
   .p p48 (.bin .neq (.t p46) (.t p47))])
   (.cond (.t p48) (.seq (.reg [.p p2 (.mv (.c (.int .i32 (.ofNat 65533)))),
   .p p3 (.mv (.c (.int .i64 (.ofNat 1))))])
   .ret) .skip))
   (.seq (.reg [.p p49 (.mv (.t p2)),
   .p p50 (.mv (.t p3)),
   .p p2 (.mv (.t p49)),
   .p p3 (.mv (.t p50))])
   .ret))))))))))))
   [.t p2, .t p3]
/- strings.indexFunc -/
def a79 : AF :=
  .code [p0, p1, p2] (.seq (.reg [.p p6 (.mv (.c (.int .i64 (.ofNat 0))))])
   (.seq (.seq (.reg [.p p9 (.mv (.t p0)),
   .p p10 (.range (.t p9))])
   (.block 0 (.loop (.seq (.reg [.p p11 (.next (.t p10)),
   .p p12 (.extract 0 (.t p11))])
   (.seq (.cond (.t p12) .skip (.exit 0))
   (.block 1 (.seq (.reg [.p p13 (.extract 1 (.t p11)),
   .p p14 (.extract 2 (.t p11)),
   .p p7 (.mv (.t p13)),
   .p p8 (.mv (.t p14))])
   (.seq (.reg [.p p15 (.mv (.t p1)),
   .p p16 (.mv (.t p8)),
   .p p17 (.callv (.t p15) [(.t p16)]),
   .p p18 (.mv (.t p2)),
   .p p19 (.eq false .bool (.t p17) (.t p18))])
   (.cond (.t p19) (.seq (.reg [.p p20 (.mv (.t p7)),
   .p p6 (.mv (.t p20))])
   .ret) .skip)))))))))
   (.seq (.reg [.p p6 (.mv (.c (.int .i64 (.negSucc 0))))])
   .ret)))
   [.t p6]
/- unicode/utf8.decodeRuneInStringSlow -/
def a80 : AF :=
  .code [p0] (.seq (.reg [.p p2 (.mv (.c (.int .i32 (.ofNat 0)))),
   .p p3 (.mv (.c (.int .i64 (.ofNat 0))))])
   (.seq (.reg [.p p13 (.mv (.t p0)),
   .p p14 (.lenStr (.t p13)),
   .p p4 (.mv (.t p14))])
   (.seq (.seq (.reg [.p p15 (.mv (.t p4)),
   .p p16 (.bin .lss (.t p15) (.c (.int .i64 (.ofNat 1))))])
   (.cond (.t p16) (.seq (.reg [.p p2 (.mv (.c (.int .i32 (.ofNat 65533)))),
   .p p3 (.mv (.c (.int .i64 (.ofNat 0))))])
   .ret) .skip))
   (.seq (.reg [.p p17 (.mv (.t p0)),
   .p p18 (.idxStr (.t p17) (.c (.int .i64 (.ofNat 0)))),
   .p p5 (.mv (.t p18))])
   (.seq (.reg [.p p19 (.mv (.t p5)),
   .p p20 (.iaddrA 256 1 (.c (.ptr 2 0)) (.t p19)),
   .p p21 (.load1 (.t p20)),
   .p p6 (.mv (.t p21))])
   (.seq (.seq (.reg [.p p22 (.mv (.t p6)),
   .p p23 (.bin .geq (.t p22) (.c (.int .u8 (.ofNat 240))))])
   (.cond (.t p23) (.seq (.reg [.p p24 (.mv (.t p6)),
   .p p25 (.convI .i32 (.t p24)),
   .p p26 (.shf true (.t p25) (.c (.int .u64 (.ofNat 31)))),
   .p p27 (.shf false (.t p26) (.c (.int .u64 (.ofNat 31)))),
   .p p7 (.mv (.t p27))])
   (.seq (.reg [.p p28 (.mv (.t p0)),
   .p p29 (.idxStr (.t p28) (.c (.int .i64 (.ofNat 0)))),
   .p p30 (.convI .i32 (.t p29)),
   .p p31 (.mv (.t p7)),
   .p p32 (.bin .andNot (.t p30) (.t p31)),
   .p p33 (.mv (.t p7)),
   .p p34 (.bin .and (.c (.int .i32 (.ofNat 65533))) (.t p33)),
   .p p35 (.bin .or (.t p32) (.t p34)),
   .p p2 (.mv (.t p35)),
   .p p3 (.mv (.c (.int .i64 (.ofNat 1))))])
   .ret)) .skip))
   (.seq (.reg [.p p36 (.mv (.t p6)),
   .p p37 (.bin .and (.t p36) (.c (.int .u8 (.ofNat 7)))),
   .p p38 (.convI .i64 (.t p37)),
   .p p8 (.mv (.t p38))])
   (.seq (.reg [.p p39 (.mv (.t p6)),
   .p p40 (.shf false (.t p39) (.c (.int .u64 (.ofNat 4)))),
   .p p41 (.iaddrA 16 2 (.c (.ptr 3 0)) (.t p40)),
   .p p42 (.loadn 2 (.t p41)),
   .p p9 (.alloc 148 [.int .u8 (.ofNat 0), .int .u8 (.ofNat 0)]),
   .n (.store 2 (.t p9) (.t p42))])
   (.seq (.seq (.reg [.p p43 (.mv (.t p4)),
   .p p44 (.mv (.t p8)),
   .p p45 (.bin .lss (.t p43) (.t p44))])
   (.cond (.t p45) (.seq (.reg [.p p2 (.mv (.c (.int .i32 (.ofNat 65533)))),
   .p p3 (.mv (.c (.int .i64 (.ofNat 1))))])
   .ret) .skip))
   (.seq (.reg [.p p46 (.mv (.t p0)),
   .p p47 (.idxStr (.t p46) (.c (.int .i64 (.ofNat 1)))),
   .p p10 (.mv (.t p47))])
   (.seq (.seq (.reg [.p p48 (.mv (.t p10)),
   .p p49 (.faddr 0 (.t p9)),
   .p p50 (.load1 (.t p49)),
   .p p51 (.bin .lss (.t p48) (.t p50)),
   .p p52 (.mv (.t p51)),
   .g p53 (.faddr 1 (.t p9)) p52 false,
   .g p54 (.load1 (.t p53)) p52 false,
   .g p55 (.mv (.t p10)) p52 false,
   .g p56 (.bin .lss (.t p54) (.t p55)) p52 false,
   .p p57 (.pick (.t p52) (.c (.bool true)) (.t p56))])
   (.cond (.t p57) (.seq (.reg [.p p2 (.mv (.c (.int .i32 (.ofNat 65533)))),
   .p p3 (.mv (.c (.int .i64 (.ofNat 1))))])
   .ret) .skip))
   (.seq (.seq (.reg [.p p58 (.mv (.t p8)),
   .p p59 (.bin .leq (.t p58) (.c (.int .i64 (.ofNat 2))))])
   (.cond (.t p59) (.seq (.reg [.p p60 (.mv (.t p5)),
   .p p61 (.bin .and (.t p60) (.c (.int .u8 (.ofNat 31)))),
   .p p62 (.convI .i32 (.t p61)),
   .p p63 (.shf true (.t p62) (.c (.int .u64 (.ofNat 6)))),
   .p p64 (.mv (.t p10)),
   .p p65 (.bin .and (.t p64) (.c (.int .u8 (.ofNat 63)))),
   .p p66 (.convI .i32 (.t p65)),
   .p p67 (.bin .or (.t p63) (.t p66)),
   .p p2 (.mv (.t p67)),
   .p p3 (.mv (.c (.int .i64 (.ofNat 2))))])
   .ret) .skip))
   (.seq (.reg [.p p68 (.mv (.t p0)),
   .p p69 (.idxStr (.t p68) (.c (.int .i64 (.ofNat 2)))),
   .p p11 (.mv (.t p69))])
   (.seq (.seq (.reg [.p p70 (.mv (.t p11)),
   .p p71 (.bin .lss (.t p70) (.c (.int .u8 (.ofNat 128)))),
   .p p72 (.mv (.t p71)),
   .g p73 (.mv (.t p11)) p72 false,
   .g p74 (.bin .lss (.c (.int .u8 (.ofNat 191))) (.t p73)) p72 false,
   .p p75 (.pick (.t p72) (.c (.bool true)) (.t p74))])
   (.cond (.t p75) (.seq (.reg [.p p2 (.mv (.c (.int .i32 (.ofNat 65533)))),
   .p p3 (.mv (.c (.int .i64 (.ofNat 1))))])
   .ret) .skip))
   (.seq (.seq (.reg [.p p76 (.mv (.t p8)),
   .p p77 (.bin .leq (.t p76) (.c (.int .i64 (.ofNat 3))))])
   (.cond (.t p77) (.seq (.reg [.p p78 (.mv (.t p5)),
   .p p79 (.bin .and (.t p78) (.c (.int .u8 (.ofNat 15)))),
   .p p80 (.convI .i32 (.t p79)),
   .p p81 (.shf true (.t p80) (.c (.int .u64 (.ofNat 12)))),
   .p p82 (.mv (.t p10)),
   .p p83 (.bin .and (.t p82) (.c (.int .u8 (.ofNat 63)))),
   .p p84 (.convI .i32 (.t p83)),
   .p p85 (.shf true (.t p84) (.c (.int .u64 (.ofNat 6)))),
   .p p86 (.bin .or (.t p81) (.t p85)),
   .p p87 (.mv (.t p11)),
   .p p88 (.bin .and (.t p87) (.c (.int .u8 (.ofNat 63)))),
   .p p89 (.convI .i32 (.t p88)),
   .p p90 (.bin .or (.t p86) (.t p89)),
   .p p2 (.mv (.t p90)),
   .p p3 (.mv (.c (.int .i64 (.ofNat 3))))])
   .ret) .skip))
   (.seq (.reg [.p p91 (.mv (.t p0)),
   .p p92 (.idxStr (.t p91) (.c (.int .i64 (.ofNat 3)))),
   .p p12 (.mv (.t p92))])
   (.seq (.seq (.reg [.p p93 (.mv (.t p12)),
   .p p94 (.bin .lss (.t p93) (.c (.int .u8 (.ofNat 128)))),
   .p p95 (.mv (.t p94)),
   .g p96 (.mv (.t p12)) p95 false,
   .g p97 (.bin .lss (.c (.int .u8 (.ofNat 191))) (.t p96)) p95 false,
   .p p98 (.pick (.t p95) (.c (.bool true)) (.t p97))])
   (.cond (.t p98) (.seq (.reg [.p p2 (.mv (.c (.int .i32 (.ofNat 65533)))),
   .p p3 (.mv (.c (.int .i64 (.ofNat 1))))])
   .ret) .skip))
   (.seq (.reg [.p p99 (.mv (.t p5)),
   .p p100 (.bin .and (.t p99) (.c (.int .u8 (.ofNat 7)))),
   .p p101 (.convI .i32 (.t p100)),
   .p p102 (.shf true (.t p101) (.c (.int .u64 (.ofNat 18)))),
   .p p103 (.mv (.t p10)),
   .p p104 (.bin .and (.t p103) (.c (.int .u8 (.ofNat 63)))),
   .p p105 (.convI .i32 (.t p104)),
   .p p106 (.shf true (.t p105) (.c (.int .u64 (.ofNat 12)))),
   .p p107 (.bin .or (.t p102) (.t p106)),
   .p p108 (.mv (.t p11)),
   .p p109 (.bin .and (.t p108) (.c (.int .u8 (.ofNat 63)))),
   .p p110 (.convI .i32 (.t p109)),
   .p p111 (.shf true (.t p110) (.c (.int .u64 (.ofNat 6)))),
   .p p112 (.bin .or (.t p107) (.t p111)),
   .p p113 (.mv (.t p12)),
   .p p114 (.bin .and (.t p113) (.c (.int .u8 (.ofNat 63)))),
   .p p115 (.convI .i32 (.t p114)),
   .p p116 (.bin .or (.t p112) (.t p115)),
   .p p2 (.mv (.t p116)),
   .p p3 (.mv (.c (.int .i64 (.ofNat 4))))])
   .ret))))))))))))))))))
   [.t p2, .t p3]
/- internal/bytealg.IndexString -/ def a81 : AF := .index
/- internal/bytealg.Cutover -/
def a82 : AF :=
  .code [p0] (.seq (.reg [.p p2 (.mv (.c (.int .i64 (.ofNat 0))))])
   (.seq (.reg [.p p3 (.mv (.t p0)),
   .p p4 (.bin .add (.t p3) (.c (.int .i64 (.ofNat 16)))),
   .p p5 (.bin .quo (.t p4) (.c (.int .i64 (.ofNat 8)))),
   .p p2 (.mv (.t p5))])
   .ret))
   [.t p2]
/- internal/bytealg.IndexRabinKarp[string] -/
def a83 : AF :=
  .code [p0, p1] (.seq (.reg [.p p4 (.mv (.c (.int .i64 (.ofNat 0))))])
   (.seq (.reg [.p p12 (.mv (.t p1)),
   .p p13 (.call 94 [(.t p12)]),
   .p p11 (.mv (.t p13)),
   .p p14 (.extract 0 (.t p11)),
   .p p15 (.extract 1 (.t p11)),
   .p p5 (.mv (.t p14)),
   .p p6 (.mv (.t p15))])
   (.seq (.reg [.p p16 (.mv (.t p1)),
   .p p17 (.lenStr (.t p16)),
   .p p7 (.mv (.t p17))])
   (.seq (.reg [.p p8 (.mv (.c (.int .u32 (.ofNat 0))))])
   (.seq (.seq (.reg [.p p9 (.mv (.c (.int .i64 (.ofNat 0))))])
   (.block 0 (.loop (.seq (.seq (.reg [.p p18 (.mv (.t p9)),
   .p p19 (.mv (.t p7)),
   .p p20 (.bin .lss (.t p18) (.t p19))])
   (.cond (.t p20) .skip (.exit 0)))
   (.seq (.block 1 (.reg [.p p23 (.mv (.t p8)),
   .p p24 (.bin .mul (.t p23) (.c (.int .u32 (.ofNat 16777619)))),
   .p p25 (.mv (.t p0)),
   .p p26 (.mv (.t p9)),
   .p p27 (.idxStr (.t p25) (.t p26)),
   .p p28 (.convI .u32 (.t p27)),
   .p p29 (.bin .add (.t p24) (.t p28)),
   .p p8 (.mv (.t p29))]))
   (.reg [.p p21 (.mv (.t p9)),
   .p p22 (.bin .add (.t p21) (.c (.int .i64 (.ofNat 1)))),
   .p p9 (.mv (.t p22))]))))))
   (.seq (.seq (.reg [.p p30 (.mv (.t p8)),
   .p p31 (.mv (.t p5)),
   .p p32 (.bin .eql (.t p30) (.t p31)),
   .p p33 (.mv (.t p32)),
   .g p34 (.mv (.t p0)) p33 true,
   .g p35 (.mv (.t p7)) p33 true,
   .g p36 (.sliceStr (.t p34) none (some (.t p35))) p33 true,
   .g p37 (.mv (.t p1)) p33 true,
   .g p38 (.bin .eql (.t p36) (.t p37)) p33 true,
   .p p39 (.pick (.t p33) (.t p38) (.c (.bool false)))])
   (.cond (.t p39) (.seq (.reg [.p p4 (.mv (.c (.int .i64 (.ofNat 0))))])
   .ret) .skip))
   (.seq (.seq (.reg [.p p40 (.mv (.t p7)),
   .p p10 (.mv (.t p40))])
   (.block 2 (.loop (.seq (.seq (.reg [.p p41 (.mv (.t p10)),
   .p p42 (.mv (.t p0)),
   .p p43 (.lenStr (.t p42)),
   .p p44 (.bin .lss (.t p41) (.t p43))])
   (.cond (.t p44) .skip (.exit 2)))
   (.block 3 (.seq (.reg [.p p45 (.mv (.t p8)),
   .p p46 (.bin .mul (.t p45) (.c (.int .u32 (.ofNat 16777619)))),
   .p p8 (.mv (.t p46))])
   (.seq (.reg [.p p47 (.mv (.t p8)),
   .p p48 (.mv (.t p0)),
   .p p49 (.mv (.t p10)),
   .p p50 (.idxStr (.t p48) (.t p49)),
   .p p51 (.convI .u32 (.t p50)),
   .p p52 (.bin .add (.t p47) (.t p51)),
   .p p8 (.mv (.t p52))])
   (.seq (.reg [.p p53 (.mv (.t p8)),
   .p p54 (.mv (.t p6)),
   .p p55 (.mv (.t p0)),
   .p p56 (.mv (.t p10)),
   .p p57 (.mv (.t p7)),
   .p p58 (.bin .sub (.t p56) (.t p57)),
   .p p59 (.idxStr (.t p55) (.t p58)),
   .p p60 (.convI .u32 (.t p59)),
   .p p61 (.bin .mul (.t p54) (.t p60)),
   .p p62 (.bin .sub (.t p53) (.t p61)),
   .p p8 (.mv (.t p62))])
   (.seq (.reg [.p p63 (.mv (.t p10)),
   .p p64 (.bin .add (.t p63) (.c (.int .i64 (.ofNat 1)))),
   .p p10 (.mv (.t p64))])
   (.seq (.reg [.p p65 (.mv (.t p8)),
   .p p66 (.mv (.t p5)),
   .p p67 (.bin .eql (.t p65) (.t p66)),
   .p p68 (.mv (.t p67)),
   .g p69 (.mv (.t p0)) p68 true,
   .g p70 (.mv (.t p10)) p68 true,
   .g p71 (.mv (.t p7)) p68 true,
   .g p72 (.bin .sub (.t p70) (.t p71)) p68 true,
   .g p73 (.mv (.t p10)) p68 true,
   .g p74 (.sliceStr (.t p69) (some (.t p72)) (some (.t p73))) p68 true,
   .g p75 (.mv (.t p1)) p68 true,
   .g p76 (.bin .eql (.t p74) (.t p75)) p68 true,
   .p p77 (.pick (.t p68) (.t p76) (.c (.bool false)))])
   (.cond (.t p77) (.seq (.reg [.p p78 (.mv (.t p10)),
   .p p79 (.mv (.t p7)),
   .p p80 (.bin .sub (.t p78) (.t p79)),
   .p p4 (.mv (.t p80))])
   .ret) .skip)))))))))))
   (.seq (.reg [.p p4 (.mv (.c (.int .i64 (.negSucc 0))))])
   .ret))))))))
   [.t p4]
/- strings.IndexRune -/
def a84 : AF :=
  .code [p0, p1] (.seq (.reg [.p p4 (.mv (.c (.int .i64 (.ofNat 0))))])
   (.block 0 (.seq (.reg [.p p161 (.mv (.t p1)),
   .p p162 (.bin .leq (.c (.int .i32 (.ofNat 0))) (.t p161)),
   .p p163 (.mv (.t p162)),
   .g p164 (.mv (.t p1)) p163 true,
   .g p165 (.bin .lss (.t p164) (.c (.int .i32 (.ofNat 128)))) p163 true,
   .p p166 (.pick (.t p163) (.t p165) (.c (.bool false))),
   .p p160 (.mv (.t p166))])
   (.cond (.t p160) (.seq (.reg [.p p167 (.mv (.t p0)),
   .p p168 (.mv (.t p1)),
   .p p169 (.convI .u8 (.t p168)),
   .p p170 (.call 46 [(.t p167), (.t p169)]),
   .p p4 (.mv (.t p170))])
   .ret) (.seq (.reg [.p p172 (.mv (.t p1)),
   .p p173 (.bin .eql (.t p172) (.c (.int .i32 (.ofNat 65533)))),
   .p p171 (.mv (.t p173))])
   (.cond (.t p171) (.seq (.seq (.reg [.p p174 (.mv (.t p0)),
   .p p175 (.range (.t p174))])
   (.block 9 (.loop (.seq (.reg [.p p176 (.next (.t p175)),
   .p p177 (.extract 0 (.t p176))])
   (.seq (.cond (.t p177) .skip (.exit 9))
   (.block 10 (.seq (.reg [.p p178 (.extract 1 (.t p176)),
   .p p179 (.extract 2 (.t p176)),
   .p p5 (.mv (.t p178)),
   .p p6 (.mv (.t p179))])
   (.seq (.reg [.p p180 (.mv (.t p6)),
   .p p181 (.bin .eql (.t p180) (.c (.int .i32 (.ofNat 65533))))])
   (.cond (.t p181) (.seq (.reg [.p p182 (.mv (.t p5)),
   .p p4 (.mv (.t p182))])
   .ret) .skip)))))))))
   (.seq (.reg [.p p4 (.mv (.c (.int .i64 (.negSucc 0))))])
   .ret)) (.seq (.reg [.p p184 (.mv (.t p1)),
   .p p185 (.call 95 [(.t p184)]),
   .p p186 (.not (.t p185)),
   .p p183 (.mv (.t p186))])
   (.cond (.t p183) (.seq (.reg [.p p4 (.mv (.c (.int .i64 (.negSucc 0))))])
   .ret) (.seq (.reg [.p p17 (.mv (.t p1)),
   .p p18 (.convRS (.t p17)),
   .p p7 (.mv (.t p18))])
   (.seq (.reg [.p p19 (.mv (.t p7)),
   .p p20 (.lenStr (.t p19)),
   .p p21 (.bin .sub (.t p20) (.c (.int .i64 (.ofNat 1)))),
   .p p8 (.mv (.t p21))])
   (.seq (.reg [.p p22 (.mv (.t p8)),
   .p p9 (.mv (.t p22))])
   (.seq (.reg [.p p10 (.mv (.c (.int .i64 (.ofNat 0))))])
   (.seq (.block 1 (.loop (.seq (.seq (.reg [.p p23 (.mv (.t p9)),
   .p p24 (.mv (.t p0)),
   .p p25 (.lenStr (.t p24)),
   .p p26 (.bin .lss (.t p23) (.t p25))])
   (.cond (.t p26) .skip (.exit 1)))
   (.block 2 (.seq (.seq (.dreg [(.p p27 (.mv (.t p0)), 0), (.p p28 (.mv (.t p9)), 0), (.p p29 (.idxStr (.t p27) (.t p28)), 3), (.p p30 (.mv (.t p7)), 0), (.p p31 (.mv (.t p8)), 0), (.p p32 (.idxStr (.t p30) (.t p31)), 24), (.p p33 (.bin .neq (.t p29) (.t p32)), 63)])
   (.cond (.t p33) (.seq (.dreg [(.p p34 (.mv (.t p0)), 0), (.p p35 (.mv (.t p9)), 0), (.p p36 (.bin .add (.t p35) (.c (.int .i64 (.ofNat 1)))), 2), (.p p37 (.sliceStr (.t p34) (some (.t p36)) none), 7), (.p p38 (.mv (.t p7)), 0), (.p p39 (.mv (.t p8)), 0), (.p p40 (.idxStr (.t p38) (.t p39)), 48), (.p p41 (.call 46 [(.t p37), (.t p40)]), 127), (.p p11 (.mv (.t p41)), 255)])
   (.seq (.seq (.reg [.p p42 (.mv (.t p11)),
   .p p43 (.bin .lss (.t p42) (.c (.int .i64 (.ofNat 0))))])
   (.cond (.t p43) (.seq (.reg [.p p4 (.mv (.c (.int .i64 (.negSucc 0))))])
   .ret) .skip))
   (.reg [.p p44 (.mv (.t p9)),
   .p p45 (.mv (.t p11)),
   .p p46 (.bin .add (.t p45) (.c (.int .i64 (.ofNat 1)))),
   .p p47 (.bin .add (.t p44) (.t p46)),
   .p p9 (.mv (.t p47))]))) .skip))
   (.seq (.seq (.reg [.p p12 (.mv (.c (.int .i64 (.ofNat 1))))])
   (.block 3 (.loop (.seq (.seq (.reg [.p p48 (.mv (.t p12)),
   .p p49 (.mv (.t p7)),
   .p p50 (.lenStr (.t p49)),
   .p p51 (.bin .lss (.t p48) (.t p50))])
   (.cond (.t p51) .skip (.exit 3)))
   (.seq (.block 4 (.seq (.dreg [(.p p54 (.mv (.t p0)), 0), (.p p55 (.mv (.t p9)), 0), (.p p56 (.mv (.t p12)), 0), (.p p57 (.bin .sub (.t p55) (.t p56)), 6), (.p p58 (.idxStr (.t p54) (.t p57)), 15), (.p p59 (.mv (.t p7)), 0), (.p p60 (.mv (.t p8)), 0), (.p p61 (.mv (.t p12)), 0), (.p p62 (.bin .sub (.t p60) (.t p61)), 192), (.p p63 (.idxStr (.t p59) (.t p62)), 480), (.p p64 (.bin .neq (.t p58) (.t p63)), 1023)])
   (.cond (.t p64) .stop .skip)))
   (.reg [.p p52 (.mv (.t p12)),
   .p p53 (.bin .add (.t p52) (.c (.int .i64 (.ofNat 1)))),
   .p p12 (.mv (.t p53))]))))))
   (.seq (.seq (.reg [.p p65 (.mv (.t p9)),
   .p p66 (.mv (.t p8)),
   .p p67 (.bin .sub (.t p65) (.t p66)),
   .p p4 (.mv (.t p67))])
   .ret)
   (.seq .skip
   (.seq (.reg [.p p68 (.mv (.t p10)),
   .p p69 (.bin .add (.t p68) (.c (.int .i64 (.ofNat 1)))),
   .p p10 (.mv (.t p69))])
   (.seq (.reg [.p p70 (.mv (.t p9)),
   .p p71 (.bin .add (.t p70) (.c (.int .i64 (.ofNat 1)))),
   .p p9 (.mv (.t p71))])
   (.seq (.reg [.p p72 (.mv (.c (.bool true))),
   .g p73 (.mv (.t p10)) p72 true,
   .g p74 (.mv (.t p9)) p72 true,
   .g p75 (.call 82 [(.t p74)]) p72 true,
   .g p76 (.bin .gtr (.t p73) (.t p75)) p72 true,
   .p p77 (.pick (.t p72) (.t p76) (.c (.bool false))),
   .p p78 (.mv (.t p77)),
   .g p79 (.mv (.t p9)) p78 true,
   .g p80 (.mv (.t p0)) p78 true,
   .g p81 (.lenStr (.t p80)) p78 true,
   .g p82 (.bin .lss (.t p79) (.t p81)) p78 true,
   .p p83 (.pick (.t p78) (.t p82) (.c (.bool false))),
   .p p84 (.mv (.t p83)),
   .g p85 (.mv (.c (.bool false))) p84 false,
   .g p86 (.mv (.t p10)) p85 true,
   .g p87 (.mv (.t p9)) p85 true,
   .g p88 (.shf false (.t p87) (.c (.int .u64 (.ofNat 4)))) p85 true,
   .g p89 (.bin .add (.c (.int .i64 (.ofNat 4))) (.t p88)) p85 true,
   .g p90 (.bin .geq (.t p86) (.t p89)) p85 true,
   .g p91 (.pick (.t p85) (.t p90) (.c (.bool false))) p84 false,
   .g p92 (.mv (.t p91)) p84 false,
   .g p93 (.mv (.t p9)) p92 true,
   .g p94 (.mv (.t p0)) p92 true,
   .g p95 (.lenStr (.t p94)) p92 true,
   .g p96 (.bin .lss (.t p93) (.t p95)) p92 true,
   .g p97 (.pick (.t p92) (.t p96) (.c (.bool false))) p84 false,
   .p p98 (.pick (.t p84) (.c (.bool true)) (.t p97))])
   (.cond (.t p98) .stop .skip))))))))))))
   (.seq (.seq (.reg [.p p4 (.mv (.c (.int .i64 (.negSucc 0))))])
   .ret)
   (.seq .skip
   (.seq (.cond (.c (.bool true)) (.seq (.reg [.p p99 (.mv (.t p0)),
   .p p100 (.mv (.t p9)),
   .p p101 (.mv (.t p8)),
   .p p102 (.bin .sub (.t p100) (.t p101)),
   .p p103 (.sliceStr (.t p99) (some (.t p102)) none),
   .p p104 (.mv (.t p1)),
   .p p105 (.convRS (.t p104)),
   .p p106 (.call 81 [(.t p103), (.t p105)]),
   .p p13 (.mv (.t p106))])
   (.seq (.reg [.p p107 (.mv (.t p13)),
   .p p108 (.bin .geq (.t p107) (.c (.int .i64 (.ofNat 0))))])
   (.cond (.t p108) (.seq (.reg [.p p109 (.mv (.t p9)),
   .p p110 (.mv (.t p13)),
   .p p111 (.bin .add (.t p109) (.t p110)),
   .p p112 (.mv (.t p8)),
   .p p113 (.bin .sub (.t p111) (.t p112)),
   .p p4 (.mv (.t p113))])
   .ret) .skip))) (.seq (.reg [.p p114 (.mv (.t p7)),
   .p p115 (.mv (.t p8)),
   .p p116 (.idxStr (.t p114) (.t p115)),
   .p p14 (.mv (.t p116))])
   (.seq (.reg [.p p117 (.mv (.t p7)),
   .p p118 (.mv (.t p8)),
   .p p119 (.bin .sub (.t p118) (.c (.int .i64 (.ofNat 1)))),
   .p p120 (.idxStr (.t p117) (.t p119)),
   .p p15 (.mv (.t p120))])
   (.seq .skip
   (.block 5 (.loop (.seq (.seq (.reg [.p p121 (.mv (.t p9)),
   .p p122 (.mv (.t p0)),
   .p p123 (.lenStr (.t p122)),
   .p p124 (.bin .lss (.t p121) (.t p123))])
   (.cond (.t p124) .skip (.exit 5)))
   (.seq (.block 6 (.seq (.reg [.p p127 (.mv (.t p0)),
   .p p128 (.mv (.t p9)),
   .p p129 (.idxStr (.t p127) (.t p128)),
   .p p130 (.mv (.t p14)),
   .p p131 (.bin .eql (.t p129) (.t p130)),
   .p p132 (.mv (.t p131)),
   .g p133 (.mv (.t p0)) p132 true,
   .g p134 (.mv (.t p9)) p132 true,
   .g p135 (.bin .sub (.t p134) (.c (.int .i64 (.ofNat 1)))) p132 true,
   .g p136 (.idxStr (.t p133) (.t p135)) p132 true,
   .g p137 (.mv (.t p15)) p132 true,
   .g p138 (.bin .eql (.t p136) (.t p137)) p132 true,
   .p p139 (.pick (.t p132) (.t p138) (.c (.bool false)))])
   (.cond (.t p139) (.seq (.seq (.reg [.p p16 (.mv (.c (.int .i64 (.ofNat 2))))])
   (.block 7 (.loop (.seq (.seq (.reg [.p p140 (.mv (.t p16)),
   .p p141 (.mv (.t p7)),
   .p p142 (.lenStr (.t p141)),
   .p p143 (.bin .lss (.t p140) (.t p142))])
   (.cond (.t p143) .skip (.exit 7)))
   (.seq (.block 8 (.seq (.dreg [(.p p146 (.mv (.t p0)), 0), (.p p147 (.mv (.t p9)), 0), (.p p148 (.mv (.t p16)), 0), (.p p149 (.bin .sub (.t p147) (.t p148)), 6), (.p p150 (.idxStr (.t p146) (.t p149)), 15), (.p p151 (.mv (.t p7)), 0), (.p p152 (.mv (.t p8)), 0), (.p p153 (.mv (.t p16)), 0), (.p p154 (.bin .sub (.t p152) (.t p153)), 192), (.p p155 (.idxStr (.t p151) (.t p154)), 480), (.p p156 (.bin .neq (.t p150) (.t p155)), 1023)])
   (.cond (.t p156) (.exit 6) .skip)))
   (.reg [.p p144 (.mv (.t p16)),
   .p p145 (.bin .add (.t p144) (.c (.int .i64 (.ofNat 1)))),
   .p p16 (.mv (.t p145))]))))))
   (.seq (.reg [.p p157 (.mv (.t p9)),
   .p p158 (.mv (.t p8)),
   .p p159 (.bin .sub (.t p157) (.t p158)),
   .p p4 (.mv (.t p159))])
   .ret)) .skip)))
   (.reg [.p p125 (.mv (.t p9)),
   .p p126 (.bin .add (.t p125) (.c (.int .i64 (.ofNat 1)))),
   .p p9 (.mv (.t p126))])))))))))
   (.seq (.reg [.p p4 (.mv (.c (.int .i64 (.negSucc 0))))])
   .ret)))))))))))))))))
   [.t p4]
/- internal/bytealg.IndexByteString -/ def a85 : AF := .indexByte
/- internal/strconv.ParseInt -/
def a86 : AF :=
  .code [p0, p1, p2] (.seq (.reg [.p p6 (.mv (.c (.int .i64 (.ofNat 0)))),
   .p p7 (.mv (.c (.nili)))])
   (.seq (.seq (.reg [.p p12 (.mv (.t p0)),
   .p p13 (.bin .eql (.t p12) (.c (.str 0 0)))])
   (.cond (.t p13) (.seq (.reg [.p p14 (.mkif 139 (.c (.int .i64 (.ofNat 2)))),
   .p p6 (.mv (.c (.int .i64 (.ofNat 0)))),
   .p p7 (.mv (.t p14))])
   .ret) .skip))
   (.seq (.reg [.p p8 (.mv (.c (.bool false)))])
   (.seq (.seq (.reg [.p p15 (.mv (.t p0)),
   .p p16 (.idxStr (.t p15) (.c (.int .i64 (.ofNat 0))))])
   (.block 0 (.seq (.reg [.p p18 (.bin .eql (.t p16) (.c (.int .u8 (.ofNat 43)))),
   .p p17 (.mv (.t p18))])
   (.cond (.t p17) (.reg [.p p19 (.mv (.t p0)),
   .p p20 (.sliceStr (.t p19) (some (.c (.int .i64 (.ofNat 1)))) none),
   .p p0 (.mv (.t p20))]) (.seq (.reg [.p p22 (.bin .eql (.t p16) (.c (.int .u8 (.ofNat 45)))),
   .p p21 (.mv (.t p22))])
   (.cond (.t p21) (.seq (.reg [.p p23 (.mv (.t p0)),
   .p p24 (.sliceStr (.t p23) (some (.c (.int .i64 (.ofNat 1)))) none),
   .p p0 (.mv (.t p24))])
   (.reg [.p p8 (.mv (.c (.bool true)))])) .skip))))))
   (.seq (.reg [.p p9 (.mv (.c (.int .u64 (.ofNat 0))))])
   (.seq (.reg [.p p26 (.mv (.t p0)),
   .p p27 (.mv (.t p1)),
   .p p28 (.mv (.t p2)),
   .p p29 (.call 96 [(.t p26), (.t p27), (.t p28)]),
   .p p25 (.mv (.t p29)),
   .p p30 (.extract 0 (.t p25)),
   .p p31 (.extract 1 (.t p25)),
   .p p9 (.mv (.t p30)),
   .p p7 (.mv (.t p31))])
   (.seq (.seq (.reg [.p p32 (.mv (.t p7)),
   .p p33 (.eq true (.ifc true [22, 139]) (.t p32) (.c (.nili))),
   .p p34 (.mv (.t p33)),
   .g p35 (.mv (.t p7)) p34 true,
   .g p36 (.mkif 139 (.c (.int .i64 (.ofNat 1)))) p34 true,
   .g p37 (.eq true (.ifc false [22, 139]) (.t p35) (.t p36)) p34 true,
   .p p38 (.pick (.t p34) (.t p37) (.c (.bool false)))])
   (.cond (.t p38) (.seq (.reg [.p p39 (.mv (.t p7)),
   .p p6 (.mv (.c (.int .i64 (.ofNat 0)))),
   .p p7 (.mv (.t p39))])
   .ret) .skip))
   (.seq (.seq (.reg [.p p40 (.mv (.t p2)),
   .p p41 (.bin .eql (.t p40) (.c (.int .i64 (.ofNat 0))))])
   (.cond (.t p41) (.reg [.p p2 (.mv (.c (.int .i64 (.ofNat 64))))]) .skip))
   (.seq (.reg [.p p42 (.mv (.t p2)),
   .p p43 (.bin .sub (.t p42) (.c (.int .i64 (.ofNat 1)))),
   .p p44 (.convI .u64 (.t p43)),
   .p p45 (.shf true (.c (.int .u64 (.ofNat 1))) (.t p44)),
   .p p10 (.mv (.t p45))])
   (.seq (.seq (.reg [.p p46 (.mv (.t p8)),
   .p p47 (.not (.t p46)),
   .p p48 (.mv (.t p47)),
   .g p49 (.mv (.t p9)) p48 true,
   .g p50 (.mv (.t p10)) p48 true,
   .g p51 (.bin .geq (.t p49) (.t p50)) p48 true,
   .p p52 (.pick (.t p48) (.t p51) (.c (.bool false)))])
   (.cond (.t p52) (.seq (.reg [.p p53 (.mv (.t p10)),
   .p p54 (.bin .sub (.t p53) (.c (.int .u64 (.ofNat 1)))),
   .p p55 (.convI .i64 (.t p54)),
   .p p56 (.mkif 139 (.c (.int .i64 (.ofNat 1)))),
   .p p6 (.mv (.t p55)),
   .p p7 (.mv (.t p56))])
   .ret) .skip))
   (.seq (.seq (.reg [.p p57 (.mv (.t p8)),
   .p p58 (.mv (.t p57)),
   .g p59 (.mv (.t p9)) p58 true,
   .g p60 (.mv (.t p10)) p58 true,
   .g p61 (.bin .gtr (.t p59) (.t p60)) p58 true,
   .p p62 (.pick (.t p58) (.t p61) (.c (.bool false)))])
   (.cond (.t p62) (.seq (.reg [.p p63 (.mv (.t p10)),
   .p p64 (.convI .i64 (.t p63)),
   .p p65 (.neg (.t p64)),
   .p p66 (.mkif 139 (.c (.int .i64 (.ofNat 1)))),
   .p p6 (.mv (.t p65)),
   .p p7 (.mv (.t p66))])
   .ret) .skip))
   (.seq (.reg [.p p67 (.mv (.t p9)),
   .p p68 (.convI .i64 (.t p67)),
   .p p11 (.mv (.t p68))])
   (.seq (.seq (.reg [.p p69 (.mv (.t p8))])
   (.cond (.t p69) (.reg [.p p70 (.mv (.t p11)),
   .p p71 (.neg (.t p70)),
   .p p11 (.mv (.t p71))]) .skip))
   (.seq (.reg [.p p72 (.mv (.t p11)),
   .p p6 (.mv (.t p72)),
   .p p7 (.mv (.c (.nili)))])
   .ret))))))))))))))
   [.t p6, .t p7]
/- strconv.syntaxError -/
def a87 : AF :=
  .code [p0, p1] (.seq (.reg [.p p4 (.mv (.c (.nilp)))])
   (.seq (.dreg [(.p p5 (.mv (.t p0)), 0), (.p p6 (.mv (.t p1)), 0), (.p p7 (.call 97 [(.t p6)]), 2), (.p p8 (.load1 (.c (.ptr 4 0))), 0), (.p p9 (.build [([], 1, (.t p5)), ([], 1, (.t p7)), ([], 1, (.t p8))] []), 15), (.p p10 (.box 157 (.t p9)), 31), (.p p4 (.mv (.t p10)), 63)])
   .ret))
   [.t p4]
/- strconv.rangeError -/
def a88 : AF :=
  .code [p0, p1] (.seq (.reg [.p p4 (.mv (.c (.nilp)))])
   (.seq (.dreg [(.p p5 (.mv (.t p0)), 0), (.p p6 (.mv (.t p1)), 0), (.p p7 (.call 97 [(.t p6)]), 2), (.p p8 (.load1 (.c (.ptr 5 0))), 0), (.p p9 (.build [([], 1, (.t p5)), ([], 1, (.t p7)), ([], 1, (.t p8))] []), 15), (.p p10 (.box 157 (.t p9)), 31), (.p p4 (.mv (.t p10)), 63)])
   .ret))
   [.t p4]
/- strconv.baseError -/
def a89 : AF :=
  .code [p0, p1, p2] (.seq (.reg [.p p6 (.mv (.c (.nilp)))])
   (.seq (.reg [.p p7 (.mv (.t p0)),
   .p p8 (.mv (.t p1)),
   .p p9 (.call 97 [(.t p8)]),
   .p p10 (.mv (.t p2)),
   .p p11 (.call 48 [(.t p10)]),
   .p p12 (.bin .add (.c (.str 13 2566698672797334201289919589993)) (.t p11)),
   .p p13 (.call 98 [(.t p12)]),
   .p p14 (.build [([], 1, (.t p7)), ([], 1, (.t p9)), ([], 1, (.t p13))] []),
   .p p15 (.box 157 (.t p14)),
   .p p6 (.mv (.t p15))])
   .ret))
   [.t p6]
/- strconv.bitSizeError -/
def a90 : AF :=
  .code [p0, p1, p2] (.seq (.reg [.p p6 (.mv (.c (.nilp)))])
   (.seq (.reg [.p p7 (.mv (.t p0)),
   .p p8 (.mv (.t p1)),
   .p p9 (.call 97 [(.t p8)]),
   .p p10 (.mv (.t p2)),
   .p p11 (.call 48 [(.t p10)]),
   .p p12 (.bin .add (.c (.str 17 11023923368035339908895700075316841442921)) (.t p11)),
   .p p13 (.call 98 [(.t p12)]),
   .p p14 (.build [([], 1, (.t p7)), ([], 1, (.t p9)), ([], 1, (.t p13))] []),
   .p p15 (.box 157 (.t p14)),
   .p p6 (.mv (.t p15))])
   .ret))
   [.t p6]
/- internal/strconv.FormatInt -/
def a91 : AF :=
  .code [p0, p1] (.seq (.reg [.p p4 (.mv (.c (.str 0 0)))])
   (.seq (.seq (.reg [.p p10 (.mv (.t p1)),
   .p p11 (.bin .eql (.t p10) (.c (.int .i64 (.ofNat 10))))])
   (.cond (.t p11) (.seq (.seq (.reg [.p p12 (.mv (.t p0)),
   .p p13 (.bin .leq (.c (.int .i64 (.ofNat 0))) (.t p12)),
   .p p14 (.mv (.t p13)),
   .g p15 (.mv (.t p0)) p14 true,
   .g p16 (.bin .lss (.t p15) (.c (.int .i64 (.ofNat 100)))) p14 true,
   .p p17 (.pick (.t p14) (.t p16) (.c (.bool false)))])
   (.cond (.t p17) (.seq (.reg [.p p18 (.mv (.t p0)),
   .p p19 (.call 99 [(.t p18)]),
   .p p4 (.mv (.t p19))])
   .ret) .skip))
   (.seq (.reg [.p p5 (.alloc 159 [.int .u8 (.ofNat 0), .int .u8 (.ofNat 0), .int .u8 (.ofNat 0), .int .u8 (.ofNat 0), .int .u8 (.ofNat 0), .int .u8 (.ofNat 0), .int .u8 (.ofNat 0), .int .u8 (.ofNat 0), .int .u8 (.ofNat 0), .int .u8 (.ofNat 0), .int .u8 (.ofNat 0), .int .u8 (.ofNat 0), .int .u8 (.ofNat 0), .int .u8 (.ofNat 0), .int .u8 (.ofNat 0), .int .u8 (.ofNat 0), .int .u8 (.ofNat 0), .int .u8 (.ofNat 0), .int .u8 (.ofNat 0), .int .u8 (.ofNat 0), .int .u8 (.ofNat 0), .int .u8 (.ofNat 0), .int .u8 (.ofNat 0), .int .u8 (.ofNat 0)])])
   (.seq (.reg [.p p20 (.mv (.t p0)),
   .p p21 (.convI .u64 (.t p20)),
   .p p6 (.mv (.t p21))])
   (.seq (.seq (.reg [.p p22 (.mv (.t p0)),
   .p p23 (.bin .lss (.t p22) (.c (.int .i64 (.ofNat 0))))])
   (.cond (.t p23) (.reg [.p p24 (.mv (.t p6)),
   .p p25 (.neg (.t p24)),
   .p p6 (.mv (.t p25))]) .skip))
   (.seq (.reg [.p p26 (.mv (.t p6)),
   .p p27 (.call 100 [(.t p26)]),
   .p p7 (.mv (.t p27))])
   (.seq (.reg [.p p28 (.mv (.t p7)),
   .p p29 (.bin .add (.c (.int .i64 (.ofNat 1))) (.t p28)),
   .p p30 (.sliceA 24 1 (.t p5) (some (.c (.int .i64 (.ofNat 1)))) (some (.t p29)) none),
   .p p31 (.mv (.t p6)),
   .p p32 (.call 101 [(.t p30), (.t p31)])])
   (.seq (.seq (.reg [.p p33 (.mv (.t p0)),
   .p p34 (.bin .lss (.t p33) (.c (.int .i64 (.ofNat 0))))])
   (.cond (.t p34) (.seq (.reg [.p p35 (.iaddrA 24 1 (.t p5) (.c (.int .i64 (.ofNat 0)))),
   .n (.store 1 (.t p35) (.c (.int .u8 (.ofNat 45))))])
   (.seq (.reg [.p p36 (.mv (.t p7)),
   .p p37 (.bin .add (.c (.int .i64 (.ofNat 1))) (.t p36)),
   .p p38 (.sliceA 24 1 (.t p5) none (some (.t p37)) none),
   .p p39 (.convBS (.t p38)),
   .p p4 (.mv (.t p39))])
   .ret)) .skip))
   (.seq (.reg [.p p40 (.mv (.t p7)),
   .p p41 (.bin .add (.c (.int .i64 (.ofNat 1))) (.t p40)),
   .p p42 (.sliceA 24 1 (.t p5) (some (.c (.int .i64 (.ofNat 1)))) (some (.t p41)) none),
   .p p43 (.convBS (.t p42)),
   .p p4 (.mv (.t p43))])
   .ret)))))))) .skip))
   (.seq (.reg [.p p45 (.mv (.t p0)),
   .p p46 (.convI .u64 (.t p45)),
   .p p47 (.mv (.t p1)),
   .p p48 (.mv (.t p0)),
   .p p49 (.bin .lss (.t p48) (.c (.int .i64 (.ofNat 0)))),
   .p p50 (.call 102 [(.c (.nils)), (.t p46), (.t p47), (.t p49), (.c (.bool false))]),
   .p p44 (.mv (.t p50)),
   .p p51 (.extract 0 (.t p44)),
   .p p52 (.extract 1 (.t p44)),
   .p p8 (.mv (.t p51)),
   .p p9 (.mv (.t p52))])
   (.seq (.reg [.p p53 (.mv (.t p9)),
   .p p4 (.mv (.t p53))])
   .ret))))
   [.t p4]
/- (*strings.Builder).grow -/
def a92 : AF :=
  .code [p0, p1] (.seq (.dreg [(.p p5 (.mv (.t p0)), 0), (.p p6 (.nilck (.t p5)), 1), (.p p7 (.faddr 1 (.t p6)), 3), (.p p8 (.load1 (.t p7)), 7), (.p p9 (.cap (.t p8)), 15), (.p p10 (.bin .mul (.c (.int .i64 (.ofNat 2))) (.t p9)), 31), (.p p11 (.mv (.t p1)), 0), (.p p12 (.bin .add (.t p10) (.t p11)), 127), (.p p13 (.call 103 [(.t p12)]), 255), (.p p14 (.mv (.t p0)), 0), (.p p15 (.nilck (.t p14)), 512), (.p p16 (.faddr 1 (.t p15)), 1536), (.p p17 (.load1 (.t p16)), 3584), (.p p18 (.lenSlc (.t p17)), 7680), (.p p19 (.sliceS 1 (.t p13) none (some (.t p18)) none), 16383), (.p p4 (.mv (.t p19)), 32767)])
   (.seq (.reg [.p p20 (.mv (.t p4)),
   .p p21 (.mv (.t p0)),
   .p p22 (.nilck (.t p21)),
   .p p23 (.faddr 1 (.t p22)),
   .p p24 (.load1 (.t p23)),
   .p p25 (.copy 1 (.t p20) (.t p24))])
   (.reg [.p p26 (.mv (.t p0)),
   .p p27 (.mv (.t p4)),
   .p p28 (.nilck (.t p26)),
   .p p29 (.faddr 1 (.t p28)),
   .n (.store 1 (.t p29) (.t p27))])))
   []
/- unicode/utf8.RuneStart -/
def a93 : AF :=
  .code [p0] (.seq (.reg [.p p2 (.mv (.c (.bool false)))])
   (.seq (.reg [.p p3 (.mv (.t p0)),
   .p p4 (.bin .and (.t p3) (.c (.int .u8 (.ofNat 192)))),
   .p p5 (.bin .neq (.t p4) (.c (.int .u8 (.ofNat 128)))),
   .p p2 (.mv (.t p5))])
   .ret))
   [.t p2]
/- internal/bytealg.hashStr[string] -/
def a94 : AF :=
  .code [p0] (.seq (.reg [.p p2 (.mv (.c (.int .u32 (.ofNat 0)))),
   .p p3 (.mv (.c (.int .u32 (.ofNat 0))))])
   (.seq (.reg [.p p4 (.mv (.c (.int .u32 (.ofNat 0))))])
   (.seq (.seq (.reg [.p p5 (.mv (.c (.int .i64 (.ofNat 0))))])
   (.block 0 (.loop (.seq (.seq (.reg [.p p9 (.mv (.t p5)),
   .p p10 (.mv (.t p0)),
   .p p11 (.lenStr (.t p10)),
   .p p12 (.bin .lss (.t p9) (.t p11))])
   (.cond (.t p12) .skip (.exit 0)))
   (.seq (.block 1 (.reg [.p p15 (.mv (.t p4)),
   .p p16 (.bin .mul (.t p15) (.c (.int .u32 (.ofNat 16777619)))),
   .p p17 (.mv (.t p0)),
   .p p18 (.mv (.t p5)),
   .p p19 (.idxStr (.t p17) (.t p18)),
   .p p20 (.convI .u32 (.t p19)),
   .p p21 (.bin .add (.t p16) (.t p20)),
   .p p4 (.mv (.t p21))]))
   (.reg [.p p13 (.mv (.t p5)),
   .p p14 (.bin .add (.t p13) (.c (.int .i64 (.ofNat 1)))),
   .p p5 (.mv (.t p14))]))))))
   (.seq (.reg [.p p6 (.mv (.c (.int .u32 (.ofNat 1)))),
   .p p7 (.mv (.c (.int .u32 (.ofNat 16777619))))])
   (.seq (.seq (.reg [.p p22 (.mv (.t p0)),
   .p p23 (.lenStr (.t p22)),
   .p p8 (.mv (.t p23))])
   (.block 2 (.loop (.seq (.seq (.reg [.p p24 (.mv (.t p8)),
   .p p25 (.bin .gtr (.t p24) (.c (.int .i64 (.ofNat 0))))])
   (.cond (.t p25) .skip (.exit 2)))
   (.seq (.block 3 (.seq (.seq (.reg [.p p28 (.mv (.t p8)),
   .p p29 (.bin .and (.t p28) (.c (.int .i64 (.ofNat 1)))),
   .p p30 (.bin .neq (.t p29) (.c (.int .i64 (.ofNat 0))))])
   (.cond (.t p30) (.reg [.p p31 (.mv (.t p6)),
   .p p32 (.mv (.t p7)),
   .p p33 (.bin .mul (.t p31) (.t p32)),
   .p p6 (.mv (.t p33))]) .skip))
   (.reg [.p p34 (.mv (.t p7)),
   .p p35 (.mv (.t p7)),
   .p p36 (.bin .mul (.t p34) (.t p35)),
   .p p7 (.mv (.t p36))])))
   (.reg [.p p26 (.mv (.t p8)),
   .p p27 (.shf false (.t p26) (.c (.int .u64 (.ofNat 1)))),
   .p p8 (.mv (.t p27))]))))))
   (.seq (.reg [.p p37 (.mv (.t p4)),
   .p p38 (.mv (.t p6)),
   .p p2 (.mv (.t p37)),
   .p p3 (.mv (.t p38))])
   .ret))))))
   [.t p2, .t p3]
/- unicode/utf8.ValidRune -/
def a95 : AF :=
  .code [p0] (.seq (.reg [.p p2 (.mv (.c (.bool false)))])
   (.seq (.block 0 (.seq (.reg [.p p4 (.mv (.t p0)),
   .p p5 (.bin .leq (.c (.int .i32 (.ofNat 0))) (.t p4)),
   .p p6 (.mv (.t p5)),
   .g p7 (.mv (.t p0)) p6 true,
   .g p8 (.bin .lss (.t p7) (.c (.int .i32 (.ofNat 55296)))) p6 true,
   .p p9 (.pick (.t p6) (.t p8) (.c (.bool false))),
   .p p3 (.mv (.t p9))])
   (.cond (.t p3) (.seq (.reg [.p p2 (.mv (.c (.bool true)))])
   .ret) (.seq (.reg [.p p11 (.mv (.t p0)),
   .p p12 (.bin .lss (.c (.int .i32 (.ofNat 57343))) (.t p11)),
   .p p13 (.mv (.t p12)),
   .g p14 (.mv (.t p0)) p13 true,
   .g p15 (.bin .leq (.t p14) (.c (.int .i32 (.ofNat 1114111)))) p13 true,
   .p p16 (.pick (.t p13) (.t p15) (.c (.bool false))),
   .p p10 (.mv (.t p16))])
   (.cond (.t p10) (.seq (.reg [.p p2 (.mv (.c (.bool true)))])
   .ret) .skip)))))
   (.seq (.reg [.p p2 (.mv (.c (.bool false)))])
   .ret)))
   [.t p2]
/- internal/strconv.ParseUint -/
def a96 : AF :=
  .code [p0, p1, p2] (.seq (.reg [.p p6 (.mv (.c (.int .u64 (.ofNat 0)))),
   .p p7 (.mv (.c (.nili)))])
   (.seq (.seq (.reg [.p p18 (.mv (.t p0)),
   .p p19 (.bin .eql (.t p18) (.c (.str 0 0)))])
   (.cond (.t p19) (.seq (.reg [.p p20 (.mkif 139 (.c (.int .i64 (.ofNat 2)))),
   .p p6 (.mv (.c (.int .u64 (.ofNat 0)))),
   .p p7 (.mv (.t p20))])
   .ret) .skip))
   (.seq (.reg [.p p21 (.mv (.t p1)),
   .p p22 (.bin .eql (.t p21) (.c (.int .i64 (.ofNat 0)))),
   .p p8 (.mv (.t p22))])
   (.seq (.reg [.p p23 (.mv (.t p0)),
   .p p9 (.mv (.t p23))])
   (.seq (.block 0 (.seq (.reg [.p p26 (.mv (.t p1)),
   .p p27 (.bin .leq (.c (.int .i64 (.ofNat 2))) (.t p26)),
   .p p28 (.mv (.t p27)),
   .g p29 (.mv (.t p1)) p28 true,
   .g p30 (.bin .leq (.t p29) (.c (.int .i64 (.ofNat 36)))) p28 true,
   .p p31 (.pick (.t p28) (.t p30) (.c (.bool false))),
   .p p25 (.mv (.t p31))])
   (.cond (.t p25) .skip (.seq (.reg [.p p33 (.mv (.t p1)),
   .p p34 (.bin .eql (.t p33) (.c (.int .i64 (.ofNat 0)))),
   .p p32 (.mv (.t p34))])
   (.cond (.t p32) (.seq (.reg [.p p1 (.mv (.c (.int .i64 (.ofNat 10))))])
   (.seq (.reg [.p p35 (.mv (.t p0)),
   .p p36 (.idxStr (.t p35) (.c (.int .i64 (.ofNat 0)))),
   .p p37 (.bin .eql (.t p36) (.c (.int .u8 (.ofNat 48))))])
   (.cond (.t p37) (.block 1 (.seq (.reg [.p p41 (.mv (.t p0)),
   .p p42 (.lenStr (.t p41)),
   .p p43 (.bin .geq (.t p42) (.c (.int .i64 (.ofNat 3)))),
   .p p44 (.mv (.t p43)),
   .g p45 (.mv (.t p0)) p44 true,
   .g p46 (.idxStr (.t p45) (.c (.int .i64 (.ofNat 1)))) p44 true,
   .g p47 (.call 104 [(.t p46)]) p44 true,
   .g p48 (.bin .eql (.t p47) (.c (.int .u8 (.ofNat 98)))) p44 true,
   .p p49 (.pick (.t p44) (.t p48) (.c (.bool false))),
   .p p40 (.mv (.t p49))])
   (.cond (.t p40) (.seq (.reg [.p p1 (.mv (.c (.int .i64 (.ofNat 2))))])
   (.reg [.p p50 (.mv (.t p0)),
   .p p51 (.sliceStr (.t p50) (some (.c (.int .i64 (.ofNat 2)))) none),
   .p p0 (.mv (.t p51))])) (.seq (.reg [.p p53 (.mv (.t p0)),
   .p p54 (.lenStr (.t p53)),
   .p p55 (.bin .geq (.t p54) (.c (.int .i64 (.ofNat 3)))),
   .p p56 (.mv (.t p55)),
   .g p57 (.mv (.t p0)) p56 true,
   .g p58 (.idxStr (.t p57) (.c (.int .i64 (.ofNat 1)))) p56 true,
   .g p59 (.call 104 [(.t p58)]) p56 true,
   .g p60 (.bin .eql (.t p59) (.c (.int .u8 (.ofNat 111)))) p56 true,
   .p p61 (.pick (.t p56) (.t p60) (.c (.bool false))),
   .p p52 (.mv (.t p61))])
   (.cond (.t p52) (.seq (.reg [.p p1 (.mv (.c (.int .i64 (.ofNat 8))))])
   (.reg [.p p62 (.mv (.t p0)),
   .p p63 (.sliceStr (.t p62) (some (.c (.int .i64 (.ofNat 2)))) none),
   .p p0 (.mv (.t p63))])) (.seq (.reg [.p p65 (.mv (.t p0)),
   .p p66 (.lenStr (.t p65)),
   .p p67 (.bin .geq (.t p66) (.c (.int .i64 (.ofNat 3)))),
   .p p68 (.mv (.t p67)),
   .g p69 (.mv (.t p0)) p68 true,
   .g p70 (.idxStr (.t p69) (.c (.int .i64 (.ofNat 1)))) p68 true,
   .g p71 (.call 104 [(.t p70)]) p68 true,
   .g p72 (.bin .eql (.t p71) (.c (.int .u8 (.ofNat 120)))) p68 true,
   .p p73 (.pick (.t p68) (.t p72) (.c (.bool false))),
   .p p64 (.mv (.t p73))])
   (.cond (.t p64) (.seq (.reg [.p p1 (.mv (.c (.int .i64 (.ofNat 16))))])
   (.reg [.p p74 (.mv (.t p0)),
   .p p75 (.sliceStr (.t p74) (some (.c (.int .i64 (.ofNat 2)))) none),
   .p p0 (.mv (.t p75))])) (.seq (.reg [.p p1 (.mv (.c (.int .i64 (.ofNat 8))))])
   (.reg [.p p38 (.mv (.t p0)),
   .p p39 (.sliceStr (.t p38) (some (.c (.int .i64 (.ofNat 1)))) none),
   .p p0 (.mv (.t p39))]))))))))) .skip))) (.seq (.reg [.p p24 (.mkif 139 (.c (.int .i64 (.ofNat 3)))),
   .p p6 (.mv (.c (.int .u64 (.ofNat 0)))),
   .p p7 (.mv (.t p24))])
   .ret))))))
   (.seq (.seq (.reg [.p p76 (.mv (.t p2)),
   .p p77 (.bin .eql (.t p76) (.c (.int .i64 (.ofNat 0))))])
   (.cond (.t p77) (.reg [.p p2 (.mv (.c (.int .i64 (.ofNat 64))))]) (.seq (.reg [.p p78 (.mv (.t p2)),
   .p p79 (.bin .lss (.t p78) (.c (.int .i64 (.ofNat 0)))),
   .p p80 (.mv (.t p79)),
   .g p81 (.mv (.t p2)) p80 false,
   .g p82 (.bin .gtr (.t p81) (.c (.int .i64 (.ofNat 64)))) p80 false,
   .p p83 (.pick (.t p80) (.c (.bool true)) (.t p82))])
   (.cond (.t p83) (.seq (.reg [.p p84 (.mkif 139 (.c (.int .i64 (.ofNat 4)))),
   .p p6 (.mv (.c (.int .u64 (.ofNat 0)))),
   .p p7 (.mv (.t p84))])
   .ret) .skip))))
   (.seq (.reg [.p p10 (.mv (.c (.int .u64 (.ofNat 0))))])
   (.seq (.seq (.reg [.p p85 (.mv (.t p1))])
   (.block 2 (.seq (.reg [.p p91 (.bin .eql (.t p85) (.c (.int .i64 (.ofNat 10)))),
   .p p90 (.mv (.t p91))])
   (.cond (.t p90) (.reg [.p p10 (.mv (.c (.int .u64 (.ofNat 1844674407370955162))))]) (.seq (.reg [.p p93 (.bin .eql (.t p85) (.c (.int .i64 (.ofNat 16)))),
   .p p92 (.mv (.t p93))])
   (.cond (.t p92) (.reg [.p p10 (.mv (.c (.int .u64 (.ofNat 1152921504606846976))))]) (.reg [.p p86 (.mv (.t p1)),
   .p p87 (.convI .u64 (.t p86)),
   .p p88 (.bin .quo (.c (.int .u64 (.ofNat 18446744073709551615))) (.t p87)),
   .p p89 (.bin .add (.t p88) (.c (.int .u64 (.ofNat 1)))),
   .p p10 (.mv (.t p89))])))))))
   (.seq (.reg [.p p94 (.mv (.t p2)),
   .p p95 (.convI .u64 (.t p94)),
   .p p96 (.shf true (.c (.int .u64 (.ofNat 1))) (.t p95)),
   .p p97 (.bin .sub (.t p96) (.c (.int .u64 (.ofNat 1)))),
   .p p11 (.mv (.t p97))])
   (.seq (.reg [.p p12 (.mv (.c (.bool false)))])
   (.seq (.reg [.p p13 (.mv (.c (.int .u64 (.ofNat 0))))])
   (.seq (.seq (.reg [.p p98 (.mv (.t p0)),
   .p p99 (.convSB 5 (.t p98)),
   .p p100 (.lenSlc (.t p99)),
   .p p101 (.mv (.c (.int .i64 (.ofNat 0))))])
   (.block 3 (.loop (.seq (.reg [.p p102 (.bin .lss (.t p101) (.t p100))])
   (.seq (.cond (.t p102) .skip (.exit 3))
   (.seq (.block 4 (.seq (.reg [.p p103 (.iaddrS 1 (.t p99) (.t p101)),
   .p p104 (.load1 (.t p103)),
   .p p15 (.mv (.t p104))])
   (.seq (.reg [.p p16 (.mv (.c (.int .u8 (.ofNat 0))))])
   (.seq (.block 5 (.seq (.reg [.p p107 (.mv (.t p15)),
   .p p108 (.bin .eql (.t p107) (.c (.int .u8 (.ofNat 95)))),
   .p p109 (.mv (.t p108)),
   .g p110 (.mv (.t p8)) p109 true,
   .p p111 (.pick (.t p109) (.t p110) (.c (.bool false))),
   .p p106 (.mv (.t p111))])
   (.cond (.t p106) (.seq (.reg [.p p12 (.mv (.c (.bool true)))])
   (.exit 4)) (.seq (.reg [.p p113 (.mv (.t p15)),
   .p p114 (.bin .leq (.c (.int .u8 (.ofNat 48))) (.t p113)),
   .p p115 (.mv (.t p114)),
   .g p116 (.mv (.t p15)) p115 true,
   .g p117 (.bin .leq (.t p116) (.c (.int .u8 (.ofNat 57)))) p115 true,
   .p p118 (.pick (.t p115) (.t p117) (.c (.bool false))),
   .p p112 (.mv (.t p118))])
   (.cond (.t p112) (.reg [.p p119 (.mv (.t p15)),
   .p p120 (.bin .sub (.t p119) (.c (.int .u8 (.ofNat 48)))),
   .p p16 (.mv (.t p120))]) (.seq (.reg [.p p122 (.mv (.t p15)),
   .p p123 (.call 104 [(.t p122)]),
   .p p124 (.bin .leq (.c (.int .u8 (.ofNat 97))) (.t p123)),
   .p p125 (.mv (.t p124)),
   .g p126 (.mv (.t p15)) p125 true,
   .g p127 (.call 104 [(.t p126)]) p125 true,
   .g p128 (.bin .leq (.t p127) (.c (.int .u8 (.ofNat 122)))) p125 true,
   .p p129 (.pick (.t p125) (.t p128) (.c (.bool false))),
   .p p121 (.mv (.t p129))])
   (.cond (.t p121) (.reg [.p p130 (.mv (.t p15)),
   .p p131 (.call 104 [(.t p130)]),
   .p p132 (.bin .sub (.t p131) (.c (.int .u8 (.ofNat 97)))),
   .p p133 (.bin .add (.t p132) (.c (.int .u8 (.ofNat 10)))),
   .p p16 (.mv (.t p133))]) (.seq (.reg [.p p105 (.mkif 139 (.c (.int .i64 (.ofNat 2)))),
   .p p6 (.mv (.c (.int .u64 (.ofNat 0)))),
   .p p7 (.mv (.t p105))])
   .ret))))))))
   (.seq (.seq (.reg [.p p134 (.mv (.t p16)),
   .p p135 (.mv (.t p1)),
   .p p136 (.convI .u8 (.t p135)),
   .p p137 (.bin .geq (.t p134) (.t p136))])
   (.cond (.t p137) (.seq (.reg [.p p138 (.mkif 139 (.c (.int .i64 (.ofNat 2)))),
   .p p6 (.mv (.c (.int .u64 (.ofNat 0)))),
   .p p7 (.mv (.t p138))])
   .ret) .skip))
   (.seq (.seq (.reg [.p p139 (.mv (.t p13)),
   .p p140 (.mv (.t p10)),
   .p p141 (.bin .geq (.t p139) (.t p140))])
   (.cond (.t p141) (.seq (.reg [.p p142 (.mv (.t p11)),
   .p p143 (.mkif 139 (.c (.int .i64 (.ofNat 1)))),
   .p p6 (.mv (.t p142)),
   .p p7 (.mv (.t p143))])
   .ret) .skip))
   (.seq (.reg [.p p144 (.mv (.t p13)),
   .p p145 (.mv (.t p1)),
   .p p146 (.convI .u64 (.t p145)),
   .p p147 (.bin .mul (.t p144) (.t p146)),
   .p p13 (.mv (.t p147))])
   (.seq (.reg [.p p148 (.mv (.t p13)),
   .p p149 (.mv (.t p16)),
   .p p150 (.convI .u64 (.t p149)),
   .p p151 (.bin .add (.t p148) (.t p150)),
   .p p17 (.mv (.t p151))])
   (.seq (.seq (.reg [.p p152 (.mv (.t p17)),
   .p p153 (.mv (.t p13)),
   .p p154 (.bin .lss (.t p152) (.t p153)),
   .p p155 (.mv (.t p154)),
   .g p156 (.mv (.t p17)) p155 false,
   .g p157 (.mv (.t p11)) p155 false,
   .g p158 (.bin .gtr (.t p156) (.t p157)) p155 false,
   .p p159 (.pick (.t p155) (.c (.bool true)) (.t p158))])
   (.cond (.t p159) (.seq (.reg [.p p160 (.mv (.t p11)),
   .p p161 (.mkif 139 (.c (.int .i64 (.ofNat 1)))),
   .p p6 (.mv (.t p160)),
   .p p7 (.mv (.t p161))])
   .ret) .skip))
   (.reg [.p p162 (.mv (.t p17)),
   .p p13 (.mv (.t p162))]))))))))))
   (.reg [.p p163 (.bin .add (.t p101) (.c (.int .i64 (.ofNat 1)))),
   .p p101 (.mv (.t p163))])))))))
   (.seq (.seq (.reg [.p p164 (.mv (.t p12)),
   .p p165 (.mv (.t p164)),
   .g p166 (.mv (.t p9)) p165 true,
   .g p167 (.call 105 [(.t p166)]) p165 true,
   .g p168 (.not (.t p167)) p165 true,
   .p p169 (.pick (.t p165) (.t p168) (.c (.bool false)))])
   (.cond (.t p169) (.seq (.reg [.p p170 (.mkif 139 (.c (.int .i64 (.ofNat 2)))),
   .p p6 (.mv (.c (.int .u64 (.ofNat 0)))),
   .p p7 (.mv (.t p170))])
   .ret) .skip))
   (.seq (.reg [.p p171 (.mv (.t p13)),
   .p p6 (.mv (.t p171)),
   .p p7 (.mv (.c (.nili)))])
   .ret))))))))))))))
   [.t p6, .t p7]
/- internal/stringslite.Clone -/
def a97 : AF :=
  .code [p0] (.seq (.reg [.p p2 (.mv (.c (.str 0 0)))])
   (.seq (.seq (.reg [.p p4 (.mv (.t p0)),
   .p p5 (.lenStr (.t p4)),
   .p p6 (.bin .eql (.t p5) (.c (.int .i64 (.ofNat 0))))])
   (.cond (.t p6) (.seq (.reg [.p p2 (.mv (.c (.str 0 0)))])
   .ret) .skip))
   (.seq (.reg [.p p7 (.mv (.t p0)),
   .p p8 (.lenStr (.t p7)),
   .p p9 (.mkslice 5 1 1 [.int .u8 (.ofNat 0)] (.t p8) (.t p8)),
   .p p3 (.mv (.t p9))])
   (.seq (.reg [.p p10 (.mv (.t p3)),
   .p p11 (.mv (.t p0)),
   .p p12 (.copy 1 (.t p10) (.t p11))])
   (.seq (.reg [.p p13 (.mv (.t p3)),
   .p p14 (.iaddrS 1 (.t p13) (.c (.int .i64 (.ofNat 0)))),
   .p p15 (.mv (.t p3)),
   .p p16 (.lenSlc (.t p15)),
   .p p17 (.ustr 5 (.t p14) (.t p16)),
   .p p2 (.mv (.t p17))])
   .ret)))))
   [.t p2]
/- errors.New -/
def a98 : AF :=
  .code [p0] (.seq (.reg [.p p2 (.mv (.c (.nili)))])
   (.seq (.reg [.p p3 (.mv (.t p0)),
   .p p4 (.build [([], 1, (.t p3))] []),
   .p p5 (.box 168 (.t p4)),
   .p p6 (.mkif 166 (.t p5)),
   .p p2 (.mv (.t p6))])
   .ret))
   [.t p2]
/- internal/strconv.small -/
def a99 : AF :=
  .code [p0] (.seq (.reg [.p p2 (.mv (.c (.str 0 0)))])
   (.seq (.seq (.reg [.p p3 (.mv (.t p0)),
   .p p4 (.bin .lss (.t p3) (.c (.int .i64 (.ofNat 10))))])
   (.cond (.t p4) (.seq (.reg [.p p5 (.mv (.t p0)),
   .p p6 (.mv (.t p0)),
   .p p7 (.bin .add (.t p6) (.c (.int .i64 (.ofNat 1)))),
   .p p8 (.sliceStr (.c (.str 36 237927390410950444456928663707796224754864904193074819559483181009558347043374296609072)) (some (.t p5)) (some (.t p7))),
   .p p2 (.mv (.t p8))])
   .ret) .skip))
   (.seq (.reg [.p p9 (.mv (.t p0)),
   .p p10 (.bin .mul (.t p9) (.c (.int .i64 (.ofNat 2)))),
   .p p11 (.mv (.t p0)),
   .p p12 (.bin .mul (.t p11) (.c (.int .i64 (.ofNat 2)))),
   .p p13 (.bin .add (.t p12) (.c (.int .i64 (.ofNat 2)))),
   .p p14 (.sliceStr (.c (.str 200 9938655150514779720929161263213647789093395803754561035662628441001274968862597953692946393464194303251501229616933063375291039650253924995779037586872666250072396106842829501851083234932712366962979930255066872747696324303968523733872590022915936937156789320557469720923390131174387415513794469201054844961267015441141542819553679203788501627738430154234325528792480477051962324423099068299719245009424585859096469223093538032153047611602695245052081125123941502624659711709950000)) (some (.t p10)) (some (.t p13))),
   .p p2 (.mv (.t p14))])
   .ret)))
   [.t p2]
/- internal/strconv.numDigits -/
def a100 : AF :=
  .code [p0] (.seq (.reg [.p p2 (.mv (.c (.int .i64 (.ofNat 0))))])
   (.seq (.reg [.p p4 (.mv (.t p0)),
   .p p5 (.call 107 [(.t p4)]),
   .p p6 (.call 106 [(.t p5)]),
   .p p3 (.mv (.t p6))])
   (.seq (.reg [.p p7 (.mv (.t p3)),
   .p p8 (.mv (.t p0)),
   .p p9 (.mv (.t p3)),
   .p p10 (.iaddrA 20 1 (.c (.ptr 6 0)) (.t p9)),
   .p p11 (.load1 (.t p10)),
   .p p12 (.bin .geq (.t p8) (.t p11)),
   .p p13 (.call 108 [(.t p12)]),
   .p p14 (.bin .add (.t p7) (.t p13)),
   .p p2 (.mv (.t p14))])
   .ret)))
   [.t p2]
/- internal/strconv.formatBase10 -/
def a101 : AF :=
  .code [p0, p1] (.seq (.reg [.p p17 (.mv (.t p0)),
   .p p18 (.lenSlc (.t p17)),
   .p p4 (.mv (.t p18))])
   (.seq (.block 0 (.loop (.seq (.seq (.reg [.p p19 (.mv (.t p4)),
   .p p20 (.bin .geq (.t p19) (.c (.int .i64 (.ofNat 8))))])
   (.cond (.t p20) .skip (.exit 0)))
   (.block 1 (.seq (.reg [.p p21 (.mv (.t p1)),
   .p p22 (.bin .rem (.t p21) (.c (.int .u64 (.ofNat 100000000)))),
   .p p23 (.convI .u32 (.t p22)),
   .p p5 (.mv (.t p23))])
   (.seq (.reg [.p p24 (.mv (.t p1)),
   .p p25 (.bin .quo (.t p24) (.c (.int .u64 (.ofNat 100000000)))),
   .p p1 (.mv (.t p25))])
   (.seq (.reg [.p p26 (.mv (.t p5)),
   .p p27 (.bin .quo (.t p26) (.c (.int .u32 (.ofNat 10000)))),
   .p p28 (.mv (.t p5)),
   .p p29 (.bin .rem (.t p28) (.c (.int .u32 (.ofNat 10000)))),
   .p p6 (.mv (.t p27)),
   .p p7 (.mv (.t p29))])
   (.seq (.reg [.p p30 (.mv (.t p7)),
   .p p31 (.bin .quo (.t p30) (.c (.int .u32 (.ofNat 100)))),
   .p p32 (.bin .mul (.t p31) (.c (.int .u32 (.ofNat 2)))),
   .p p33 (.mv (.t p7)),
   .p p34 (.bin .rem (.t p33) (.c (.int .u32 (.ofNat 100)))),
   .p p35 (.bin .mul (.t p34) (.c (.int .u32 (.ofNat 2)))),
   .p p8 (.mv (.t p32)),
   .p p9 (.mv (.t p35))])
   (.seq (.reg [.p p36 (.mv (.t p6)),
   .p p37 (.bin .quo (.t p36) (.c (.int .u32 (.ofNat 100)))),
   .p p38 (.bin .mul (.t p37) (.c (.int .u32 (.ofNat 2)))),
   .p p39 (.mv (.t p6)),
   .p p40 (.bin .rem (.t p39) (.c (.int .u32 (.ofNat 100)))),
   .p p41 (.bin .mul (.t p40) (.c (.int .u32 (.ofNat 2)))),
   .p p10 (.mv (.t p38)),
   .p p11 (.mv (.t p41))])
   (.seq (.dreg [(.p p42 (.mv (.t p0)), 0), (.p p43 (.mv (.t p4)), 0), (.p p44 (.bin .sub (.t p43) (.c (.int .i64 (.ofNat 1)))), 2), (.p p45 (.mv (.t p0)), 0), (.p p46 (.mv (.t p4)), 0), (.p p47 (.bin .sub (.t p46) (.c (.int .i64 (.ofNat 2)))), 16), (.p p48 (.mv (.t p9)), 0), (.p p49 (.bin .add (.t p48) (.c (.int .u32 (.ofNat 1)))), 64), (.p p50 (.idxStr (.c (.str 200 9938655150514779720929161263213647789093395803754561035662628441001274968862597953692946393464194303251501229616933063375291039650253924995779037586872666250072396106842829501851083234932712366962979930255066872747696324303968523733872590022915936937156789320557469720923390131174387415513794469201054844961267015441141542819553679203788501627738430154234325528792480477051962324423099068299719245009424585859096469223093538032153047611602695245052081125123941502624659711709950000)) (.t p49)), 192), (.p p51 (.mv (.t p9)), 0), (.p p52 (.idxStr (.c (.str 200 9938655150514779720929161263213647789093395803754561035662628441001274968862597953692946393464194303251501229616933063375291039650253924995779037586872666250072396106842829501851083234932712366962979930255066872747696324303968523733872590022915936937156789320557469720923390131174387415513794469201054844961267015441141542819553679203788501627738430154234325528792480477051962324423099068299719245009424585859096469223093538032153047611602695245052081125123941502624659711709950000)) (.t p51)), 512), (.p p53 (.iaddrS 1 (.t p42) (.t p44)), 455), (.n (.store 1 (.t p53) (.t p50)), 2503), (.p p54 (.iaddrS 1 (.t p45) (.t p47)), 8191), (.n (.store 1 (.t p54) (.t p52)), 16383)])
   (.seq (.dreg [(.p p55 (.mv (.t p0)), 0), (.p p56 (.mv (.t p4)), 0), (.p p57 (.bin .sub (.t p56) (.c (.int .i64 (.ofNat 3)))), 2), (.p p58 (.mv (.t p0)), 0), (.p p59 (.mv (.t p4)), 0), (.p p60 (.bin .sub (.t p59) (.c (.int .i64 (.ofNat 4)))), 16), (.p p61 (.mv (.t p8)), 0), (.p p62 (.bin .add (.t p61) (.c (.int .u32 (.ofNat 1)))), 64), (.p p63 (.idxStr (.c (.str 200 9938655150514779720929161263213647789093395803754561035662628441001274968862597953692946393464194303251501229616933063375291039650253924995779037586872666250072396106842829501851083234932712366962979930255066872747696324303968523733872590022915936937156789320557469720923390131174387415513794469201054844961267015441141542819553679203788501627738430154234325528792480477051962324423099068299719245009424585859096469223093538032153047611602695245052081125123941502624659711709950000)) (.t p62)), 192), (.p p64 (.mv (.t p8)), 0), (.p p65 (.idxStr (.c (.str 200 9938655150514779720929161263213647789093395803754561035662628441001274968862597953692946393464194303251501229616933063375291039650253924995779037586872666250072396106842829501851083234932712366962979930255066872747696324303968523733872590022915936937156789320557469720923390131174387415513794469201054844961267015441141542819553679203788501627738430154234325528792480477051962324423099068299719245009424585859096469223093538032153047611602695245052081125123941502624659711709950000)) (.t p64)), 512), (.p p66 (.iaddrS 1 (.t p55) (.t p57)), 455), (.n (.store 1 (.t p66) (.t p63)), 2503), (.p p67 (.iaddrS 1 (.t p58) (.t p60)), 8191), (.n (.store 1 (.t p67) (.t p65)), 16383)])
   (.seq (.dreg [(.p p68 (.mv (.t p0)), 0), (.p p69 (.mv (.t p4)), 0), (.p p70 (.bin .sub (.t p69) (.c (.int .i64 (.ofNat 5)))), 2), (.p p71 (.mv (.t p0)), 0), (.p p72 (.mv (.t p4)), 0), (.p p73 (.bin .sub (.t p72) (.c (.int .i64 (.ofNat 6)))), 16), (.p p74 (.mv (.t p11)), 0), (.p p75 (.bin .add (.t p74) (.c (.int .u32 (.ofNat 1)))), 64), (.p p76 (.idxStr (.c (.str 200 9938655150514779720929161263213647789093395803754561035662628441001274968862597953692946393464194303251501229616933063375291039650253924995779037586872666250072396106842829501851083234932712366962979930255066872747696324303968523733872590022915936937156789320557469720923390131174387415513794469201054844961267015441141542819553679203788501627738430154234325528792480477051962324423099068299719245009424585859096469223093538032153047611602695245052081125123941502624659711709950000)) (.t p75)), 192), (.p p77 (.mv (.t p11)), 0), (.p p78 (.idxStr (.c (.str 200 9938655150514779720929161263213647789093395803754561035662628441001274968862597953692946393464194303251501229616933063375291039650253924995779037586872666250072396106842829501851083234932712366962979930255066872747696324303968523733872590022915936937156789320557469720923390131174387415513794469201054844961267015441141542819553679203788501627738430154234325528792480477051962324423099068299719245009424585859096469223093538032153047611602695245052081125123941502624659711709950000)) (.t p77)), 512), (.p p79 (.iaddrS 1 (.t p68) (.t p70)), 455), (.n (.store 1 (.t p79) (.t p76)), 2503), (.p p80 (.iaddrS 1 (.t p71) (.t p73)), 8191), (.n (.store 1 (.t p80) (.t p78)), 16383)])
   (.seq (.dreg [(.p p81 (.mv (.t p0)), 0), (.p p82 (.mv (.t p4)), 0), (.p p83 (.bin .sub (.t p82) (.c (.int .i64 (.ofNat 7)))), 2), (.p p84 (.mv (.t p0)), 0), (.p p85 (.mv (.t p4)), 0), (.p p86 (.bin .sub (.t p85) (.c (.int .i64 (.ofNat 8)))), 16), (.p p87 (.mv (.t p10)), 0), (.p p88 (.bin .add (.t p87) (.c (.int .u32 (.ofNat 1)))), 64), (.p p89 (.idxStr (.c (.str 200 9938655150514779720929161263213647789093395803754561035662628441001274968862597953692946393464194303251501229616933063375291039650253924995779037586872666250072396106842829501851083234932712366962979930255066872747696324303968523733872590022915936937156789320557469720923390131174387415513794469201054844961267015441141542819553679203788501627738430154234325528792480477051962324423099068299719245009424585859096469223093538032153047611602695245052081125123941502624659711709950000)) (.t p88)), 192), (.p p90 (.mv (.t p10)), 0), (.p p91 (.idxStr (.c (.str 200 9938655150514779720929161263213647789093395803754561035662628441001274968862597953692946393464194303251501229616933063375291039650253924995779037586872666250072396106842829501851083234932712366962979930255066872747696324303968523733872590022915936937156789320557469720923390131174387415513794469201054844961267015441141542819553679203788501627738430154234325528792480477051962324423099068299719245009424585859096469223093538032153047611602695245052081125123941502624659711709950000)) (.t p90)), 512), (.p p92 (.iaddrS 1 (.t p81) (.t p83)), 455), (.n (.store 1 (.t p92) (.t p89)), 2503), (.p p93 (.iaddrS 1 (.t p84) (.t p86)), 8191), (.n (.store 1 (.t p93) (.t p91)), 16383)])
   (.reg [.p p94 (.mv (.t p4)),
   .p p95 (.bin .sub (.t p94) (.c (.int .i64 (.ofNat 8)))),
   .p p4 (.mv (.t p95))]))))))))))))))
   (.seq (.reg [.p p96 (.mv (.t p1)),
   .p p97 (.convI .u32 (.t p96)),
   .p p12 (.mv (.t p97))])
   (.seq (.seq (.reg [.p p98 (.mv (.t p4)),
   .p p99 (.bin .geq (.t p98) (.c (.int .i64 (.ofNat 4))))])
   (.cond (.t p99) (.seq (.reg [.p p100 (.mv (.t p12)),
   .p p101 (.bin .rem (.t p100) (.c (.int .u32 (.ofNat 10000)))),
   .p p13 (.mv (.t p101))])
   (.seq (.reg [.p p102 (.mv (.t p12)),
   .p p103 (.bin .quo (.t p102) (.c (.int .u32 (.ofNat 10000)))),
   .p p12 (.mv (.t p103))])
   (.seq (.reg [.p p104 (.mv (.t p13)),
   .p p105 (.bin .quo (.t p104) (.c (.int .u32 (.ofNat 100)))),
   .p p106 (.bin .mul (.t p105) (.c (.int .u32 (.ofNat 2)))),
   .p p107 (.mv (.t p13)),
   .p p108 (.bin .rem (.t p107) (.c (.int .u32 (.ofNat 100)))),
   .p p109 (.bin .mul (.t p108) (.c (.int .u32 (.ofNat 2)))),
   .p p14 (.mv (.t p106)),
   .p p15 (.mv (.t p109))])
   (.seq (.dreg [(.p p110 (.mv (.t p0)), 0), (.p p111 (.mv (.t p4)), 0), (.p p112 (.bin .sub (.t p111) (.c (.int .i64 (.ofNat 1)))), 2), (.p p113 (.mv (.t p0)), 0), (.p p114 (.mv (.t p4)), 0), (.p p115 (.bin .sub (.t p114) (.c (.int .i64 (.ofNat 2)))), 16), (.p p116 (.mv (.t p15)), 0), (.p p117 (.bin .add (.t p116) (.c (.int .u32 (.ofNat 1)))), 64), (.p p118 (.idxStr (.c (.str 200 9938655150514779720929161263213647789093395803754561035662628441001274968862597953692946393464194303251501229616933063375291039650253924995779037586872666250072396106842829501851083234932712366962979930255066872747696324303968523733872590022915936937156789320557469720923390131174387415513794469201054844961267015441141542819553679203788501627738430154234325528792480477051962324423099068299719245009424585859096469223093538032153047611602695245052081125123941502624659711709950000)) (.t p117)), 192), (.p p119 (.mv (.t p15)), 0), (.p p120 (.idxStr (.c (.str 200 9938655150514779720929161263213647789093395803754561035662628441001274968862597953692946393464194303251501229616933063375291039650253924995779037586872666250072396106842829501851083234932712366962979930255066872747696324303968523733872590022915936937156789320557469720923390131174387415513794469201054844961267015441141542819553679203788501627738430154234325528792480477051962324423099068299719245009424585859096469223093538032153047611602695245052081125123941502624659711709950000)) (.t p119)), 512), (.p p121 (.iaddrS 1 (.t p110) (.t p112)), 455), (.n (.store 1 (.t p121) (.t p118)), 2503), (.p p122 (.iaddrS 1 (.t p113) (.t p115)), 8191), (.n (.store 1 (.t p122) (.t p120)), 16383)])
   (.seq (.dreg [(.p p123 (.mv (.t p0)), 0), (.p p124 (.mv (.t p4)), 0), (.p p125 (.bin .sub (.t p124) (.c (.int .i64 (.ofNat 3)))), 2), (.p p126 (.mv (.t p0)), 0), (.p p127 (.mv (.t p4)), 0), (.p p128 (.bin .sub (.t p127) (.c (.int .i64 (.ofNat 4)))), 16), (.p p129 (.mv (.t p14)), 0), (.p p130 (.bin .add (.t p129) (.c (.int .u32 (.ofNat 1)))), 64), (.p p131 (.idxStr (.c (.str 200 9938655150514779720929161263213647789093395803754561035662628441001274968862597953692946393464194303251501229616933063375291039650253924995779037586872666250072396106842829501851083234932712366962979930255066872747696324303968523733872590022915936937156789320557469720923390131174387415513794469201054844961267015441141542819553679203788501627738430154234325528792480477051962324423099068299719245009424585859096469223093538032153047611602695245052081125123941502624659711709950000)) (.t p130)), 192), (.p p132 (.mv (.t p14)), 0), (.p p133 (.idxStr (.c (.str 200 9938655150514779720929161263213647789093395803754561035662628441001274968862597953692946393464194303251501229616933063375291039650253924995779037586872666250072396106842829501851083234932712366962979930255066872747696324303968523733872590022915936937156789320557469720923390131174387415513794469201054844961267015441141542819553679203788501627738430154234325528792480477051962324423099068299719245009424585859096469223093538032153047611602695245052081125123941502624659711709950000)) (.t p132)), 512), (.p p134 (.iaddrS 1 (.t p123) (.t p125)), 455), (.n (.store 1 (.t p134) (.t p131)), 2503), (.p p135 (.iaddrS 1 (.t p126) (.t p128)), 8191), (.n (.store 1 (.t p135) (.t p133)), 16383)])
   (.reg [.p p136 (.mv (.t p4)),
   .p p137 (.bin .sub (.t p136) (.c (.int .i64 (.ofNat 4)))),
   .p p4 (.mv (.t p137))])))))) .skip))
   (.seq (.seq (.reg [.p p138 (.mv (.t p4)),
   .p p139 (.bin .geq (.t p138) (.c (.int .i64 (.ofNat 2))))])
   (.cond (.t p139) (.seq (.reg [.p p140 (.mv (.t p12)),
   .p p141 (.bin .rem (.t p140) (.c (.int .u32 (.ofNat 100)))),
   .p p142 (.bin .mul (.t p141) (.c (.int .u32 (.ofNat 2)))),
   .p p16 (.mv (.t p142))])
   (.seq (.reg [.p p143 (.mv (.t p12)),
   .p p144 (.bin .quo (.t p143) (.c (.int .u32 (.ofNat 100)))),
   .p p12 (.mv (.t p144))])
   (.seq (.dreg [(.p p145 (.mv (.t p0)), 0), (.p p146 (.mv (.t p4)), 0), (.p p147 (.bin .sub (.t p146) (.c (.int .i64 (.ofNat 1)))), 2), (.p p148 (.mv (.t p0)), 0), (.p p149 (.mv (.t p4)), 0), (.p p150 (.bin .sub (.t p149) (.c (.int .i64 (.ofNat 2)))), 16), (.p p151 (.mv (.t p16)), 0), (.p p152 (.bin .add (.t p151) (.c (.int .u32 (.ofNat 1)))), 64), (.p p153 (.idxStr (.c (.str 200 9938655150514779720929161263213647789093395803754561035662628441001274968862597953692946393464194303251501229616933063375291039650253924995779037586872666250072396106842829501851083234932712366962979930255066872747696324303968523733872590022915936937156789320557469720923390131174387415513794469201054844961267015441141542819553679203788501627738430154234325528792480477051962324423099068299719245009424585859096469223093538032153047611602695245052081125123941502624659711709950000)) (.t p152)), 192), (.p p154 (.mv (.t p16)), 0), (.p p155 (.idxStr (.c (.str 200 9938655150514779720929161263213647789093395803754561035662628441001274968862597953692946393464194303251501229616933063375291039650253924995779037586872666250072396106842829501851083234932712366962979930255066872747696324303968523733872590022915936937156789320557469720923390131174387415513794469201054844961267015441141542819553679203788501627738430154234325528792480477051962324423099068299719245009424585859096469223093538032153047611602695245052081125123941502624659711709950000)) (.t p154)), 512), (.p p156 (.iaddrS 1 (.t p145) (.t p147)), 455), (.n (.store 1 (.t p156) (.t p153)), 2503), (.p p157 (.iaddrS 1 (.t p148) (.t p150)), 8191), (.n (.store 1 (.t p157) (.t p155)), 16383)])
   (.reg [.p p158 (.mv (.t p4)),
   .p p159 (.bin .sub (.t p158) (.c (.int .i64 (.ofNat 2)))),
   .p p4 (.mv (.t p159))])))) .skip))
   (.seq (.reg [.p p160 (.mv (.t p4)),
   .p p161 (.bin .gtr (.t p160) (.c (.int .i64 (.ofNat 0))))])
   (.cond (.t p161) (.reg [.p p162 (.mv (.t p0)),
   .p p163 (.mv (.t p12)),
   .p p164 (.bin .add (.c (.int .u32 (.ofNat 48))) (.t p163)),
   .p p165 (.convI .u8 (.t p164)),
   .p p166 (.iaddrS 1 (.t p162) (.c (.int .i64 (.ofNat 0)))),
   .n (.store 1 (.t p166) (.t p165))]) .skip)))))))
   []
/- internal/strconv.formatBits -/
def a102 : AF :=
  .code [p0, p1, p2, p3, p4] (.seq (.reg [.p p10 (.mv (.c (.nils))),
   .p p11 (.mv (.c (.str 0 0)))])
   (.seq (.seq (.reg [.p p19 (.mv (.t p2)),
   .p p20 (.bin .lss (.t p19) (.c (.int .i64 (.ofNat 2)))),
   .p p21 (.mv (.t p20)),
   .g p22 (.mv (.t p2)) p21 false,
   .g p23 (.bin .eql (.t p22) (.c (.int .i64 (.ofNat 10)))) p21 false,
   .p p24 (.pick (.t p21) (.c (.bool true)) (.t p23)),
   .p p25 (.mv (.t p24)),
   .g p26 (.mv (.t p2)) p25 false,
   .g p27 (.bin .gtr (.t p26) (.c (.int .i64 (.ofNat 36)))) p25 false,
   .p p28 (.pick (.t p25) (.c (.bool true)) (.t p27))])
   (.cond (.t p28) (.reg [.p p29 (.mkif 9 (.c (.str 41 216697390027125670893655747107225825579143285394002440301576320671928898198549784051036142863283315))),
   .n (.stop)]) .skip))
   (.seq (.reg [.p p12 (.alloc 171 [.int .u8 (.ofNat 0), .int .u8 (.ofNat 0), .int .u8 (.ofNat 0), .int .u8 (.ofNat 0), .int .u8 (.ofNat 0), .int .u8 (.ofNat 0), .int .u8 (.ofNat 0), .int .u8 (.ofNat 0), .int .u8 (.ofNat 0), .int .u8 (.ofNat 0), .int .u8 (.ofNat 0), .int .u8 (.ofNat 0), .int .u8 (.ofNat 0), .int .u8 (.ofNat 0), .int .u8 (.ofNat 0), .int .u8 (.ofNat 0), .int .u8 (.ofNat 0), .int .u8 (.ofNat 0), .int .u8 (.ofNat 0), .int .u8 (.ofNat 0), .int .u8 (.ofNat 0), .int .u8 (.ofNat 0), .int .u8 (.ofNat 0), .int .u8 (.ofNat 0), .int .u8 (.ofNat 0), .int .u8 (.ofNat 0), .int .u8 (.ofNat 0), .int .u8 (.ofNat 0), .int .u8 (.ofNat 0), .int .u8 (.ofNat 0), .int .u8 (.ofNat 0), .int .u8 (.ofNat 0), .int .u8 (.ofNat 0), .int .u8 (.ofNat 0), .int .u8 (.ofNat 0), .int .u8 (.ofNat 0), .int .u8 (.ofNat 0), .int .u8 (.ofNat 0), .int .u8 (.ofNat 0), .int .u8 (.ofNat 0), .int .u8 (.ofNat 0), .int .u8 (.ofNat 0), .int .u8 (.ofNat 0), .int .u8 (.ofNat 0), .int .u8 (.ofNat 0), .int .u8 (.ofNat 0), .int .u8 (.ofNat 0), .int .u8 (.ofNat 0), .int .u8 (.ofNat 0), .int .u8 (.ofNat 0), .int .u8 (.ofNat 0), .int .u8 (.ofNat 0), .int .u8 (.ofNat 0), .int .u8 (.ofNat 0), .int .u8 (.ofNat 0), .int .u8 (.ofNat 0), .int .u8 (.ofNat 0), .int .u8 (.ofNat 0), .int .u8 (.ofNat 0), .int .u8 (.ofNat 0), .int .u8 (.ofNat 0), .int .u8 (.ofNat 0), .int .u8 (.ofNat 0), .int .u8 (.ofNat 0), .int .u8 (.ofNat 0)])])
   (.seq (.reg [.p p13 (.mv (.c (.int .i64 (.ofNat 65))))])
   (.seq (.seq (.reg [.p p30 (.mv (.t p3))])
   (.cond (.t p30) (.reg [.p p31 (.mv (.t p1)),
   .p p32 (.neg (.t p31)),
   .p p1 (.mv (.t p32))]) .skip))
   (.seq (.seq (.reg [.p p33 (.mv (.t p2)),
   .p p34 (.call 109 [(.t p33)])])
   (.cond (.t p34) (.seq (.reg [.p p35 (.mv (.t p2)),
   .p p36 (.convI .u64 (.t p35)),
   .p p37 (.call 110 [(.t p36)]),
   .p p38 (.convI .u64 (.t p37)),
   .p p14 (.mv (.t p38))])
   (.seq (.reg [.p p39 (.mv (.t p2)),
   .p p40 (.convI .u64 (.t p39)),
   .p p15 (.mv (.t p40))])
   (.seq (.reg [.p p41 (.mv (.t p2)),
   .p p42 (.convI .u64 (.t p41)),
   .p p43 (.bin .sub (.t p42) (.c (.int .u64 (.ofNat 1)))),
   .p p16 (.mv (.t p43))])
   (.seq (.block 0 (.loop (.seq (.seq (.reg [.p p44 (.mv (.t p1)),
   .p p45 (.mv (.t p15)),
   .p p46 (.bin .geq (.t p44) (.t p45))])
   (.cond (.t p46) .skip (.exit 0)))
   (.block 1 (.seq (.reg [.p p47 (.mv (.t p13)),
   .p p48 (.bin .sub (.t p47) (.c (.int .i64 (.ofNat 1)))),
   .p p13 (.mv (.t p48))])
   (.seq (.reg [.p p49 (.mv (.t p13)),
   .p p50 (.mv (.t p1)),
   .p p51 (.mv (.t p16)),
   .p p52 (.bin .and (.t p50) (.t p51)),
   .p p53 (.idxStr (.c (.str 36 237927390410950444456928663707796224754864904193074819559483181009558347043374296609072)) (.t p52)),
   .p p54 (.iaddrA 65 1 (.t p12) (.t p49)),
   .n (.store 1 (.t p54) (.t p53))])
   (.reg [.p p55 (.mv (.t p1)),
   .p p56 (.mv (.t p14)),
   .p p57 (.shf false (.t p55) (.t p56)),
   .p p1 (.mv (.t p57))])))))))
   (.seq (.reg [.p p58 (.mv (.t p13)),
   .p p59 (.bin .sub (.t p58) (.c (.int .i64 (.ofNat 1)))),
   .p p13 (.mv (.t p59))])
   (.reg [.p p60 (.mv (.t p13)),
   .p p61 (.mv (.t p1)),
   .p p62 (.idxStr (.c (.str 36 237927390410950444456928663707796224754864904193074819559483181009558347043374296609072)) (.t p61)),
   .p p63 (.iaddrA 65 1 (.t p12) (.t p60)),
   .n (.store 1 (.t p63) (.t p62))])))))) (.seq (.reg [.p p64 (.mv (.t p2)),
   .p p65 (.convI .u64 (.t p64)),
   .p p17 (.mv (.t p65))])
   (.seq (.block 2 (.loop (.seq (.seq (.reg [.p p66 (.mv (.t p1)),
   .p p67 (.mv (.t p17)),
   .p p68 (.bin .geq (.t p66) (.t p67))])
   (.cond (.t p68) .skip (.exit 2)))
   (.block 3 (.seq (.reg [.p p69 (.mv (.t p13)),
   .p p70 (.bin .sub (.t p69) (.c (.int .i64 (.ofNat 1)))),
   .p p13 (.mv (.t p70))])
   (.seq (.reg [.p p71 (.mv (.t p1)),
   .p p72 (.mv (.t p17)),
   .p p73 (.bin .quo (.t p71) (.t p72)),
   .p p18 (.mv (.t p73))])
   (.seq (.reg [.p p74 (.mv (.t p13)),
   .p p75 (.mv (.t p1)),
   .p p76 (.mv (.t p18)),
   .p p77 (.mv (.t p17)),
   .p p78 (.bin .mul (.t p76) (.t p77)),
   .p p79 (.bin .sub (.t p75) (.t p78)),
   .p p80 (.idxStr (.c (.str 36 237927390410950444456928663707796224754864904193074819559483181009558347043374296609072)) (.t p79)),
   .p p81 (.iaddrA 65 1 (.t p12) (.t p74)),
   .n (.store 1 (.t p81) (.t p80))])
   (.reg [.p p82 (.mv (.t p18)),
   .p p1 (.mv (.t p82))]))))))))
   (.seq (.reg [.p p83 (.mv (.t p13)),
   .p p84 (.bin .sub (.t p83) (.c (.int .i64 (.ofNat 1)))),
   .p p13 (.mv (.t p84))])
   (.reg [.p p85 (.mv (.t p13)),
   .p p86 (.mv (.t p1)),
   .p p87 (.idxStr (.c (.str 36 237927390410950444456928663707796224754864904193074819559483181009558347043374296609072)) (.t p86)),
   .p p88 (.iaddrA 65 1 (.t p12) (.t p85)),
   .n (.store 1 (.t p88) (.t p87))]))))))
   (.seq (.seq (.reg [.p p89 (.mv (.t p3))])
   (.cond (.t p89) (.seq (.reg [.p p90 (.mv (.t p13)),
   .p p91 (.bin .sub (.t p90) (.c (.int .i64 (.ofNat 1)))),
   .p p13 (.mv (.t p91))])
   (.reg [.p p92 (.mv (.t p13)),
   .p p93 (.iaddrA 65 1 (.t p12) (.t p92)),
   .n (.store 1 (.t p93) (.c (.int .u8 (.ofNat 45))))])) .skip))
   (.seq (.seq (.reg [.p p94 (.mv (.t p4))])
   (.cond (.t p94) (.seq (.reg [.p p95 (.mv (.t p0)),
   .p p96 (.mv (.t p13)),
   .p p97 (.sliceA 65 1 (.t p12) (some (.t p96)) none none),
   .p p98 (.append 5 1 1 (.t p95) (.t p97)),
   .p p10 (.mv (.t p98))])
   .ret) .skip))
   (.seq (.reg [.p p99 (.mv (.t p13)),
   .p p100 (.sliceA 65 1 (.t p12) (some (.t p99)) none none),
   .p p101 (.convBS (.t p100)),
   .p p11 (.mv (.t p101))])
   .ret)))))))))
   [.t p10, .t p11]
/- internal/bytealg.MakeNoZero -/ def a103 : AF := .makeNoZero 5
/- internal/strconv.lower -/
def a104 : AF :=
  .code [p0] (.seq (.reg [.p p2 (.mv (.c (.int .u8 (.ofNat 0))))])
   (.seq (.reg [.p p3 (.mv (.t p0)),
   .p p4 (.bin .or (.t p3) (.c (.int .u8 (.ofNat 32)))),
   .p p2 (.mv (.t p4))])
   .ret))
   [.t p2]
/- internal/strconv.underscoreOK -/
def a105 : AF :=
  .code [p0] (.seq (.reg [.p p2 (.mv (.c (.bool false)))])
   (.seq (.reg [.p p3 (.mv (.c (.int .i32 (.ofNat 94))))])
   (.seq (.reg [.p p4 (.mv (.c (.int .i64 (.ofNat 0))))])
   (.seq (.seq (.reg [.p p6 (.mv (.t p0)),
   .p p7 (.lenStr (.t p6)),
   .p p8 (.bin .geq (.t p7) (.c (.int .i64 (.ofNat 1)))),
   .p p9 (.mv (.t p8)),
   .g p10 (.mv (.t p0)) p9 true,
   .g p11 (.idxStr (.t p10) (.c (.int .i64 (.ofNat 0)))) p9 true,
   .g p12 (.bin .eql (.t p11) (.c (.int .u8 (.ofNat 45)))) p9 true,
   .g p13 (.mv (.t p12)) p9 true,
   .g p14 (.mv (.t p0)) p13 false,
   .g p15 (.idxStr (.t p14) (.c (.int .i64 (.ofNat 0)))) p13 false,
   .g p16 (.bin .eql (.t p15) (.c (.int .u8 (.ofNat 43)))) p13 false,
   .g p17 (.pick (.t p13) (.c (.bool true)) (.t p16)) p9 true,
   .p p18 (.pick (.t p9) (.t p17) (.c (.bool false)))])
   (.cond (.t p18) (.reg [.p p19 (.mv (.t p0)),
   .p p20 (.sliceStr (.t p19) (some (.c (.int .i64 (.ofNat 1)))) none),
   .p p0 (.mv (.t p20))]) .skip))
   (.seq (.reg [.p p5 (.mv (.c (.bool false)))])
   (.seq (.seq (.reg [.p p21 (.mv (.t p0)),
   .p p22 (.lenStr (.t p21)),
   .p p23 (.bin .geq (.t p22) (.c (.int .i64 (.ofNat 2)))),
   .p p24 (.mv (.t p23)),
   .g p25 (.mv (.t p0)) p24 true,
   .g p26 (.idxStr (.t p25) (.c (.int .i64 (.ofNat 0)))) p24 true,
   .g p27 (.bin .eql (.t p26) (.c (.int .u8 (.ofNat 48)))) p24 true,
   .p p28 (.pick (.t p24) (.t p27) (.c (.bool false))),
   .p p29 (.mv (.t p28)),
   .g p30 (.mv (.t p0)) p29 true,
   .g p31 (.idxStr (.t p30) (.c (.int .i64 (.ofNat 1)))) p29 true,
   .g p32 (.call 104 [(.t p31)]) p29 true,
   .g p33 (.bin .eql (.t p32) (.c (.int .u8 (.ofNat 98)))) p29 true,
   .g p34 (.mv (.t p33)) p29 true,
   .g p35 (.mv (.t p0)) p34 false,
   .g p36 (.idxStr (.t p35) (.c (.int .i64 (.ofNat 1)))) p34 false,
   .g p37 (.call 104 [(.t p36)]) p34 false,
   .g p38 (.bin .eql (.t p37) (.c (.int .u8 (.ofNat 111)))) p34 false,
   .g p39 (.pick (.t p34) (.c (.bool true)) (.t p38)) p29 true,
   .g p40 (.mv (.t p39)) p29 true,
   .g p41 (.mv (.t p0)) p40 false,
   .g p42 (.idxStr (.t p41) (.c (.int .i64 (.ofNat 1)))) p40 false,
   .g p43 (.call 104 [(.t p42)]) p40 false,
   .g p44 (.bin .eql (.t p43) (.c (.int .u8 (.ofNat 120)))) p40 false,
   .g p45 (.pick (.t p40) (.c (.bool true)) (.t p44)) p29 true,
   .p p46 (.pick (.t p29) (.t p45) (.c (.bool false)))])
   (.cond (.t p46) (.seq (.reg [.p p4 (.mv (.c (.int .i64 (.ofNat 2))))])
   (.seq (.reg [.p p3 (.mv (.c (.int .i32 (.ofNat 48))))])
   (.reg [.p p47 (.mv (.t p0)),
   .p p48 (.idxStr (.t p47) (.c (.int .i64 (.ofNat 1)))),
   .p p49 (.call 104 [(.t p48)]),
   .p p50 (.bin .eql (.t p49) (.c (.int .u8 (.ofNat 120)))),
   .p p5 (.mv (.t p50))]))) .skip))
   (.seq (.block 0 (.loop (.seq (.seq (.reg [.p p51 (.mv (.t p4)),
   .p p52 (.mv (.t p0)),
   .p p53 (.lenStr (.t p52)),
   .p p54 (.bin .lss (.t p51) (.t p53))])
   (.cond (.t p54) .skip (.exit 0)))
   (.seq (.block 1 (.seq (.seq (.reg [.p p57 (.mv (.t p0)),
   .p p58 (.mv (.t p4)),
   .p p59 (.idxStr (.t p57) (.t p58)),
   .p p60 (.bin .leq (.c (.int .u8 (.ofNat 48))) (.t p59)),
   .p p61 (.mv (.t p60)),
   .g p62 (.mv (.t p0)) p61 true,
   .g p63 (.mv (.t p4)) p61 true,
   .g p64 (.idxStr (.t p62) (.t p63)) p61 true,
   .g p65 (.bin .leq (.t p64) (.c (.int .u8 (.ofNat 57)))) p61 true,
   .p p66 (.pick (.t p61) (.t p65) (.c (.bool false))),
   .p p67 (.mv (.t p66)),
   .g p68 (.mv (.t p5)) p67 false,
   .g p69 (.mv (.t p68)) p67 false,
   .g p70 (.mv (.t p0)) p69 true,
   .g p71 (.mv (.t p4)) p69 true,
   .g p72 (.idxStr (.t p70) (.t p71)) p69 true,
   .g p73 (.call 104 [(.t p72)]) p69 true,
   .g p74 (.bin .leq (.c (.int .u8 (.ofNat 97))) (.t p73)) p69 true,
   .g p75 (.pick (.t p69) (.t p74) (.c (.bool false))) p67 false,
   .g p76 (.mv (.t p75)) p67 false,
   .g p77 (.mv (.t p0)) p76 true,
   .g p78 (.mv (.t p4)) p76 true,
   .g p79 (.idxStr (.t p77) (.t p78)) p76 true,
   .g p80 (.call 104 [(.t p79)]) p76 true,
   .g p81 (.bin .leq (.t p80) (.c (.int .u8 (.ofNat 102)))) p76 true,
   .g p82 (.pick (.t p76) (.t p81) (.c (.bool false))) p67 false,
   .p p83 (.pick (.t p67) (.c (.bool true)) (.t p82))])
   (.cond (.t p83) (.seq (.reg [.p p3 (.mv (.c (.int .i32 (.ofNat 48))))])
   (.exit 1)) .skip))
   (.seq (.seq (.reg [.p p84 (.mv (.t p0)),
   .p p85 (.mv (.t p4)),
   .p p86 (.idxStr (.t p84) (.t p85)),
   .p p87 (.bin .eql (.t p86) (.c (.int .u8 (.ofNat 95))))])
   (.cond (.t p87) (.seq (.seq (.reg [.p p88 (.mv (.t p3)),
   .p p89 (.bin .neq (.t p88) (.c (.int .i32 (.ofNat 48))))])
   (.cond (.t p89) (.seq (.reg [.p p2 (.mv (.c (.bool false)))])
   .ret) .skip))
   (.seq (.reg [.p p3 (.mv (.c (.int .i32 (.ofNat 95))))])
   (.exit 1))) .skip))
   (.seq (.seq (.reg [.p p90 (.mv (.t p3)),
   .p p91 (.bin .eql (.t p90) (.c (.int .i32 (.ofNat 95))))])
   (.cond (.t p91) (.seq (.reg [.p p2 (.mv (.c (.bool false)))])
   .ret) .skip))
   (.reg [.p p3 (.mv (.c (.int .i32 (.ofNat 33))))])))))
   (.reg [.p p55 (.mv (.t p4)),
   .p p56 (.bin .add (.t p55) (.c (.int .i64 (.ofNat 1)))),
   .p p4 (.mv (.t p56))])))))
   (.seq (.reg [.p p92 (.mv (.t p3)),
   .p p93 (.bin .neq (.t p92) (.c (.int .i32 (.ofNat 95)))),
   .p p2 (.mv (.t p93))])
   .ret))))))))
   [.t p2]
/- internal/strconv.log10Pow2 -/
def a106 : AF :=
  .code [p0] (.seq (.reg [.p p2 (.mv (.c (.int .i64 (.ofNat 0))))])
   (.seq (.reg [.p p3 (.mv (.t p0)),
   .p p4 (.bin .mul (.t p3) (.c (.int .i64 (.ofNat 78913)))),
   .p p5 (.shf false (.t p4) (.c (.int .u64 (.ofNat 18)))),
   .p p2 (.mv (.t p5))])
   .ret))
   [.t p2]
/- math/bits.Len64 -/
def a107 : AF :=
  .code [p0] (.seq (.reg [.p p2 (.mv (.c (.int .i64 (.ofNat 0))))])
   (.seq (.seq (.reg [.p p3 (.mv (.t p0)),
   .p p4 (.bin .geq (.t p3) (.c (.int .u64 (.ofNat 4294967296))))])
   (.cond (.t p4) (.seq (.reg [.p p5 (.mv (.t p0)),
   .p p6 (.shf false (.t p5) (.c (.int .u64 (.ofNat 32)))),
   .p p0 (.mv (.t p6))])
   (.reg [.p p2 (.mv (.c (.int .i64 (.ofNat 32))))])) .skip))
   (.seq (.seq (.reg [.p p7 (.mv (.t p0)),
   .p p8 (.bin .geq (.t p7) (.c (.int .u64 (.ofNat 65536))))])
   (.cond (.t p8) (.seq (.reg [.p p9 (.mv (.t p0)),
   .p p10 (.shf false (.t p9) (.c (.int .u64 (.ofNat 16)))),
   .p p0 (.mv (.t p10))])
   (.reg [.p p11 (.mv (.t p2)),
   .p p12 (.bin .add (.t p11) (.c (.int .i64 (.ofNat 16)))),
   .p p2 (.mv (.t p12))])) .skip))
   (.seq (.seq (.reg [.p p13 (.mv (.t p0)),
   .p p14 (.bin .geq (.t p13) (.c (.int .u64 (.ofNat 256))))])
   (.cond (.t p14) (.seq (.reg [.p p15 (.mv (.t p0)),
   .p p16 (.shf false (.t p15) (.c (.int .u64 (.ofNat 8)))),
   .p p0 (.mv (.t p16))])
   (.reg [.p p17 (.mv (.t p2)),
   .p p18 (.bin .add (.t p17) (.c (.int .i64 (.ofNat 8)))),
   .p p2 (.mv (.t p18))])) .skip))
   (.seq (.reg [.p p19 (.mv (.t p2)),
   .p p20 (.mv (.t p0)),
   .p p21 (.convI .u8 (.t p20)),
   .p p22 (.idxStr (.c (.str 256 1013866857139168856493015739252390649739422828853819106890363778118420553376247557433637691341895324351018602695588957474325319502760499485336098898398377509666851054660423406800006203933793007272033180812049178612605246075062580585469430410618860250057463399279570354286669047577758927328864388992123306212451509403152394148136105363817402562688186708175358218852349079190158732807302672745370040257219644697201681238697346923541678507645485296520536209706771857694240900605172937619415410180424934769249448772944216470541052485265558808433676546390051204254346932932316488017972311616136051587427851453983453479168)) (.t p21)),
   .p p23 (.convI .i64 (.t p22)),
   .p p24 (.bin .add (.t p19) (.t p23)),
   .p p2 (.mv (.t p24))])
   .ret)))))
   [.t p2]
/- internal/strconv.bool2[int] -/
def a108 : AF :=
  .code [p0] (.seq (.reg [.p p2 (.mv (.c (.int .i64 (.ofNat 0))))])
   (.seq (.seq (.reg [.p p3 (.mv (.t p0))])
   (.cond (.t p3) (.seq (.reg [.p p2 (.mv (.c (.int .i64 (.ofNat 1))))])
   .ret) .skip))
   (.seq (.reg [.p p2 (.mv (.c (.int .i64 (.ofNat 0))))])
   .ret)))
   [.t p2]
/- internal/strconv.isPowerOfTwo -/
def a109 : AF :=
  .code [p0] (.seq (.reg [.p p2 (.mv (.c (.bool false)))])
   (.seq (.reg [.p p3 (.mv (.t p0)),
   .p p4 (.mv (.t p0)),
   .p p5 (.bin .sub (.t p4) (.c (.int .i64 (.ofNat 1)))),
   .p p6 (.bin .and (.t p3) (.t p5)),
   .p p7 (.bin .eql (.t p6) (.c (.int .i64 (.ofNat 0)))),
   .p p2 (.mv (.t p7))])
   .ret))
   [.t p2]
/- math/bits.TrailingZeros -/
def a110 : AF :=
  .code [p0] (.seq (.reg [.p p2 (.mv (.c (.int .i64 (.ofNat 0))))])
   (.seq (.cond (.c (.bool false)) (.seq (.reg [.p p3 (.mv (.t p0)),
   .p p4 (.convI .u32 (.t p3)),
   .p p5 (.call 111 [(.t p4)]),
   .p p2 (.mv (.t p5))])
   .ret) .skip)
   (.seq (.reg [.p p6 (.mv (.t p0)),
   .p p7 (.call 112 [(.t p6)]),
   .p p2 (.mv (.t p7))])
   .ret)))
   [.t p2]
/- math/bits.TrailingZeros32 -/
def a111 : AF :=
  .code [p0] (.seq (.reg [.p p2 (.mv (.c (.int .i64 (.ofNat 0))))])
   (.seq (.seq (.reg [.p p3 (.mv (.t p0)),
   .p p4 (.bin .eql (.t p3) (.c (.int .u32 (.ofNat 0))))])
   (.cond (.t p4) (.seq (.reg [.p p2 (.mv (.c (.int .i64 (.ofNat 32))))])
   .ret) .skip))
   (.seq (.reg [.p p5 (.mv (.t p0)),
   .p p6 (.mv (.t p0)),
   .p p7 (.neg (.t p6)),
   .p p8 (.bin .and (.t p5) (.t p7)),
   .p p9 (.bin .mul (.t p8) (.c (.int .u32 (.ofNat 125613361)))),
   .p p10 (.shf false (.t p9) (.c (.int .u64 (.ofNat 27)))),
   .p p11 (.iaddrA 32 1 (.c (.ptr 7 0)) (.t p10)),
   .p p12 (.load1 (.t p11)),
   .p p13 (.convI .i64 (.t p12)),
   .p p2 (.mv (.t p13))])
   .ret)))
   [.t p2]
/- math/bits.TrailingZeros64 -/
def a112 : AF :=
  .code [p0] (.seq (.reg [.p p2 (.mv (.c (.int .i64 (.ofNat 0))))])
   (.seq (.seq (.reg [.p p3 (.mv (.t p0)),
   .p p4 (.bin .eql (.t p3) (.c (.int .u64 (.ofNat 0))))])
   (.cond (.t p4) (.seq (.reg [.p p2 (.mv (.c (.int .i64 (.ofNat 64))))])
   .ret) .skip))
   (.seq (.reg [.p p5 (.mv (.t p0)),
   .p p6 (.mv (.t p0)),
   .p p7 (.neg (.t p6)),
   .p p8 (.bin .and (.t p5) (.t p7)),
   .p p9 (.bin .mul (.t p8) (.c (.int .u64 (.ofNat 285870213051353865)))),
   .p p10 (.shf false (.t p9) (.c (.int .u64 (.ofNat 58)))),
   .p p11 (.iaddrA 64 1 (.c (.ptr 8 0)) (.t p10)),
   .p p12 (.load1 (.t p11)),
   .p p13 (.convI .i64 (.t p12)),
   .p p2 (.mv (.t p13))])
   .ret)))
   [.t p2]
def fns : T AF := (.n (.n (.n (.n (.n (.n (.n .l (some a63) .l) (some a31) (.n .l (some a95) .l)) (some a15) (.n (.n .l (some a79) .l) (some a47) (.n .l (some a111) .l))) (some a7) (.n (.n .l (some a39) (.n .l (some a103) .l)) (some a23) (.n (.n .l (some a87) .l) (some a55) .l))) (some a3) (.n (.n (.n (.n .l (some a67) .l) (some a35) (.n .l (some a99) .l)) (some a19) (.n (.n .l (some a83) .l) none .l)) (some a11) (.n (.n (.n .l (some a75) .l) (some a43) (.n .l (some a107) .l)) (some a27) (.n (.n .l (some a91) .l) (some a59) .l)))) none (.n (.n (.n (.n (.n .l (some a65) .l) (some a33) (.n .l (some a97) .l)) (some a17) (.n (.n .l (some a81) .l) none .l)) (some a9) (.n (.n (.n .l (some a73) .l) (some a41) (.n .l (some a105) .l)) (some a25) (.n (.n .l (some a89) .l) (some a57) .l))) (some a5) (.n (.n (.n (.n .l (some a69) .l) (some a37) (.n .l (some a101) .l)) (some a21) (.n (.n .l (some a85) .l) (some a53) .l)) (some a13) (.n (.n (.n .l (some a77) .l) (some a45) (.n .l (some a109) .l)) (some a29) (.n (.n .l (some a93) .l) (some a61) .l))))) none (.n (.n (.n (.n (.n (.n .l (some a64) .l) (some a32) (.n .l (some a96) .l)) (some a16) (.n (.n .l (some a80) .l) (some a48) (.n .l (some a112) .l))) (some a8) (.n (.n .l (some a40) (.n .l (some a104) .l)) (some a24) (.n (.n .l (some a88) .l) (some a56) .l))) (some a4) (.n (.n (.n (.n .l (some a68) .l) (some a36) (.n .l (some a100) .l)) (some a20) (.n (.n .l (some a84) .l) none .l)) (some a12) (.n (.n (.n .l (some a76) .l) (some a44) (.n .l (some a108) .l)) (some a28) (.n (.n .l (some a92) .l) (some a60) .l)))) none (.n (.n (.n (.n (.n .l (some a66) .l) (some a34) (.n .l (some a98) .l)) (some a18) (.n (.n .l (some a82) .l) none .l)) (some a10) (.n (.n (.n .l (some a74) .l) (some a42) (.n .l (some a106) .l)) (some a26) (.n (.n .l (some a90) .l) (some a58) .l))) (some a6) (.n (.n (.n .l (some a38) (.n .l (some a102) .l)) (some a22) (.n (.n .l (some a86) .l) (some a54) .l)) (some a14) (.n (.n (.n .l (some a78) .l) (some a46) (.n .l (some a110) .l)) (some a30) (.n (.n .l (some a94) .l) (some a62) .l))))))
def ifts : List Nat × List (Nat × Nat × Nat) := ([22, 139], [(52, 0, 2), (53, 3, 6), (54, 3, 6)])
end
end Go.Kev.Tryz
