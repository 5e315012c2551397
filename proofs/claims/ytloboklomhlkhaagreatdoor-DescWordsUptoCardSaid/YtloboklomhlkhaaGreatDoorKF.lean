/- The program's functions, compiled for the abstract machine. -/
import Derived.Test.YtloboklomhlkhaaGreatDoorKP
set_option linter.unusedVariables false
set_option linter.unusedSimpArgs false
namespace Go.Kev.Tryz
set_option maxRecDepth 100000
set_option autoImplicit false
noncomputable section
/- bastion/desc.Name -/
def a4 : AF :=
  .code [p0] (.seq (.reg [.p p2 (.mv (.c (.bool false)))])
   (.seq (.seq (.reg [.p p3 (.mv (.t p0)),
   .p p4 (.bin .eql (.t p3) (.c (.str 0 0))),
   .p p5 (.mv (.t p4)),
   .g p6 (.mv (.t p0)) p5 false,
   .g p7 (.lenStr (.t p6)) p5 false,
   .g p8 (.bin .gtr (.t p7) (.c (.int .i64 (.ofNat 24)))) p5 false,
   .p p9 (.pick (.t p5) (.c (.bool true)) (.t p8)),
   .p p10 (.mv (.t p9)),
   .g p11 (.mv (.t p0)) p10 false,
   .g p12 (.idxStr (.t p11) (.c (.int .i64 (.ofNat 0)))) p10 false,
   .g p13 (.bin .lss (.t p12) (.c (.int .u8 (.ofNat 97)))) p10 false,
   .p p14 (.pick (.t p10) (.c (.bool true)) (.t p13)),
   .p p15 (.mv (.t p14)),
   .g p16 (.mv (.t p0)) p15 false,
   .g p17 (.idxStr (.t p16) (.c (.int .i64 (.ofNat 0)))) p15 false,
   .g p18 (.bin .gtr (.t p17) (.c (.int .u8 (.ofNat 122)))) p15 false,
   .p p19 (.pick (.t p15) (.c (.bool true)) (.t p18))])
   (.cond (.t p19) (.seq (.reg [.p p2 (.mv (.c (.bool false)))])
   .ret) .skip))
   (.seq (.reg [.p p20 (.mv (.t p0)),
   .p p21 (.call 9 [(.t p20), (.c (.str 38 12117391813846758031141756778034423710743608522770212737987117973555293213725218199772029537))]),
   .p p22 (.bin .eql (.t p21) (.c (.str 0 0))),
   .p p2 (.mv (.t p22))])
   .ret)))
   [.t p2]
/- bastion/desc.Path -/
def a6 : AF :=
  .code [p0] (.seq (.reg [.p p2 (.mv (.c (.bool false)))])
   (.seq (.seq (.reg [.p p7 (.mv (.t p0)),
   .p p8 (.call 12 [(.t p7), (.c (.str 1 47))]),
   .p p9 (.lenSlc (.t p8)),
   .p p10 (.mv (.c (.int .i64 (.ofNat 0))))])
   (.block 0 (.loop (.seq (.reg [.p p11 (.bin .lss (.t p10) (.t p9))])
   (.seq (.cond (.t p11) .skip (.exit 0))
   (.seq (.block 1 (.seq (.reg [.p p12 (.iaddrS 1 (.t p8) (.t p10)),
   .p p13 (.load1 (.t p12)),
   .p p4 (.mv (.t p13))])
   (.seq (.seq (.reg [.p p14 (.mv (.t p4)),
   .p p15 (.bin .eql (.t p14) (.c (.str 0 0))),
   .p p16 (.mv (.t p15)),
   .g p17 (.mv (.t p4)) p16 false,
   .g p18 (.bin .eql (.t p17) (.c (.str 1 46))) p16 false,
   .p p19 (.pick (.t p16) (.c (.bool true)) (.t p18)),
   .p p20 (.mv (.t p19)),
   .g p21 (.mv (.t p4)) p20 false,
   .g p22 (.bin .eql (.t p21) (.c (.str 2 11822))) p20 false,
   .p p23 (.pick (.t p20) (.c (.bool true)) (.t p22))])
   (.cond (.t p23) (.seq (.reg [.p p2 (.mv (.c (.bool false)))])
   .ret) .skip))
   (.seq (.reg [.p p24 (.mv (.t p4)),
   .p p25 (.lenStr (.t p24)),
   .p p26 (.mv (.c (.int .i64 (.ofNat 0))))])
   (.block 2 (.loop (.seq (.reg [.p p27 (.bin .lss (.t p26) (.t p25))])
   (.seq (.cond (.t p27) .skip (.exit 2))
   (.seq (.block 3 (.seq (.reg [.p p28 (.mv (.t p26)),
   .p p5 (.mv (.t p28))])
   (.seq (.reg [.p p29 (.mv (.t p4)),
   .p p30 (.mv (.t p5)),
   .p p31 (.idxStr (.t p29) (.t p30)),
   .p p6 (.mv (.t p31))])
   (.seq (.reg [.p p32 (.mv (.t p6)),
   .p p33 (.bin .geq (.t p32) (.c (.int .u8 (.ofNat 97)))),
   .p p34 (.mv (.t p33)),
   .g p35 (.mv (.t p6)) p34 true,
   .g p36 (.bin .leq (.t p35) (.c (.int .u8 (.ofNat 122)))) p34 true,
   .p p37 (.pick (.t p34) (.t p36) (.c (.bool false))),
   .p p38 (.mv (.t p37)),
   .g p39 (.mv (.t p6)) p38 false,
   .g p40 (.bin .geq (.t p39) (.c (.int .u8 (.ofNat 65)))) p38 false,
   .g p41 (.mv (.t p40)) p38 false,
   .g p42 (.mv (.t p6)) p41 true,
   .g p43 (.bin .leq (.t p42) (.c (.int .u8 (.ofNat 90)))) p41 true,
   .g p44 (.pick (.t p41) (.t p43) (.c (.bool false))) p38 false,
   .p p45 (.pick (.t p38) (.c (.bool true)) (.t p44)),
   .p p46 (.mv (.t p45)),
   .g p47 (.mv (.t p6)) p46 false,
   .g p48 (.bin .geq (.t p47) (.c (.int .u8 (.ofNat 48)))) p46 false,
   .g p49 (.mv (.t p48)) p46 false,
   .g p50 (.mv (.t p6)) p49 true,
   .g p51 (.bin .leq (.t p50) (.c (.int .u8 (.ofNat 57)))) p49 true,
   .g p52 (.pick (.t p49) (.t p51) (.c (.bool false))) p46 false,
   .p p53 (.pick (.t p46) (.c (.bool true)) (.t p52)),
   .p p54 (.mv (.t p53)),
   .g p55 (.mv (.t p6)) p54 false,
   .g p56 (.bin .eql (.t p55) (.c (.int .u8 (.ofNat 45)))) p54 false,
   .p p57 (.pick (.t p54) (.c (.bool true)) (.t p56)),
   .p p58 (.mv (.t p57)),
   .g p59 (.mv (.t p6)) p58 false,
   .g p60 (.bin .eql (.t p59) (.c (.int .u8 (.ofNat 95)))) p58 false,
   .p p61 (.pick (.t p58) (.c (.bool true)) (.t p60)),
   .p p62 (.mv (.t p61)),
   .g p63 (.mv (.t p6)) p62 false,
   .g p64 (.bin .eql (.t p63) (.c (.int .u8 (.ofNat 46)))) p62 false,
   .p p65 (.pick (.t p62) (.c (.bool true)) (.t p64)),
   .p p66 (.not (.t p65))])
   (.cond (.t p66) (.seq (.reg [.p p2 (.mv (.c (.bool false)))])
   .ret) .skip)))))
   (.reg [.p p67 (.bin .add (.t p26) (.c (.int .i64 (.ofNat 1)))),
   .p p26 (.mv (.t p67))]))))))))))
   (.reg [.p p68 (.bin .add (.t p10) (.c (.int .i64 (.ofNat 1)))),
   .p p10 (.mv (.t p68))])))))))
   (.seq (.reg [.p p69 (.mv (.t p0)),
   .p p70 (.lenStr (.t p69)),
   .p p71 (.bin .leq (.t p70) (.c (.int .i64 (.ofNat 48)))),
   .p p2 (.mv (.t p71))])
   .ret)))
   [.t p2]
def b1 : AC := (.reg [.p p0 (.mv (.c (.bool false)))])
def b3 : AC := (.reg [.p p1 (.mv (.c (.str 78 2848096649121813296335242652917673210844277999037565438642199078041613194728728901559519778228625278934339468472857117752814464737513467688070268333393125702634878630564683291042532974966)))])
def b5 : AC := (.reg [.p p8 (.mv (.t p1)),
   .p p9 (.call 13 [(.t p8)]),
   .p p7 (.mv (.t p9)),
   .p p10 (.extract 0 (.t p7)),
   .p p11 (.extract 1 (.t p7)),
   .p p12 (.extract 2 (.t p7)),
   .p p2 (.alloc 31 [.nils, .nils]),
   .n (.store 2 (.t p2) (.t p10)),
   .p p3 (.mv (.t p11)),
   .p p4 (.mv (.t p12))])
def b7 : AC := (.reg [.p p14 (.loadn 2 (.t p2)),
   .p p15 (.call 14 [(.t p14)]),
   .p p13 (.mv (.t p15)),
   .p p16 (.extract 0 (.t p13)),
   .p p17 (.extract 1 (.t p13)),
   .p p5 (.mv (.t p16)),
   .p p6 (.mv (.t p17))])
def b9 : AC := (.reg [.p p18 (.mv (.t p4)),
   .p p19 (.bin .eql (.t p18) (.c (.int .i64 (.ofNat 0)))),
   .p p20 (.mv (.t p19)),
   .g p21 (.mv (.t p3)) p20 true,
   .g p22 (.bin .eql (.t p21) (.c (.int .i64 (.ofNat 0)))) p20 true,
   .p p23 (.pick (.t p20) (.t p22) (.c (.bool false))),
   .p p24 (.mv (.t p23)),
   .g p25 (.faddr 0 (.t p2)) p24 true,
   .g p26 (.load1 (.t p25)) p24 true,
   .g p27 (.lenSlc (.t p26)) p24 true,
   .g p28 (.bin .eql (.t p27) (.c (.int .i64 (.ofNat 1)))) p24 true,
   .p p29 (.pick (.t p24) (.t p28) (.c (.bool false))),
   .p p30 (.mv (.t p29)),
   .g p31 (.faddr 1 (.t p2)) p30 true,
   .g p32 (.load1 (.t p31)) p30 true,
   .g p33 (.lenSlc (.t p32)) p30 true,
   .g p34 (.bin .eql (.t p33) (.c (.int .i64 (.ofNat 3)))) p30 true,
   .p p35 (.pick (.t p30) (.t p34) (.c (.bool false))),
   .p p36 (.mv (.t p35)),
   .g p37 (.faddr 1 (.t p2)) p36 true,
   .g p38 (.load1 (.t p37)) p36 true,
   .g p39 (.iaddrS 4 (.t p38) (.c (.int .i64 (.ofNat 1)))) p36 true,
   .g p40 (.faddr 1 (.t p39)) p36 true,
   .g p41 (.load1 (.t p40)) p36 true,
   .g p42 (.bin .eql (.t p41) (.c (.int .u8 (.ofNat 2)))) p36 true,
   .p p43 (.pick (.t p36) (.t p42) (.c (.bool false))),
   .p p44 (.mv (.t p43)),
   .g p45 (.faddr 1 (.t p2)) p44 true,
   .g p46 (.load1 (.t p45)) p44 true,
   .g p47 (.iaddrS 4 (.t p46) (.c (.int .i64 (.ofNat 1)))) p44 true,
   .g p48 (.faddr 3 (.t p47)) p44 true,
   .g p49 (.load1 (.t p48)) p44 true,
   .g p50 (.iaddrS 3 (.t p49) (.c (.int .i64 (.ofNat 1)))) p44 true,
   .g p51 (.faddr 0 (.t p50)) p44 true,
   .g p52 (.load1 (.t p51)) p44 true,
   .g p53 (.bin .eql (.t p52) (.c (.int .i64 (.ofNat 6)))) p44 true,
   .p p54 (.pick (.t p44) (.t p53) (.c (.bool false))),
   .p p55 (.mv (.t p54)),
   .g p56 (.mv (.t p6)) p55 true,
   .g p57 (.bin .eql (.t p56) (.c (.int .i64 (.ofNat 0)))) p55 true,
   .p p58 (.pick (.t p55) (.t p57) (.c (.bool false))),
   .p p59 (.mv (.t p58)),
   .g p60 (.mv (.t p5)) p59 true,
   .g p61 (.mv (.t p1)) p59 true,
   .g p62 (.bin .eql (.t p60) (.t p61)) p59 true,
   .p p63 (.pick (.t p59) (.t p62) (.c (.bool false))),
   .p p64 (.mv (.t p63)),
   .g p65 (.call 4 [(.c (.str 3 3222881))]) p64 true,
   .p p66 (.pick (.t p64) (.t p65) (.c (.bool false))),
   .p p67 (.mv (.t p66)),
   .g p68 (.call 6 [(.c (.str 5 425977851745))]) p67 true,
   .p p69 (.pick (.t p67) (.t p68) (.c (.bool false))),
   .p p0 (.mv (.t p69))])
def b10 : AC := .ret
def b8 : AC := .seq b9 b10
def b6 : AC := .seq b7 b8
def b4 : AC := .seq b5 b6
def b2 : AC := .seq b3 b4
def b0 : AC := .seq b1 b2
/- bastion/bastionlaw12.awake -/
def a8 : AF :=
  .code [] b0
   [.t p0]
/- strings.Trim -/
def a9 : AF :=
  .code [p0, p1] (.seq (.reg [.p p4 (.mv (.c (.str 0 0)))])
   (.seq (.seq (.reg [.p p7 (.mv (.t p0)),
   .p p8 (.bin .eql (.t p7) (.c (.str 0 0))),
   .p p9 (.mv (.t p8)),
   .g p10 (.mv (.t p1)) p9 false,
   .g p11 (.bin .eql (.t p10) (.c (.str 0 0))) p9 false,
   .p p12 (.pick (.t p9) (.c (.bool true)) (.t p11))])
   (.cond (.t p12) (.seq (.reg [.p p13 (.mv (.t p0)),
   .p p4 (.mv (.t p13))])
   .ret) .skip))
   (.seq (.seq (.reg [.p p14 (.mv (.t p1)),
   .p p15 (.lenStr (.t p14)),
   .p p16 (.bin .eql (.t p15) (.c (.int .i64 (.ofNat 1)))),
   .p p17 (.mv (.t p16)),
   .g p18 (.mv (.t p1)) p17 true,
   .g p19 (.idxStr (.t p18) (.c (.int .i64 (.ofNat 0)))) p17 true,
   .g p20 (.bin .lss (.t p19) (.c (.int .u8 (.ofNat 128)))) p17 true,
   .p p21 (.pick (.t p17) (.t p20) (.c (.bool false)))])
   (.cond (.t p21) (.seq (.dreg [(.p p22 (.mv (.t p0)), 0), (.p p23 (.mv (.t p1)), 0), (.p p24 (.idxStr (.t p23) (.c (.int .i64 (.ofNat 0)))), 2), (.p p25 (.call 16 [(.t p22), (.t p24)]), 7), (.p p26 (.mv (.t p1)), 0), (.p p27 (.idxStr (.t p26) (.c (.int .i64 (.ofNat 0)))), 16), (.p p28 (.call 15 [(.t p25), (.t p27)]), 63), (.p p4 (.mv (.t p28)), 127)])
   .ret) .skip))
   (.seq (.seq (.reg [.p p30 (.mv (.t p1)),
   .p p31 (.call 17 [(.t p30)]),
   .p p29 (.mv (.t p31)),
   .p p32 (.extract 0 (.t p29)),
   .p p33 (.extract 1 (.t p29)),
   .p p5 (.alloc 43 [.bool false, .bool false, .bool false, .bool false, .bool false, .bool false, .bool false, .bool false, .bool false, .bool false, .bool false, .bool false, .bool false, .bool false, .bool false, .bool false, .bool false, .bool false, .bool false, .bool false, .bool false, .bool false, .bool false, .bool false, .bool false, .bool false, .bool false, .bool false, .bool false, .bool false, .bool false, .bool false, .bool false, .bool false, .bool false, .bool false, .bool false, .bool false, .bool false, .bool false, .bool false, .bool false, .bool false, .bool false, .bool false, .bool false, .bool false, .bool false, .bool false, .bool false, .bool false, .bool false, .bool false, .bool false, .bool false, .bool false, .bool false, .bool false, .bool false, .bool false, .bool false, .bool false, .bool false, .bool false, .bool false, .bool false, .bool false, .bool false, .bool false, .bool false, .bool false, .bool false, .bool false, .bool false, .bool false, .bool false, .bool false, .bool false, .bool false, .bool false, .bool false, .bool false, .bool false, .bool false, .bool false, .bool false, .bool false, .bool false, .bool false, .bool false, .bool false, .bool false, .bool false, .bool false, .bool false, .bool false, .bool false, .bool false, .bool false, .bool false, .bool false, .bool false, .bool false, .bool false, .bool false, .bool false, .bool false, .bool false, .bool false, .bool false, .bool false, .bool false, .bool false, .bool false, .bool false, .bool false, .bool false, .bool false, .bool false, .bool false, .bool false, .bool false, .bool false, .bool false, .bool false, .bool false, .bool false, .bool false, .bool false, .bool false, .bool false, .bool false, .bool false, .bool false, .bool false, .bool false, .bool false, .bool false, .bool false, .bool false, .bool false, .bool false, .bool false, .bool false, .bool false, .bool false, .bool false, .bool false, .bool false, .bool false, .bool false, .bool false, .bool false, .bool false, .bool false, .bool false, .bool false, .bool false, .bool false, .bool false, .bool false, .bool false, .bool false, .bool false, .bool false, .bool false, .bool false, .bool false, .bool false, .bool false, .bool false, .bool false, .bool false, .bool false, .bool false, .bool false, .bool false, .bool false, .bool false, .bool false, .bool false, .bool false, .bool false, .bool false, .bool false, .bool false, .bool false, .bool false, .bool false, .bool false, .bool false, .bool false, .bool false, .bool false, .bool false, .bool false, .bool false, .bool false, .bool false, .bool false, .bool false, .bool false, .bool false, .bool false, .bool false, .bool false, .bool false, .bool false, .bool false, .bool false, .bool false, .bool false, .bool false, .bool false, .bool false, .bool false, .bool false, .bool false, .bool false, .bool false, .bool false, .bool false, .bool false, .bool false, .bool false, .bool false, .bool false, .bool false, .bool false, .bool false, .bool false, .bool false, .bool false, .bool false, .bool false, .bool false, .bool false, .bool false, .bool false, .bool false, .bool false, .bool false, .bool false, .bool false, .bool false, .bool false, .bool false, .bool false, .bool false, .bool false, .bool false, .bool false, .bool false, .bool false, .bool false, .bool false]),
   .n (.store 256 (.t p5) (.t p32)),
   .p p6 (.mv (.t p33))])
   (.seq (.reg [.p p34 (.mv (.t p6))])
   (.cond (.t p34) (.seq (.reg [.p p35 (.mv (.t p0)),
   .p p36 (.call 19 [(.t p35), (.t p5)]),
   .p p37 (.call 18 [(.t p36), (.t p5)]),
   .p p4 (.mv (.t p37))])
   .ret) .skip)))
   (.seq (.reg [.p p38 (.mv (.t p0)),
   .p p39 (.mv (.t p1)),
   .p p40 (.call 21 [(.t p38), (.t p39)]),
   .p p41 (.mv (.t p1)),
   .p p42 (.call 20 [(.t p40), (.t p41)]),
   .p p4 (.mv (.t p42))])
   .ret)))))
   [.t p4]
/- strings.Split -/
def a12 : AF :=
  .code [p0, p1] (.seq (.reg [.p p4 (.mv (.c (.nils)))])
   (.seq (.reg [.p p5 (.mv (.t p0)),
   .p p6 (.mv (.t p1)),
   .p p7 (.call 22 [(.t p5), (.t p6), (.c (.int .i64 (.ofNat 0))), (.c (.int .i64 (.negSucc 0)))]),
   .p p4 (.mv (.t p7))])
   .ret))
   [.t p4]
/- bastion/desc.Parse -/
def a13 : AF :=
  .code [p0] (.seq (.reg [.p p2 (.alloc 31 [.nils, .nils]),
   .p p3 (.mv (.c (.int .i64 (.ofNat 0)))),
   .p p4 (.mv (.c (.int .i64 (.ofNat 0))))])
   (.seq (.reg [.p p5 (.alloc 31 [.nils, .nils])])
   (.seq (.reg [.p p12 (.call 23 []),
   .p p6 (.mv (.t p12))])
   (.seq (.seq (.reg [.p p13 (.mv (.t p0)),
   .p p14 (.call 12 [(.t p13), (.c (.str 1 10))]),
   .p p15 (.lenSlc (.t p14)),
   .p p16 (.mv (.c (.int .i64 (.ofNat 0))))])
   (.block 0 (.loop (.seq (.reg [.p p17 (.bin .lss (.t p16) (.t p15))])
   (.seq (.cond (.t p17) .skip (.exit 0))
   (.seq (.block 1 (.seq (.reg [.p p18 (.mv (.t p16)),
   .p p19 (.iaddrS 1 (.t p14) (.t p16)),
   .p p20 (.load1 (.t p19)),
   .p p7 (.mv (.t p18)),
   .p p8 (.mv (.t p20))])
   (.seq (.reg [.p p22 (.mv (.t p8)),
   .p p23 (.call 24 [(.t p22)]),
   .p p21 (.mv (.t p23)),
   .p p24 (.extract 0 (.t p21)),
   .p p25 (.extract 1 (.t p21)),
   .p p9 (.mv (.t p24)),
   .p p10 (.mv (.t p25))])
   (.seq (.seq (.reg [.p p26 (.mv (.t p10)),
   .p p27 (.bin .eql (.t p26) (.c (.int .i64 (.ofNat 0)))),
   .p p28 (.mv (.t p27)),
   .g p29 (.mv (.t p9)) p28 true,
   .g p30 (.lenSlc (.t p29)) p28 true,
   .g p31 (.bin .gtr (.t p30) (.c (.int .i64 (.ofNat 0)))) p28 true,
   .p p32 (.pick (.t p28) (.t p31) (.c (.bool false)))])
   (.cond (.t p32) (.seq (.reg [.p p33 (.mv (.t p6)),
   .p p34 (.mv (.t p7)),
   .p p35 (.bin .add (.t p34) (.c (.int .i64 (.ofNat 1)))),
   .p p36 (.mv (.t p9)),
   .p p37 (.call 25 [(.t p5), (.t p33), (.t p35), (.t p36)]),
   .p p11 (.mv (.t p37))])
   (.seq (.reg [.p p38 (.mv (.t p11)),
   .p p39 (.eq true (.ifc true [32]) (.t p38) (.c (.nili)))])
   (.cond (.t p39) (.reg [.p p40 (.mv (.t p11)),
   .p p41 (.call 26 [(.t p40)]),
   .p p10 (.mv (.t p41))]) .skip))) .skip))
   (.seq (.reg [.p p42 (.mv (.t p10)),
   .p p43 (.bin .neq (.t p42) (.c (.int .i64 (.ofNat 0))))])
   (.cond (.t p43) (.seq (.reg [.p p44 (.build [] [.nils, .nils]),
   .p p45 (.mv (.t p7)),
   .p p46 (.bin .add (.t p45) (.c (.int .i64 (.ofNat 1)))),
   .p p47 (.mv (.t p10)),
   .n (.store 2 (.t p2) (.t p44)),
   .p p3 (.mv (.t p46)),
   .p p4 (.mv (.t p47))])
   .ret) .skip))))))
   (.reg [.p p48 (.bin .add (.t p16) (.c (.int .i64 (.ofNat 1)))),
   .p p16 (.mv (.t p48))])))))))
   (.seq (.reg [.p p49 (.loadn 2 (.t p5)),
   .n (.store 2 (.t p2) (.t p49)),
   .p p3 (.mv (.c (.int .i64 (.ofNat 0)))),
   .p p4 (.mv (.c (.int .i64 (.ofNat 0))))])
   .ret)))))
   [.cell p2 2, .t p3, .t p4]
/- bastion/desc.Print -/
def a14 : AF :=
  .code [p0] (.seq (.reg [.p p1 (.box 31 (.t p0)),
   .p p2 (.mv (.c (.str 0 0))),
   .p p3 (.mv (.c (.int .i64 (.ofNat 0))))])
   (.seq (.reg [.p p11 (.call 23 []),
   .p p12 (.build [([.nils, .nils], 1, (.t p11))] [.nilp, .nils, .int .i64 (.ofNat 0)]),
   .p p13 (.box 63 (.t p12)),
   .p p4 (.mv (.t p13))])
   (.seq (.seq (.reg [.p p14 (.mv (.t p4)),
   .p p15 (.faddr 0 (.t p1)),
   .p p16 (.load1 (.t p15)),
   .p p17 (.call 27 [(.t p14), (.c (.str 0 0)), (.t p16)]),
   .p p5 (.mv (.t p17))])
   (.seq (.reg [.p p18 (.mv (.t p5)),
   .p p19 (.eq true (.ifc true [32]) (.t p18) (.c (.nili)))])
   (.cond (.t p19) (.seq (.reg [.p p20 (.mv (.t p5)),
   .p p21 (.call 26 [(.t p20)]),
   .p p2 (.mv (.c (.str 0 0))),
   .p p3 (.mv (.t p21))])
   .ret) .skip)))
   (.seq (.seq (.reg [.p p22 (.faddr 1 (.t p1)),
   .p p23 (.load1 (.t p22)),
   .p p24 (.lenSlc (.t p23)),
   .p p25 (.mv (.c (.int .i64 (.ofNat 0))))])
   (.block 0 (.loop (.seq (.reg [.p p26 (.bin .lss (.t p25) (.t p24))])
   (.seq (.cond (.t p26) .skip (.exit 0))
   (.seq (.block 1 (.seq (.reg [.p p27 (.iaddrS 4 (.t p23) (.t p25)),
   .p p28 (.loadn 4 (.t p27)),
   .p p7 (.alloc 38 [.int .i64 (.ofNat 0), .int .u8 (.ofNat 0), .str 0 0, .nils]),
   .n (.store 4 (.t p7) (.t p28))])
   (.seq (.reg [.p p8 (.mv (.c (.str 0 0)))])
   (.seq (.seq (.reg [.p p29 (.faddr 1 (.t p7)),
   .p p30 (.load1 (.t p29))])
   (.block 2 (.seq (.reg [.p p32 (.bin .eql (.t p30) (.c (.int .u8 (.ofNat 1)))),
   .p p31 (.mv (.t p32))])
   (.cond (.t p31) (.reg [.p p8 (.mv (.c (.str 8 7310575213499737460)))]) (.seq (.reg [.p p34 (.bin .eql (.t p30) (.c (.int .u8 (.ofNat 2)))),
   .p p33 (.mv (.t p34))])
   (.cond (.t p33) (.reg [.p p8 (.mv (.c (.str 3 6451050)))]) (.seq (.reg [.p p2 (.mv (.c (.str 0 0))),
   .p p3 (.mv (.c (.int .i64 (.ofNat 1))))])
   .ret)))))))
   (.seq (.seq (.reg [.p p35 (.mv (.t p4)),
   .p p36 (.mv (.t p8)),
   .p p37 (.faddr 2 (.t p7)),
   .p p38 (.load1 (.t p37)),
   .p p39 (.bslice 9 2 1 [([], 1, (.t p36)), ([], 1, (.t p38))] []),
   .p p40 (.call 28 [(.t p35), (.c (.str 0 0)), (.t p39)]),
   .p p9 (.mv (.t p40))])
   (.seq (.reg [.p p41 (.mv (.t p9)),
   .p p42 (.eq true (.ifc true [32]) (.t p41) (.c (.nili)))])
   (.cond (.t p42) (.seq (.reg [.p p43 (.mv (.t p9)),
   .p p44 (.call 26 [(.t p43)]),
   .p p2 (.mv (.c (.str 0 0))),
   .p p3 (.mv (.t p44))])
   .ret) .skip)))
   (.seq (.reg [.p p45 (.mv (.t p4)),
   .p p46 (.faddr 3 (.t p7)),
   .p p47 (.load1 (.t p46)),
   .p p48 (.call 27 [(.t p45), (.c (.str 2 8224)), (.t p47)]),
   .p p10 (.mv (.t p48))])
   (.seq (.reg [.p p49 (.mv (.t p10)),
   .p p50 (.eq true (.ifc true [32]) (.t p49) (.c (.nili)))])
   (.cond (.t p50) (.seq (.reg [.p p51 (.mv (.t p10)),
   .p p52 (.call 26 [(.t p51)]),
   .p p2 (.mv (.c (.str 0 0))),
   .p p3 (.mv (.t p52))])
   .ret) .skip))))))))
   (.reg [.p p53 (.bin .add (.t p25) (.c (.int .i64 (.ofNat 1)))),
   .p p25 (.mv (.t p53))])))))))
   (.seq (.reg [.p p54 (.mv (.t p4)),
   .p p55 (.nilck (.t p54)),
   .p p56 (.faddr 3 (.t p55)),
   .p p57 (.call 29 [(.t p56)]),
   .p p2 (.mv (.t p57)),
   .p p3 (.mv (.c (.int .i64 (.ofNat 0))))])
   .ret)))))
   [.t p2, .t p3]
def a15 : AF := .no
def a16 : AF := .no
/- strings.makeASCIISet -/
def a17 : AF :=
  .code [p0] (.seq (.reg [.p p2 (.alloc 43 [.bool false, .bool false, .bool false, .bool false, .bool false, .bool false, .bool false, .bool false, .bool false, .bool false, .bool false, .bool false, .bool false, .bool false, .bool false, .bool false, .bool false, .bool false, .bool false, .bool false, .bool false, .bool false, .bool false, .bool false, .bool false, .bool false, .bool false, .bool false, .bool false, .bool false, .bool false, .bool false, .bool false, .bool false, .bool false, .bool false, .bool false, .bool false, .bool false, .bool false, .bool false, .bool false, .bool false, .bool false, .bool false, .bool false, .bool false, .bool false, .bool false, .bool false, .bool false, .bool false, .bool false, .bool false, .bool false, .bool false, .bool false, .bool false, .bool false, .bool false, .bool false, .bool false, .bool false, .bool false, .bool false, .bool false, .bool false, .bool false, .bool false, .bool false, .bool false, .bool false, .bool false, .bool false, .bool false, .bool false, .bool false, .bool false, .bool false, .bool false, .bool false, .bool false, .bool false, .bool false, .bool false, .bool false, .bool false, .bool false, .bool false, .bool false, .bool false, .bool false, .bool false, .bool false, .bool false, .bool false, .bool false, .bool false, .bool false, .bool false, .bool false, .bool false, .bool false, .bool false, .bool false, .bool false, .bool false, .bool false, .bool false, .bool false, .bool false, .bool false, .bool false, .bool false, .bool false, .bool false, .bool false, .bool false, .bool false, .bool false, .bool false, .bool false, .bool false, .bool false, .bool false, .bool false, .bool false, .bool false, .bool false, .bool false, .bool false, .bool false, .bool false, .bool false, .bool false, .bool false, .bool false, .bool false, .bool false, .bool false, .bool false, .bool false, .bool false, .bool false, .bool false, .bool false, .bool false, .bool false, .bool false, .bool false, .bool false, .bool false, .bool false, .bool false, .bool false, .bool false, .bool false, .bool false, .bool false, .bool false, .bool false, .bool false, .bool false, .bool false, .bool false, .bool false, .bool false, .bool false, .bool false, .bool false, .bool false, .bool false, .bool false, .bool false, .bool false, .bool false, .bool false, .bool false, .bool false, .bool false, .bool false, .bool false, .bool false, .bool false, .bool false, .bool false, .bool false, .bool false, .bool false, .bool false, .bool false, .bool false, .bool false, .bool false, .bool false, .bool false, .bool false, .bool false, .bool false, .bool false, .bool false, .bool false, .bool false, .bool false, .bool false, .bool false, .bool false, .bool false, .bool false, .bool false, .bool false, .bool false, .bool false, .bool false, .bool false, .bool false, .bool false, .bool false, .bool false, .bool false, .bool false, .bool false, .bool false, .bool false, .bool false, .bool false, .bool false, .bool false, .bool false, .bool false, .bool false, .bool false, .bool false, .bool false, .bool false, .bool false, .bool false, .bool false, .bool false, .bool false, .bool false, .bool false, .bool false, .bool false, .bool false, .bool false, .bool false, .bool false, .bool false, .bool false, .bool false, .bool false, .bool false, .bool false, .bool false, .bool false]),
   .p p3 (.mv (.c (.bool false)))])
   (.seq (.seq (.reg [.p p4 (.mv (.c (.int .i64 (.ofNat 0))))])
   (.block 0 (.loop (.seq (.seq (.reg [.p p6 (.mv (.t p4)),
   .p p7 (.mv (.t p0)),
   .p p8 (.lenStr (.t p7)),
   .p p9 (.bin .lss (.t p6) (.t p8))])
   (.cond (.t p9) .skip (.exit 0)))
   (.seq (.block 1 (.seq (.reg [.p p12 (.mv (.t p0)),
   .p p13 (.mv (.t p4)),
   .p p14 (.idxStr (.t p12) (.t p13)),
   .p p5 (.mv (.t p14))])
   (.seq (.seq (.reg [.p p15 (.mv (.t p5)),
   .p p16 (.bin .geq (.t p15) (.c (.int .u8 (.ofNat 128))))])
   (.cond (.t p16) (.seq (.reg [.p p17 (.loadn 256 (.t p2)),
   .n (.store 256 (.t p2) (.t p17)),
   .p p3 (.mv (.c (.bool false)))])
   .ret) .skip))
   (.reg [.p p18 (.mv (.t p5)),
   .p p19 (.iaddrA 256 1 (.t p2) (.t p18)),
   .n (.store 1 (.t p19) (.c (.bool true)))]))))
   (.reg [.p p10 (.mv (.t p4)),
   .p p11 (.bin .add (.t p10) (.c (.int .i64 (.ofNat 1)))),
   .p p4 (.mv (.t p11))]))))))
   (.seq (.reg [.p p20 (.loadn 256 (.t p2)),
   .n (.store 256 (.t p2) (.t p20)),
   .p p3 (.mv (.c (.bool true)))])
   .ret)))
   [.cell p2 256, .t p3]
/- strings.trimLeftASCII -/
def a18 : AF :=
  .code [p0, p1] (.seq (.reg [.p p4 (.mv (.c (.str 0 0)))])
   (.seq (.block 0 (.loop (.seq (.seq (.reg [.p p5 (.mv (.t p0)),
   .p p6 (.lenStr (.t p5)),
   .p p7 (.bin .gtr (.t p6) (.c (.int .i64 (.ofNat 0))))])
   (.cond (.t p7) .skip (.exit 0)))
   (.block 1 (.seq (.seq (.reg [.p p8 (.mv (.t p1)),
   .p p9 (.mv (.t p0)),
   .p p10 (.idxStr (.t p9) (.c (.int .i64 (.ofNat 0)))),
   .p p11 (.call 30 [(.t p8), (.t p10)]),
   .p p12 (.not (.t p11))])
   (.cond (.t p12) (.exit 0) .skip))
   (.reg [.p p13 (.mv (.t p0)),
   .p p14 (.sliceStr (.t p13) (some (.c (.int .i64 (.ofNat 1)))) none),
   .p p0 (.mv (.t p14))]))))))
   (.seq (.reg [.p p15 (.mv (.t p0)),
   .p p4 (.mv (.t p15))])
   .ret)))
   [.t p4]
/- strings.trimRightASCII -/
def a19 : AF :=
  .code [p0, p1] (.seq (.reg [.p p4 (.mv (.c (.str 0 0)))])
   (.seq (.block 0 (.loop (.seq (.seq (.reg [.p p5 (.mv (.t p0)),
   .p p6 (.lenStr (.t p5)),
   .p p7 (.bin .gtr (.t p6) (.c (.int .i64 (.ofNat 0))))])
   (.cond (.t p7) .skip (.exit 0)))
   (.block 1 (.seq (.seq (.reg [.p p8 (.mv (.t p1)),
   .p p9 (.mv (.t p0)),
   .p p10 (.mv (.t p0)),
   .p p11 (.lenStr (.t p10)),
   .p p12 (.bin .sub (.t p11) (.c (.int .i64 (.ofNat 1)))),
   .p p13 (.idxStr (.t p9) (.t p12)),
   .p p14 (.call 30 [(.t p8), (.t p13)]),
   .p p15 (.not (.t p14))])
   (.cond (.t p15) (.exit 0) .skip))
   (.reg [.p p16 (.mv (.t p0)),
   .p p17 (.mv (.t p0)),
   .p p18 (.lenStr (.t p17)),
   .p p19 (.bin .sub (.t p18) (.c (.int .i64 (.ofNat 1)))),
   .p p20 (.sliceStr (.t p16) none (some (.t p19))),
   .p p0 (.mv (.t p20))]))))))
   (.seq (.reg [.p p21 (.mv (.t p0)),
   .p p4 (.mv (.t p21))])
   .ret)))
   [.t p4]
def a20 : AF := .no
def a21 : AF := .no
/- strings.genSplit -/
def a22 : AF :=
  .code [p0, p1, p2, p3] (.seq (.reg [.p p8 (.mv (.c (.nils)))])
   (.seq (.seq (.reg [.p p12 (.mv (.t p3)),
   .p p13 (.bin .eql (.t p12) (.c (.int .i64 (.ofNat 0))))])
   (.cond (.t p13) (.seq (.reg [.p p8 (.mv (.c (.nils)))])
   .ret) .skip))
   (.seq (.seq (.reg [.p p14 (.mv (.t p1)),
   .p p15 (.bin .eql (.t p14) (.c (.str 0 0)))])
   (.cond (.t p15) (.seq (.reg [.p p16 (.mv (.t p0)),
   .p p17 (.mv (.t p3)),
   .p p18 (.call 34 [(.t p16), (.t p17)]),
   .p p8 (.mv (.t p18))])
   .ret) .skip))
   (.seq (.seq (.reg [.p p19 (.mv (.t p3)),
   .p p20 (.bin .lss (.t p19) (.c (.int .i64 (.ofNat 0))))])
   (.cond (.t p20) (.reg [.p p21 (.mv (.t p0)),
   .p p22 (.mv (.t p1)),
   .p p23 (.call 35 [(.t p21), (.t p22)]),
   .p p24 (.bin .add (.t p23) (.c (.int .i64 (.ofNat 1)))),
   .p p3 (.mv (.t p24))]) .skip))
   (.seq (.reg [.p p25 (.mv (.t p3)),
   .p p26 (.mv (.t p0)),
   .p p27 (.lenStr (.t p26)),
   .p p28 (.bin .add (.t p27) (.c (.int .i64 (.ofNat 1)))),
   .p p29 (.min (.t p25) (.t p28)),
   .p p3 (.mv (.t p29))])
   (.seq (.reg [.p p30 (.mv (.t p3)),
   .p p31 (.mkslice 9 1 16 [.str 0 0] (.t p30) (.t p30)),
   .p p9 (.mv (.t p31))])
   (.seq (.reg [.p p32 (.mv (.t p3)),
   .p p33 (.bin .sub (.t p32) (.c (.int .i64 (.ofNat 1)))),
   .p p3 (.mv (.t p33))])
   (.seq (.reg [.p p10 (.mv (.c (.int .i64 (.ofNat 0))))])
   (.seq (.block 0 (.loop (.seq (.seq (.reg [.p p34 (.mv (.t p10)),
   .p p35 (.mv (.t p3)),
   .p p36 (.bin .lss (.t p34) (.t p35))])
   (.cond (.t p36) .skip (.exit 0)))
   (.block 1 (.seq (.reg [.p p37 (.mv (.t p0)),
   .p p38 (.mv (.t p1)),
   .p p39 (.call 36 [(.t p37), (.t p38)]),
   .p p11 (.mv (.t p39))])
   (.seq (.seq (.reg [.p p40 (.mv (.t p11)),
   .p p41 (.bin .lss (.t p40) (.c (.int .i64 (.ofNat 0))))])
   (.cond (.t p41) (.exit 0) .skip))
   (.seq (.reg [.p p42 (.mv (.t p9)),
   .p p43 (.mv (.t p10)),
   .p p44 (.mv (.t p0)),
   .p p45 (.mv (.t p11)),
   .p p46 (.mv (.t p2)),
   .p p47 (.bin .add (.t p45) (.t p46)),
   .p p48 (.sliceStr (.t p44) none (some (.t p47))),
   .p p49 (.iaddrS 1 (.t p42) (.t p43)),
   .n (.store 1 (.t p49) (.t p48))])
   (.seq (.reg [.p p50 (.mv (.t p0)),
   .p p51 (.mv (.t p11)),
   .p p52 (.mv (.t p1)),
   .p p53 (.lenStr (.t p52)),
   .p p54 (.bin .add (.t p51) (.t p53)),
   .p p55 (.sliceStr (.t p50) (some (.t p54)) none),
   .p p0 (.mv (.t p55))])
   (.reg [.p p56 (.mv (.t p10)),
   .p p57 (.bin .add (.t p56) (.c (.int .i64 (.ofNat 1)))),
   .p p10 (.mv (.t p57))])))))))))
   (.seq (.reg [.p p58 (.mv (.t p9)),
   .p p59 (.mv (.t p10)),
   .p p60 (.mv (.t p0)),
   .p p61 (.iaddrS 1 (.t p58) (.t p59)),
   .n (.store 1 (.t p61) (.t p60))])
   (.seq (.reg [.p p62 (.mv (.t p9)),
   .p p63 (.mv (.t p10)),
   .p p64 (.bin .add (.t p63) (.c (.int .i64 (.ofNat 1)))),
   .p p65 (.sliceS 1 (.t p62) none (some (.t p64)) none),
   .p p8 (.mv (.t p65))])
   .ret)))))))))))
   [.t p8]
/- bastion/desc.rules -/
def a23 : AF :=
  .code [] (.seq (.reg [.p p0 (.mv (.c (.nilm)))])
   (.seq (.reg [.p p1 (.mv (.c (.fn 37 [] [])))])
   (.seq (.reg [.p p2 (.mv (.c (.fn 38 [] [])))])
   (.seq (.reg [.p p3 (.mv (.c (.fn 39 [] [])))])
   (.seq (.reg [.p p4 (.mv (.c (.fn 40 [] [])))])
   (.seq (.reg [.p p5 (.mv (.c (.fn 41 [] [])))])
   (.seq (.reg [.p p6 (.mkmap),
   .p p7 (.mv (.t p1)),
   .p p8 (.build [([], 1, (.t p7)), ([], 1, (.c (.int .i64 (.ofNat 1)))), ([], 1, (.c (.int .i64 (.ofNat 1)))), ([.int .i64 (.ofNat 0)], 1, (.c (.fn 6 [] [])))] [.int .i64 (.ofNat 0), .bool false]),
   .n (.insert .str (.t p6) (.c (.str 7 28539428140183145)) (.t p8)),
   .p p9 (.mv (.t p1)),
   .p p10 (.mv (.t p5)),
   .p p11 (.build [([], 1, (.t p9)), ([], 1, (.c (.int .i64 (.ofNat 1)))), ([], 1, (.c (.int .i64 (.ofNat 400)))), ([.int .i64 (.ofNat 0)], 1, (.t p10))] [.int .i64 (.ofNat 0), .bool false]),
   .n (.insert .str (.t p6) (.c (.str 2 28271)) (.t p11)),
   .p p12 (.mv (.t p1)),
   .p p13 (.mv (.t p5)),
   .p p14 (.build [([], 1, (.t p12)), ([], 1, (.c (.int .i64 (.ofNat 1)))), ([], 1, (.c (.int .i64 (.ofNat 400)))), ([.int .i64 (.ofNat 0)], 1, (.t p13))] [.int .i64 (.ofNat 0), .bool false]),
   .n (.insert .str (.t p6) (.c (.str 5 495673696624)) (.t p14)),
   .p p15 (.mv (.t p3)),
   .p p16 (.build [([], 1, (.t p15)), ([], 1, (.c (.int .i64 (.ofNat 2)))), ([], 1, (.c (.int .i64 (.ofNat 2)))), ([], 1, (.c (.int .i64 (.ofNat 1))))] [.nilf, .int .i64 (.ofNat 0), .bool false]),
   .n (.insert .str (.t p6) (.c (.str 3 7496054)) (.t p16)),
   .p p17 (.mv (.t p4)),
   .p p18 (.build [([], 1, (.t p17)), ([], 1, (.c (.int .i64 (.ofNat 1)))), ([], 1, (.c (.int .i64 (.ofNat 1)))), ([], 1, (.c (.int .i64 (.negSucc 0))))] [.nilf, .int .i64 (.ofNat 0), .bool false]),
   .n (.insert .str (.t p6) (.c (.str 3 6648693)) (.t p18)),
   .p p19 (.mv (.t p2)),
   .p p20 (.build [([], 1, (.t p19)), ([], 1, (.c (.int .i64 (.ofNat 1)))), ([], 1, (.c (.int .i64 (.ofNat 400)))), ([], 1, (.c (.int .i64 (.negSucc 0))))] [.nilf, .int .i64 (.ofNat 0), .bool false]),
   .n (.insert .str (.t p6) (.c (.str 5 495605605742)) (.t p20)),
   .p p21 (.mv (.t p2)),
   .p p22 (.build [([], 1, (.t p21)), ([], 1, (.c (.int .i64 (.ofNat 1)))), ([], 1, (.c (.int .i64 (.ofNat 400)))), ([], 1, (.c (.int .i64 (.negSucc 0))))] [.nilf, .int .i64 (.ofNat 0), .bool false]),
   .n (.insert .str (.t p6) (.c (.str 4 1936154996)) (.t p22)),
   .p p23 (.mv (.t p2)),
   .p p24 (.build [([], 1, (.t p23)), ([], 1, (.c (.int .i64 (.ofNat 2)))), ([], 1, (.c (.int .i64 (.ofNat 400)))), ([], 1, (.c (.int .i64 (.ofNat 1)))), ([], 1, (.c (.fn 43 [] []))), ([.int .i64 (.ofNat 0)], 1, (.c (.bool true)))] []),
   .n (.insert .str (.t p6) (.c (.str 4 1936291937)) (.t p24)),
   .p p25 (.mv (.t p2)),
   .p p26 (.build [([], 1, (.t p25)), ([], 1, (.c (.int .i64 (.ofNat 1)))), ([], 1, (.c (.int .i64 (.ofNat 400)))), ([.int .i64 (.ofNat 0), .nilf, .int .i64 (.ofNat 0)], 1, (.c (.bool true)))] []),
   .n (.insert .str (.t p6) (.c (.str 4 1852139639)) (.t p26)),
   .p p27 (.mv (.t p2)),
   .p p28 (.build [([], 1, (.t p27)), ([], 1, (.c (.int .i64 (.ofNat 1)))), ([], 1, (.c (.int .i64 (.ofNat 400))))] [.int .i64 (.ofNat 0), .nilf, .int .i64 (.ofNat 0), .bool false]),
   .n (.insert .str (.t p6) (.c (.str 2 28516)) (.t p28)),
   .p p29 (.mv (.t p2)),
   .p p30 (.build [([], 1, (.t p29)), ([], 1, (.c (.int .i64 (.ofNat 1)))), ([], 1, (.c (.int .i64 (.ofNat 1)))), ([.int .i64 (.ofNat 0), .nilf], 1, (.c (.int .i64 (.ofNat 5)))), ([], 1, (.c (.bool true)))] []),
   .n (.insert .str (.t p6) (.c (.str 5 495622648436)) (.t p30)),
   .p p31 (.mv (.t p2)),
   .p p32 (.build [([], 1, (.t p31)), ([], 1, (.c (.int .i64 (.ofNat 1)))), ([], 1, (.c (.int .i64 (.ofNat 1)))), ([.int .i64 (.ofNat 0), .nilf], 1, (.c (.int .i64 (.ofNat 1000)))), ([], 1, (.c (.bool true)))] []),
   .n (.insert .str (.t p6) (.c (.str 5 499984984428)) (.t p32)),
   .p p33 (.mv (.t p2)),
   .p p34 (.build [([], 1, (.t p33)), ([.int .i64 (.ofNat 0), .int .i64 (.ofNat 0), .int .i64 (.ofNat 0), .nilf, .int .i64 (.ofNat 0)], 1, (.c (.bool true)))] []),
   .n (.insert .str (.t p6) (.c (.str 6 119165837795693)) (.t p34)),
   .p p35 (.mv (.t p2)),
   .p p36 (.mv (.t p5)),
   .p p37 (.build [([], 1, (.t p35)), ([], 1, (.c (.int .i64 (.ofNat 1)))), ([], 1, (.c (.int .i64 (.ofNat 400)))), ([.int .i64 (.ofNat 0)], 1, (.t p36))] [.int .i64 (.ofNat 0), .bool false]),
   .n (.insert .str (.t p6) (.c (.str 4 1885693291)) (.t p37)),
   .p p38 (.mv (.t p6)),
   .p p0 (.mv (.t p38))])
   .ret)))))))
   [.t p0]
/- bastion/words.Split -/
def a24 : AF :=
  .code [p0] (.seq (.reg [.p p2 (.mv (.c (.nils))),
   .p p3 (.mv (.c (.int .i64 (.ofNat 0))))])
   (.seq (.seq (.reg [.p p10 (.mv (.t p0)),
   .p p11 (.lenStr (.t p10)),
   .p p12 (.bin .gtr (.t p11) (.c (.int .i64 (.ofNat 400))))])
   (.cond (.t p12) (.seq (.reg [.p p2 (.mv (.c (.nils))),
   .p p3 (.mv (.c (.int .i64 (.ofNat 40))))])
   .ret) .skip))
   (.seq (.reg [.p p4 (.mv (.c (.nils)))])
   (.seq (.reg [.p p13 (.mv (.t p0)),
   .p p5 (.mv (.t p13))])
   (.block 0 (.loop (.block 1 (.seq (.reg [.p p14 (.mv (.t p5)),
   .p p15 (.call 44 [(.t p14), (.c (.str 2 2336))]),
   .p p5 (.mv (.t p15))])
   (.block 2 (.seq (.reg [.p p49 (.mv (.t p5)),
   .p p50 (.bin .eql (.t p49) (.c (.str 0 0))),
   .p p48 (.mv (.t p50))])
   (.cond (.t p48) (.seq (.reg [.p p51 (.mv (.t p4)),
   .p p2 (.mv (.t p51)),
   .p p3 (.mv (.c (.int .i64 (.ofNat 0))))])
   .ret) (.seq (.reg [.p p53 (.mv (.t p5)),
   .p p54 (.idxStr (.t p53) (.c (.int .i64 (.ofNat 0)))),
   .p p55 (.bin .eql (.t p54) (.c (.int .u8 (.ofNat 35)))),
   .p p52 (.mv (.t p55))])
   (.cond (.t p52) (.seq (.seq (.reg [.p p56 (.mv (.t p5)),
   .p p57 (.call 45 [(.t p56), (.c (.str 1 10))])])
   (.cond (.t p57) (.seq (.reg [.p p2 (.mv (.c (.nils))),
   .p p3 (.mv (.c (.int .i64 (.ofNat 4))))])
   .ret) .skip))
   (.seq (.reg [.p p58 (.mv (.t p4)),
   .p p2 (.mv (.t p58)),
   .p p3 (.mv (.c (.int .i64 (.ofNat 0))))])
   .ret)) (.seq (.reg [.p p60 (.mv (.t p5)),
   .p p61 (.idxStr (.t p60) (.c (.int .i64 (.ofNat 0)))),
   .p p62 (.bin .eql (.t p61) (.c (.int .u8 (.ofNat 34)))),
   .p p59 (.mv (.t p62))])
   (.cond (.t p59) (.seq (.reg [.p p64 (.mv (.t p5)),
   .p p65 (.sliceStr (.t p64) (some (.c (.int .i64 (.ofNat 1)))) none),
   .p p66 (.call 46 [(.t p65)]),
   .p p63 (.mv (.t p66)),
   .p p67 (.extract 0 (.t p63)),
   .p p68 (.extract 1 (.t p63)),
   .p p69 (.extract 2 (.t p63)),
   .p p6 (.mv (.t p67)),
   .p p7 (.mv (.t p68)),
   .p p8 (.mv (.t p69))])
   (.seq (.seq (.reg [.p p70 (.mv (.t p8)),
   .p p71 (.not (.t p70)),
   .p p72 (.mv (.t p71)),
   .g p73 (.mv (.t p7)) p72 false,
   .g p74 (.bin .neq (.t p73) (.c (.str 0 0))) p72 false,
   .g p75 (.mv (.t p74)) p72 false,
   .g p76 (.mv (.t p7)) p75 true,
   .g p77 (.idxStr (.t p76) (.c (.int .i64 (.ofNat 0)))) p75 true,
   .g p78 (.bin .neq (.t p77) (.c (.int .u8 (.ofNat 32)))) p75 true,
   .g p79 (.pick (.t p75) (.t p78) (.c (.bool false))) p72 false,
   .g p80 (.mv (.t p79)) p72 false,
   .g p81 (.mv (.t p7)) p80 true,
   .g p82 (.idxStr (.t p81) (.c (.int .i64 (.ofNat 0)))) p80 true,
   .g p83 (.bin .neq (.t p82) (.c (.int .u8 (.ofNat 9)))) p80 true,
   .g p84 (.pick (.t p80) (.t p83) (.c (.bool false))) p72 false,
   .p p85 (.pick (.t p72) (.c (.bool true)) (.t p84))])
   (.cond (.t p85) (.seq (.reg [.p p2 (.mv (.c (.nils))),
   .p p3 (.mv (.c (.int .i64 (.ofNat 4))))])
   .ret) .skip))
   (.reg [.p p86 (.mv (.t p4)),
   .p p87 (.mv (.t p6)),
   .p p88 (.bslice 9 1 1 [([], 1, (.t p87))] []),
   .p p89 (.append 9 1 16 (.t p86) (.t p88)),
   .p p90 (.mv (.t p7)),
   .p p4 (.mv (.t p89)),
   .p p5 (.mv (.t p90))]))) (.seq (.reg [.p p9 (.mv (.c (.int .i64 (.ofNat 0))))])
   (.seq (.block 3 (.loop (.seq (.seq (.reg [.p p16 (.mv (.t p9)),
   .p p17 (.mv (.t p5)),
   .p p18 (.lenStr (.t p17)),
   .p p19 (.bin .lss (.t p16) (.t p18)),
   .p p20 (.mv (.t p19)),
   .g p21 (.mv (.t p5)) p20 true,
   .g p22 (.mv (.t p9)) p20 true,
   .g p23 (.idxStr (.t p21) (.t p22)) p20 true,
   .g p24 (.bin .neq (.t p23) (.c (.int .u8 (.ofNat 32)))) p20 true,
   .p p25 (.pick (.t p20) (.t p24) (.c (.bool false))),
   .p p26 (.mv (.t p25)),
   .g p27 (.mv (.t p5)) p26 true,
   .g p28 (.mv (.t p9)) p26 true,
   .g p29 (.idxStr (.t p27) (.t p28)) p26 true,
   .g p30 (.bin .neq (.t p29) (.c (.int .u8 (.ofNat 9)))) p26 true,
   .p p31 (.pick (.t p26) (.t p30) (.c (.bool false)))])
   (.cond (.t p31) .skip (.exit 3)))
   (.block 4 (.seq (.seq (.reg [.p p32 (.mv (.t p5)),
   .p p33 (.mv (.t p9)),
   .p p34 (.idxStr (.t p32) (.t p33)),
   .p p35 (.call 47 [(.t p34)]),
   .p p36 (.not (.t p35))])
   (.cond (.t p36) (.seq (.reg [.p p2 (.mv (.c (.nils))),
   .p p3 (.mv (.c (.int .i64 (.ofNat 4))))])
   .ret) .skip))
   (.reg [.p p37 (.mv (.t p9)),
   .p p38 (.bin .add (.t p37) (.c (.int .i64 (.ofNat 1)))),
   .p p9 (.mv (.t p38))]))))))
   (.dreg [(.p p39 (.mv (.t p4)), 0), (.p p40 (.mv (.t p5)), 0), (.p p41 (.mv (.t p9)), 0), (.p p42 (.sliceStr (.t p40) none (some (.t p41))), 6), (.p p43 (.bslice 9 1 1 [([], 1, (.t p42))] []), 14), (.p p44 (.append 9 1 16 (.t p39) (.t p43)), 31), (.p p45 (.mv (.t p5)), 0), (.p p46 (.mv (.t p9)), 0), (.p p47 (.sliceStr (.t p45) (some (.t p46)) none), 192), (.p p4 (.mv (.t p44)), 63), (.p p5 (.mv (.t p47)), 1023)]))))))))))))))))))
   [.t p2, .t p3]
/- (*bastion/desc.Doc).line -/
def a25 : AF :=
  .code [p0, p1, p2, p3] (.seq (.reg [.p p8 (.mv (.c (.nili)))])
   (.seq (.seq (.reg [.p p15 (.mv (.t p3)),
   .p p16 (.iaddrS 1 (.t p15) (.c (.int .i64 (.ofNat 0)))),
   .p p17 (.load1 (.t p16))])
   (.block 0 (.seq (.reg [.p p19 (.bin .eql (.t p17) (.c (.str 8 7310575213499737460))),
   .p p18 (.mv (.t p19))])
   (.cond (.t p18) (.seq (.reg [.p p20 (.mv (.t p0)),
   .p p21 (.mv (.t p2)),
   .p p22 (.mv (.t p3)),
   .p p23 (.sliceS 1 (.t p22) (some (.c (.int .i64 (.ofNat 1)))) none none),
   .p p24 (.call 48 [(.t p20), (.t p21), (.c (.int .u8 (.ofNat 1))), (.t p23)]),
   .p p8 (.mv (.t p24))])
   .ret) (.seq (.reg [.p p26 (.bin .eql (.t p17) (.c (.str 3 6451050))),
   .p p25 (.mv (.t p26))])
   (.cond (.t p25) (.seq (.reg [.p p27 (.mv (.t p0)),
   .p p28 (.mv (.t p2)),
   .p p29 (.mv (.t p3)),
   .p p30 (.sliceS 1 (.t p29) (some (.c (.int .i64 (.ofNat 1)))) none none),
   .p p31 (.call 48 [(.t p27), (.t p28), (.c (.int .u8 (.ofNat 2))), (.t p30)]),
   .p p8 (.mv (.t p31))])
   .ret) .skip))))))
   (.seq (.dreg [(.p p32 (.mv (.t p0)), 0), (.p p33 (.nilck (.t p32)), 1), (.p p34 (.faddr 0 (.t p33)), 3), (.p p9 (.mv (.c (.int .u8 (.ofNat 0)))), 0), (.p p10 (.mv (.t p34)), 15)])
   (.seq (.seq (.reg [.p p35 (.mv (.t p0)),
   .p p36 (.nilck (.t p35)),
   .p p37 (.faddr 1 (.t p36)),
   .p p38 (.load1 (.t p37)),
   .p p39 (.lenSlc (.t p38)),
   .p p11 (.mv (.t p39))])
   (.seq (.reg [.p p40 (.mv (.t p11)),
   .p p41 (.bin .gtr (.t p40) (.c (.int .i64 (.ofNat 0))))])
   (.cond (.t p41) (.seq (.reg [.p p42 (.mv (.t p0)),
   .p p43 (.nilck (.t p42)),
   .p p44 (.faddr 1 (.t p43)),
   .p p45 (.load1 (.t p44)),
   .p p46 (.mv (.t p11)),
   .p p47 (.bin .sub (.t p46) (.c (.int .i64 (.ofNat 1)))),
   .p p48 (.iaddrS 4 (.t p45) (.t p47)),
   .p p12 (.mv (.t p48))])
   (.dreg [(.p p49 (.mv (.t p12)), 0), (.p p50 (.nilck (.t p49)), 1), (.p p51 (.faddr 1 (.t p50)), 3), (.p p52 (.load1 (.t p51)), 7), (.p p53 (.mv (.t p12)), 0), (.p p54 (.nilck (.t p53)), 16), (.p p55 (.faddr 3 (.t p54)), 48), (.p p9 (.mv (.t p52)), 15), (.p p10 (.mv (.t p55)), 255)])) .skip)))
   (.seq (.dreg [(.p p56 (.mv (.t p2)), 0), (.p p57 (.mv (.t p3)), 0), (.p p58 (.iaddrS 1 (.t p57) (.c (.int .i64 (.ofNat 0)))), 2), (.p p59 (.load1 (.t p58)), 6), (.p p60 (.mv (.t p3)), 0), (.p p61 (.sliceS 1 (.t p60) (some (.c (.int .i64 (.ofNat 1)))) none none), 16), (.p p62 (.build [([], 1, (.t p56)), ([], 1, (.t p59)), ([], 1, (.t p61))] []), 63), (.p p13 (.alloc 40 [.int .i64 (.ofNat 0), .str 0 0, .nils]), 0), (.n (.store 3 (.t p13) (.t p62)), 255)])
   (.seq (.seq (.dreg [(.p p63 (.mv (.t p1)), 0), (.p p64 (.faddr 1 (.t p13)), 0), (.p p65 (.load1 (.t p64)), 2), (.p p66 (.lookup .str false (.agg [.nilf, .int .i64 (.ofNat 0), .int .i64 (.ofNat 0), .int .i64 (.ofNat 0), .nilf, .int .i64 (.ofNat 0), .bool false]) (.t p63) (.t p65)), 7), (.p p67 (.mv (.t p9)), 0), (.p p68 (.mv (.t p10)), 0), (.p p69 (.nilck (.t p68)), 32), (.p p70 (.load1 (.t p69)), 96), (.p p71 (.loadn 3 (.t p13)), 0), (.p p72 (.call 49 [(.t p66), (.t p67), (.t p70), (.t p71)]), 511), (.p p14 (.mv (.t p72)), 1023)])
   (.seq (.reg [.p p73 (.mv (.t p14)),
   .p p74 (.eq true (.ifc true [32]) (.t p73) (.c (.nili)))])
   (.cond (.t p74) (.seq (.reg [.p p75 (.mv (.t p14)),
   .p p8 (.mv (.t p75))])
   .ret) .skip)))
   (.seq (.dreg [(.p p76 (.mv (.t p10)), 0), (.p p77 (.mv (.t p10)), 0), (.p p78 (.nilck (.t p77)), 2), (.p p79 (.load1 (.t p78)), 6), (.p p80 (.loadn 3 (.t p13)), 0), (.p p81 (.bslice 40 1 3 [([], 3, (.t p80))] []), 16), (.p p82 (.append 40 3 48 (.t p79) (.t p81)), 62), (.p p83 (.nilck (.t p76)), 127), (.n (.store 1 (.t p83) (.t p82)), 255)])
   (.seq (.reg [.p p8 (.mv (.c (.nili)))])
   .ret))))))))
   [.t p8]
def a26 : AF := .no
/- (*bastion/desc.printer).items -/
def a27 : AF :=
  .code [p0, p1, p2] (.seq (.reg [.p p6 (.mv (.c (.nili)))])
   (.seq (.seq (.reg [.p p13 (.mv (.t p2)),
   .p p14 (.lenSlc (.t p13)),
   .p p15 (.mv (.c (.int .i64 (.ofNat 0))))])
   (.block 0 (.loop (.seq (.reg [.p p16 (.bin .lss (.t p15) (.t p14))])
   (.seq (.cond (.t p16) .skip (.exit 0))
   (.seq (.block 1 (.seq (.reg [.p p17 (.iaddrS 3 (.t p13) (.t p15)),
   .p p18 (.loadn 3 (.t p17)),
   .p p8 (.alloc 40 [.int .i64 (.ofNat 0), .str 0 0, .nils]),
   .n (.store 3 (.t p8) (.t p18))])
   (.seq (.reg [.p p19 (.faddr 1 (.t p8)),
   .p p20 (.load1 (.t p19)),
   .p p21 (.bslice 9 1 1 [([], 1, (.t p20))] []),
   .p p22 (.faddr 2 (.t p8)),
   .p p23 (.load1 (.t p22)),
   .p p24 (.append 9 1 16 (.t p21) (.t p23)),
   .p p9 (.mv (.t p24))])
   (.seq (.seq (.reg [.p p25 (.faddr 1 (.t p8)),
   .p p26 (.load1 (.t p25)),
   .p p27 (.bin .eql (.t p26) (.c (.str 8 7310575213499737460))),
   .p p28 (.mv (.t p27)),
   .g p29 (.faddr 1 (.t p8)) p28 false,
   .g p30 (.load1 (.t p29)) p28 false,
   .g p31 (.bin .eql (.t p30) (.c (.str 3 6451050))) p28 false,
   .p p32 (.pick (.t p28) (.c (.bool true)) (.t p31))])
   (.cond (.t p32) (.seq (.seq (.reg [.p p34 (.mv (.t p9)),
   .p p35 (.call 51 [(.t p34)]),
   .p p33 (.mv (.t p35)),
   .p p36 (.extract 0 (.t p33)),
   .p p37 (.extract 1 (.t p33)),
   .p p10 (.mv (.t p36)),
   .p p11 (.mv (.t p37))])
   (.seq (.reg [.p p38 (.mv (.t p11)),
   .p p39 (.bin .neq (.t p38) (.c (.int .i64 (.ofNat 0)))),
   .p p40 (.mv (.t p39)),
   .g p41 (.mv (.t p1)) p40 false,
   .g p42 (.lenStr (.t p41)) p40 false,
   .g p43 (.mv (.t p10)) p40 false,
   .g p44 (.lenStr (.t p43)) p40 false,
   .g p45 (.bin .add (.t p42) (.t p44)) p40 false,
   .g p46 (.bin .gtr (.t p45) (.c (.int .i64 (.ofNat 400)))) p40 false,
   .p p47 (.pick (.t p40) (.c (.bool true)) (.t p46))])
   (.cond (.t p47) (.seq (.reg [.p p48 (.mkif 32 (.c (.int .i64 (.ofNat 40)))),
   .p p6 (.mv (.t p48))])
   .ret) .skip)))
   (.seq (.reg [.p p49 (.mkif 32 (.c (.int .i64 (.ofNat 4)))),
   .p p6 (.mv (.t p49))])
   .ret)) .skip))
   (.seq (.reg [.p p50 (.mv (.t p0)),
   .p p51 (.mv (.t p1)),
   .p p52 (.mv (.t p9)),
   .p p53 (.call 28 [(.t p50), (.t p51), (.t p52)]),
   .p p12 (.mv (.t p53))])
   (.seq (.reg [.p p54 (.mv (.t p12)),
   .p p55 (.eq true (.ifc true [32]) (.t p54) (.c (.nili)))])
   (.cond (.t p55) (.seq (.reg [.p p56 (.mv (.t p12)),
   .p p6 (.mv (.t p56))])
   .ret) .skip)))))))
   (.reg [.p p57 (.bin .add (.t p15) (.c (.int .i64 (.ofNat 1)))),
   .p p15 (.mv (.t p57))])))))))
   (.seq (.reg [.p p6 (.mv (.c (.nili)))])
   .ret)))
   [.t p6]
/- (*bastion/desc.printer).put -/
def a28 : AF :=
  .code [p0, p1, p2] (.seq (.reg [.p p6 (.mv (.c (.nili)))])
   (.seq (.reg [.p p9 (.mv (.t p0)),
   .p p10 (.nilck (.t p9)),
   .p p11 (.faddr 5 (.t p10)),
   .p p12 (.load1 (.t p11)),
   .p p13 (.bin .add (.t p12) (.c (.int .i64 (.ofNat 1)))),
   .p p14 (.nilck (.t p9)),
   .p p15 (.faddr 5 (.t p14)),
   .n (.store 1 (.t p15) (.t p13))])
   (.seq (.reg [.p p17 (.mv (.t p2)),
   .p p18 (.call 51 [(.t p17)]),
   .p p16 (.mv (.t p18)),
   .p p19 (.extract 0 (.t p16)),
   .p p20 (.extract 1 (.t p16)),
   .p p7 (.mv (.t p19)),
   .p p8 (.mv (.t p20))])
   (.seq (.seq (.reg [.p p21 (.mv (.t p8)),
   .p p22 (.bin .neq (.t p21) (.c (.int .i64 (.ofNat 0)))),
   .p p23 (.mv (.t p22)),
   .g p24 (.mv (.t p1)) p23 false,
   .g p25 (.lenStr (.t p24)) p23 false,
   .g p26 (.mv (.t p7)) p23 false,
   .g p27 (.lenStr (.t p26)) p23 false,
   .g p28 (.bin .add (.t p25) (.t p27)) p23 false,
   .g p29 (.bin .gtr (.t p28) (.c (.int .i64 (.ofNat 400)))) p23 false,
   .p p30 (.pick (.t p23) (.c (.bool true)) (.t p29))])
   (.cond (.t p30) (.seq (.reg [.p p31 (.mkif 32 (.c (.int .i64 (.ofNat 40)))),
   .p p6 (.mv (.t p31))])
   .ret) .skip))
   (.seq (.reg [.p p32 (.mv (.t p0)),
   .p p33 (.nilck (.t p32)),
   .p p34 (.faddr 3 (.t p33)),
   .p p35 (.mv (.t p1)),
   .p p36 (.call 52 [(.t p34), (.t p35)])])
   (.seq (.reg [.p p37 (.mv (.t p0)),
   .p p38 (.nilck (.t p37)),
   .p p39 (.faddr 3 (.t p38)),
   .p p40 (.mv (.t p7)),
   .p p41 (.call 52 [(.t p39), (.t p40)])])
   (.seq (.reg [.p p42 (.mv (.t p0)),
   .p p43 (.nilck (.t p42)),
   .p p44 (.faddr 3 (.t p43)),
   .p p45 (.call 53 [(.t p44), (.c (.int .u8 (.ofNat 10)))])])
   (.seq (.dreg [(.p p46 (.mv (.t p0)), 0), (.p p47 (.nilck (.t p46)), 1), (.p p48 (.faddr 0 (.t p47)), 3), (.p p49 (.mv (.t p0)), 0), (.p p50 (.nilck (.t p49)), 8), (.p p51 (.faddr 2 (.t p50)), 24), (.p p52 (.load1 (.t p51)), 56), (.p p53 (.mv (.t p0)), 0), (.p p54 (.nilck (.t p53)), 128), (.p p55 (.faddr 5 (.t p54)), 384), (.p p56 (.load1 (.t p55)), 896), (.p p57 (.mv (.t p2)), 0), (.p p58 (.call 25 [(.t p48), (.t p52), (.t p56), (.t p57)]), 4095), (.p p6 (.mv (.t p58)), 8191)])
   .ret))))))))
   [.t p6]
/- (*strings.Builder).String -/
def a29 : AF :=
  .code [p0] (.seq (.reg [.p p2 (.mv (.c (.str 0 0)))])
   (.seq (.dreg [(.p p3 (.mv (.t p0)), 0), (.p p4 (.nilck (.t p3)), 1), (.p p5 (.faddr 1 (.t p4)), 3), (.p p6 (.load1 (.t p5)), 7), (.p p7 (.usd (.t p6)), 15), (.p p8 (.mv (.t p0)), 0), (.p p9 (.nilck (.t p8)), 32), (.p p10 (.faddr 1 (.t p9)), 96), (.p p11 (.load1 (.t p10)), 224), (.p p12 (.lenSlc (.t p11)), 480), (.p p13 (.ustr 5 (.t p7) (.t p12)), 1023), (.p p2 (.mv (.t p13)), 2047)])
   .ret))
   [.t p2]
/- (*strings.asciiSet).contains -/
def a30 : AF :=
  .code [p0, p1] (.seq (.reg [.p p4 (.mv (.c (.bool false)))])
   (.seq (.reg [.p p5 (.mv (.t p0)),
   .p p6 (.mv (.t p1)),
   .p p7 (.nilck (.t p5)),
   .p p8 (.iaddrA 256 1 (.t p7) (.t p6)),
   .p p9 (.load1 (.t p8)),
   .p p4 (.mv (.t p9))])
   .ret))
   [.t p4]
def a31 : AF := .no
def a32 : AF := .no
def a33 : AF := .no
def a34 : AF := .no
/- strings.Count -/
def a35 : AF :=
  .code [p0, p1] (.seq (.reg [.p p4 (.mv (.c (.int .i64 (.ofNat 0))))])
   (.seq (.seq (.reg [.p p7 (.mv (.t p1)),
   .p p8 (.lenStr (.t p7)),
   .p p9 (.bin .eql (.t p8) (.c (.int .i64 (.ofNat 0))))])
   (.cond (.t p9) (.seq (.reg [.p p10 (.mv (.t p0)),
   .p p11 (.call 57 [(.t p10)]),
   .p p12 (.bin .add (.t p11) (.c (.int .i64 (.ofNat 1)))),
   .p p4 (.mv (.t p12))])
   .ret) .skip))
   (.seq (.seq (.reg [.p p13 (.mv (.t p1)),
   .p p14 (.lenStr (.t p13)),
   .p p15 (.bin .eql (.t p14) (.c (.int .i64 (.ofNat 1))))])
   (.cond (.t p15) (.seq (.reg [.p p16 (.mv (.t p0)),
   .p p17 (.mv (.t p1)),
   .p p18 (.idxStr (.t p17) (.c (.int .i64 (.ofNat 0)))),
   .p p19 (.call 58 [(.t p16), (.t p18)]),
   .p p4 (.mv (.t p19))])
   .ret) .skip))
   (.seq (.reg [.p p5 (.mv (.c (.int .i64 (.ofNat 0))))])
   (.block 0 (.loop (.block 1 (.seq (.reg [.p p20 (.mv (.t p0)),
   .p p21 (.mv (.t p1)),
   .p p22 (.call 36 [(.t p20), (.t p21)]),
   .p p6 (.mv (.t p22))])
   (.seq (.seq (.reg [.p p23 (.mv (.t p6)),
   .p p24 (.bin .eql (.t p23) (.c (.int .i64 (.negSucc 0))))])
   (.cond (.t p24) (.seq (.reg [.p p25 (.mv (.t p5)),
   .p p4 (.mv (.t p25))])
   .ret) .skip))
   (.seq (.reg [.p p26 (.mv (.t p5)),
   .p p27 (.bin .add (.t p26) (.c (.int .i64 (.ofNat 1)))),
   .p p5 (.mv (.t p27))])
   (.reg [.p p28 (.mv (.t p0)),
   .p p29 (.mv (.t p6)),
   .p p30 (.mv (.t p1)),
   .p p31 (.lenStr (.t p30)),
   .p p32 (.bin .add (.t p29) (.t p31)),
   .p p33 (.sliceStr (.t p28) (some (.t p32)) none),
   .p p0 (.mv (.t p33))])))))))))))
   [.t p4]
/- strings.Index -/
def a36 : AF :=
  .code [p0, p1] (.seq (.reg [.p p4 (.mv (.c (.int .i64 (.ofNat 0))))])
   (.seq (.reg [.p p5 (.mv (.t p0)),
   .p p6 (.mv (.t p1)),
   .p p7 (.call 59 [(.t p5), (.t p6)]),
   .p p4 (.mv (.t p7))])
   .ret))
   [.t p4]
def a37 : AF := .no
/- bastion/desc.rules$2 -/
def a38 : AF :=
  .code [p0, p1] (.seq (.reg [.p p4 (.mv (.c (.bool false)))])
   (.seq (.reg [.p p5 (.mv (.t p0)),
   .p p6 (.bin .neq (.t p5) (.c (.int .u8 (.ofNat 0)))),
   .p p4 (.mv (.t p6))])
   .ret))
   [.t p4]
/- bastion/desc.rules$3 -/
def a39 : AF :=
  .code [p0, p1] (.seq (.reg [.p p4 (.mv (.c (.bool false)))])
   (.seq (.reg [.p p4 (.mv (.c (.bool true)))])
   .ret))
   [.t p4]
/- bastion/desc.rules$4 -/
def a40 : AF :=
  .code [p0, p1] (.seq (.reg [.p p4 (.mv (.c (.bool false)))])
   (.seq (.reg [.p p5 (.mv (.t p0)),
   .p p6 (.bin .eql (.t p5) (.c (.int .u8 (.ofNat 2)))),
   .p p7 (.mv (.t p6)),
   .g p8 (.mv (.t p1)) p7 true,
   .p p9 (.pick (.t p7) (.t p8) (.c (.bool false))),
   .p p4 (.mv (.t p9))])
   .ret))
   [.t p4]
def a41 : AF := .no
def a42 : AF := .no
/- bastion/desc.plain -/
def a43 : AF :=
  .code [p0] (.seq (.reg [.p p2 (.mv (.c (.bool false)))])
   (.seq (.reg [.p p5 (.mv (.t p0)),
   .p p6 (.bin .neq (.t p5) (.c (.str 0 0))),
   .p p7 (.mv (.t p6)),
   .g p8 (.mv (.t p0)) p7 true,
   .g p9 (.lenStr (.t p8)) p7 true,
   .g p10 (.bin .leq (.t p9) (.c (.int .i64 (.ofNat 64)))) p7 true,
   .p p11 (.pick (.t p7) (.t p10) (.c (.bool false))),
   .p p3 (.mv (.t p11))])
   (.seq (.seq (.reg [.p p12 (.mv (.t p0)),
   .p p13 (.lenStr (.t p12)),
   .p p14 (.mv (.c (.int .i64 (.ofNat 0))))])
   (.block 0 (.loop (.seq (.reg [.p p15 (.bin .lss (.t p14) (.t p13))])
   (.seq (.cond (.t p15) .skip (.exit 0))
   (.seq (.block 1 (.seq (.reg [.p p16 (.mv (.t p14)),
   .p p4 (.mv (.t p16))])
   (.reg [.p p17 (.mv (.t p3)),
   .p p18 (.mv (.t p17)),
   .g p19 (.mv (.t p0)) p18 true,
   .g p20 (.mv (.t p4)) p18 true,
   .g p21 (.idxStr (.t p19) (.t p20)) p18 true,
   .g p22 (.bin .geq (.t p21) (.c (.int .u8 (.ofNat 33)))) p18 true,
   .p p23 (.pick (.t p18) (.t p22) (.c (.bool false))),
   .p p24 (.mv (.t p23)),
   .g p25 (.mv (.t p0)) p24 true,
   .g p26 (.mv (.t p4)) p24 true,
   .g p27 (.idxStr (.t p25) (.t p26)) p24 true,
   .g p28 (.bin .leq (.t p27) (.c (.int .u8 (.ofNat 126)))) p24 true,
   .p p29 (.pick (.t p24) (.t p28) (.c (.bool false))),
   .p p3 (.mv (.t p29))])))
   (.reg [.p p30 (.bin .add (.t p14) (.c (.int .i64 (.ofNat 1)))),
   .p p14 (.mv (.t p30))])))))))
   (.seq (.reg [.p p31 (.mv (.t p3)),
   .p p2 (.mv (.t p31))])
   .ret))))
   [.t p2]
/- strings.TrimLeft -/
def a44 : AF :=
  .code [p0, p1] (.seq (.reg [.p p4 (.mv (.c (.str 0 0)))])
   (.seq (.seq (.reg [.p p7 (.mv (.t p0)),
   .p p8 (.bin .eql (.t p7) (.c (.str 0 0))),
   .p p9 (.mv (.t p8)),
   .g p10 (.mv (.t p1)) p9 false,
   .g p11 (.bin .eql (.t p10) (.c (.str 0 0))) p9 false,
   .p p12 (.pick (.t p9) (.c (.bool true)) (.t p11))])
   (.cond (.t p12) (.seq (.reg [.p p13 (.mv (.t p0)),
   .p p4 (.mv (.t p13))])
   .ret) .skip))
   (.seq (.seq (.reg [.p p14 (.mv (.t p1)),
   .p p15 (.lenStr (.t p14)),
   .p p16 (.bin .eql (.t p15) (.c (.int .i64 (.ofNat 1)))),
   .p p17 (.mv (.t p16)),
   .g p18 (.mv (.t p1)) p17 true,
   .g p19 (.idxStr (.t p18) (.c (.int .i64 (.ofNat 0)))) p17 true,
   .g p20 (.bin .lss (.t p19) (.c (.int .u8 (.ofNat 128)))) p17 true,
   .p p21 (.pick (.t p17) (.t p20) (.c (.bool false)))])
   (.cond (.t p21) (.seq (.reg [.p p22 (.mv (.t p0)),
   .p p23 (.mv (.t p1)),
   .p p24 (.idxStr (.t p23) (.c (.int .i64 (.ofNat 0)))),
   .p p25 (.call 15 [(.t p22), (.t p24)]),
   .p p4 (.mv (.t p25))])
   .ret) .skip))
   (.seq (.seq (.reg [.p p27 (.mv (.t p1)),
   .p p28 (.call 17 [(.t p27)]),
   .p p26 (.mv (.t p28)),
   .p p29 (.extract 0 (.t p26)),
   .p p30 (.extract 1 (.t p26)),
   .p p5 (.alloc 43 [.bool false, .bool false, .bool false, .bool false, .bool false, .bool false, .bool false, .bool false, .bool false, .bool false, .bool false, .bool false, .bool false, .bool false, .bool false, .bool false, .bool false, .bool false, .bool false, .bool false, .bool false, .bool false, .bool false, .bool false, .bool false, .bool false, .bool false, .bool false, .bool false, .bool false, .bool false, .bool false, .bool false, .bool false, .bool false, .bool false, .bool false, .bool false, .bool false, .bool false, .bool false, .bool false, .bool false, .bool false, .bool false, .bool false, .bool false, .bool false, .bool false, .bool false, .bool false, .bool false, .bool false, .bool false, .bool false, .bool false, .bool false, .bool false, .bool false, .bool false, .bool false, .bool false, .bool false, .bool false, .bool false, .bool false, .bool false, .bool false, .bool false, .bool false, .bool false, .bool false, .bool false, .bool false, .bool false, .bool false, .bool false, .bool false, .bool false, .bool false, .bool false, .bool false, .bool false, .bool false, .bool false, .bool false, .bool false, .bool false, .bool false, .bool false, .bool false, .bool false, .bool false, .bool false, .bool false, .bool false, .bool false, .bool false, .bool false, .bool false, .bool false, .bool false, .bool false, .bool false, .bool false, .bool false, .bool false, .bool false, .bool false, .bool false, .bool false, .bool false, .bool false, .bool false, .bool false, .bool false, .bool false, .bool false, .bool false, .bool false, .bool false, .bool false, .bool false, .bool false, .bool false, .bool false, .bool false, .bool false, .bool false, .bool false, .bool false, .bool false, .bool false, .bool false, .bool false, .bool false, .bool false, .bool false, .bool false, .bool false, .bool false, .bool false, .bool false, .bool false, .bool false, .bool false, .bool false, .bool false, .bool false, .bool false, .bool false, .bool false, .bool false, .bool false, .bool false, .bool false, .bool false, .bool false, .bool false, .bool false, .bool false, .bool false, .bool false, .bool false, .bool false, .bool false, .bool false, .bool false, .bool false, .bool false, .bool false, .bool false, .bool false, .bool false, .bool false, .bool false, .bool false, .bool false, .bool false, .bool false, .bool false, .bool false, .bool false, .bool false, .bool false, .bool false, .bool false, .bool false, .bool false, .bool false, .bool false, .bool false, .bool false, .bool false, .bool false, .bool false, .bool false, .bool false, .bool false, .bool false, .bool false, .bool false, .bool false, .bool false, .bool false, .bool false, .bool false, .bool false, .bool false, .bool false, .bool false, .bool false, .bool false, .bool false, .bool false, .bool false, .bool false, .bool false, .bool false, .bool false, .bool false, .bool false, .bool false, .bool false, .bool false, .bool false, .bool false, .bool false, .bool false, .bool false, .bool false, .bool false, .bool false, .bool false, .bool false, .bool false, .bool false, .bool false, .bool false, .bool false, .bool false, .bool false, .bool false, .bool false, .bool false, .bool false, .bool false, .bool false, .bool false, .bool false, .bool false, .bool false, .bool false, .bool false, .bool false, .bool false]),
   .n (.store 256 (.t p5) (.t p29)),
   .p p6 (.mv (.t p30))])
   (.seq (.reg [.p p31 (.mv (.t p6))])
   (.cond (.t p31) (.seq (.reg [.p p32 (.mv (.t p0)),
   .p p33 (.call 18 [(.t p32), (.t p5)]),
   .p p4 (.mv (.t p33))])
   .ret) .skip)))
   (.seq (.reg [.p p34 (.mv (.t p0)),
   .p p35 (.mv (.t p1)),
   .p p36 (.call 20 [(.t p34), (.t p35)]),
   .p p4 (.mv (.t p36))])
   .ret)))))
   [.t p4]
def a45 : AF := .no
def a46 : AF := .no
/- bastion/words.plain -/
def a47 : AF :=
  .code [p0] (.seq (.reg [.p p2 (.mv (.c (.bool false)))])
   (.seq (.reg [.p p3 (.mv (.t p0)),
   .p p4 (.bin .geq (.t p3) (.c (.int .u8 (.ofNat 33)))),
   .p p5 (.mv (.t p4)),
   .g p6 (.mv (.t p0)) p5 true,
   .g p7 (.bin .leq (.t p6) (.c (.int .u8 (.ofNat 126)))) p5 true,
   .p p8 (.pick (.t p5) (.t p7) (.c (.bool false))),
   .p p9 (.mv (.t p8)),
   .g p10 (.mv (.t p0)) p9 true,
   .g p11 (.bin .neq (.t p10) (.c (.int .u8 (.ofNat 34)))) p9 true,
   .p p12 (.pick (.t p9) (.t p11) (.c (.bool false))),
   .p p2 (.mv (.t p12))])
   .ret))
   [.t p2]
/- (*bastion/desc.Doc).section -/
def a48 : AF :=
  .code [p0, p1, p2, p3] (.seq (.reg [.p p8 (.mv (.c (.nili)))])
   (.seq (.seq (.reg [.p p12 (.mv (.t p3)),
   .p p13 (.lenSlc (.t p12)),
   .p p14 (.bin .neq (.t p13) (.c (.int .i64 (.ofNat 1))))])
   (.cond (.t p14) (.seq (.reg [.p p15 (.mkif 32 (.c (.int .i64 (.ofNat 4)))),
   .p p8 (.mv (.t p15))])
   .ret) .skip))
   (.seq (.seq (.reg [.p p16 (.mv (.t p3)),
   .p p17 (.iaddrS 1 (.t p16) (.c (.int .i64 (.ofNat 0)))),
   .p p18 (.load1 (.t p17)),
   .p p19 (.call 4 [(.t p18)]),
   .p p20 (.not (.t p19))])
   (.cond (.t p20) (.seq (.reg [.p p21 (.mkif 32 (.c (.int .i64 (.ofNat 63)))),
   .p p8 (.mv (.t p21))])
   .ret) .skip))
   (.seq (.reg [.p p9 (.mv (.c (.int .i64 (.ofNat 0))))])
   (.seq (.seq (.reg [.p p22 (.mv (.t p0)),
   .p p23 (.nilck (.t p22)),
   .p p24 (.faddr 1 (.t p23)),
   .p p25 (.load1 (.t p24)),
   .p p26 (.lenSlc (.t p25)),
   .p p27 (.mv (.c (.int .i64 (.ofNat 0))))])
   (.block 0 (.loop (.seq (.reg [.p p28 (.bin .lss (.t p27) (.t p26))])
   (.seq (.cond (.t p28) .skip (.exit 0))
   (.seq (.block 1 (.seq (.reg [.p p29 (.iaddrS 4 (.t p25) (.t p27)),
   .p p30 (.loadn 4 (.t p29)),
   .p p11 (.alloc 38 [.int .i64 (.ofNat 0), .int .u8 (.ofNat 0), .str 0 0, .nils]),
   .n (.store 4 (.t p11) (.t p30))])
   (.seq (.reg [.p p31 (.faddr 1 (.t p11)),
   .p p32 (.load1 (.t p31)),
   .p p33 (.mv (.t p2)),
   .p p34 (.bin .eql (.t p32) (.t p33))])
   (.cond (.t p34) (.seq (.reg [.p p35 (.mv (.t p9)),
   .p p36 (.bin .add (.t p35) (.c (.int .i64 (.ofNat 1)))),
   .p p9 (.mv (.t p36))])
   (.seq (.dreg [(.p p37 (.faddr 2 (.t p11)), 0), (.p p38 (.load1 (.t p37)), 1), (.p p39 (.mv (.t p3)), 0), (.p p40 (.iaddrS 1 (.t p39) (.c (.int .i64 (.ofNat 0)))), 4), (.p p41 (.load1 (.t p40)), 12), (.p p42 (.bin .eql (.t p38) (.t p41)), 31)])
   (.cond (.t p42) (.seq (.reg [.p p43 (.mkif 32 (.c (.int .i64 (.ofNat 6)))),
   .p p8 (.mv (.t p43))])
   .ret) .skip))) .skip))))
   (.reg [.p p44 (.bin .add (.t p27) (.c (.int .i64 (.ofNat 1)))),
   .p p27 (.mv (.t p44))])))))))
   (.seq (.seq (.reg [.p p45 (.mv (.t p9)),
   .p p46 (.bin .geq (.t p45) (.c (.int .i64 (.ofNat 24))))])
   (.cond (.t p46) (.seq (.reg [.p p47 (.mkif 32 (.c (.int .i64 (.ofNat 3)))),
   .p p8 (.mv (.t p47))])
   .ret) .skip))
   (.seq (.dreg [(.p p48 (.mv (.t p0)), 0), (.p p49 (.mv (.t p0)), 0), (.p p50 (.nilck (.t p49)), 2), (.p p51 (.faddr 1 (.t p50)), 6), (.p p52 (.load1 (.t p51)), 14), (.p p53 (.mv (.t p1)), 0), (.p p54 (.mv (.t p2)), 0), (.p p55 (.mv (.t p3)), 0), (.p p56 (.iaddrS 1 (.t p55) (.c (.int .i64 (.ofNat 0)))), 128), (.p p57 (.load1 (.t p56)), 384), (.p p58 (.build [([], 1, (.t p53)), ([], 1, (.t p54)), ([], 1, (.t p57))] [.nils]), 992), (.p p59 (.bslice 38 1 4 [([], 4, (.t p58))] []), 2016), (.p p60 (.append 38 4 56 (.t p52) (.t p59)), 4094), (.p p61 (.nilck (.t p48)), 8191), (.p p62 (.faddr 1 (.t p61)), 16383), (.n (.store 1 (.t p62) (.t p60)), 32767)])
   (.seq (.reg [.p p8 (.mv (.c (.nili)))])
   .ret))))))))
   [.t p8]
/- (bastion/desc.rule).check -/
def a49 : AF :=
  .code [p0, p1, p2, p3] (.seq (.reg [.p p4 (.box 75 (.t p0)),
   .p p7 (.box 40 (.t p3)),
   .p p8 (.mv (.c (.nili)))])
   (.seq (.reg [.p p18 (.faddr 2 (.t p7)),
   .p p19 (.load1 (.t p18)),
   .p p20 (.lenSlc (.t p19)),
   .p p9 (.mv (.t p20))])
   (.seq (.seq (.reg [.p p21 (.faddr 0 (.t p4)),
   .p p22 (.load1 (.t p21)),
   .p p23 (.eq false .fn (.t p22) (.c (.nilf))),
   .p p24 (.mv (.t p23)),
   .g p25 (.faddr 0 (.t p4)) p24 false,
   .g p26 (.load1 (.t p25)) p24 false,
   .g p27 (.mv (.t p1)) p24 false,
   .g p28 (.mv (.t p2)) p24 false,
   .g p29 (.lenSlc (.t p28)) p24 false,
   .g p30 (.bin .eql (.t p29) (.c (.int .i64 (.ofNat 0)))) p24 false,
   .g p31 (.callv (.t p26) [(.t p27), (.t p30)]) p24 false,
   .g p32 (.not (.t p31)) p24 false,
   .p p33 (.pick (.t p24) (.c (.bool true)) (.t p32)),
   .p p34 (.mv (.t p33)),
   .g p35 (.mv (.t p9)) p34 false,
   .g p36 (.faddr 1 (.t p4)) p34 false,
   .g p37 (.load1 (.t p36)) p34 false,
   .g p38 (.bin .lss (.t p35) (.t p37)) p34 false,
   .p p39 (.pick (.t p34) (.c (.bool true)) (.t p38)),
   .p p40 (.mv (.t p39)),
   .g p41 (.mv (.t p9)) p40 false,
   .g p42 (.faddr 2 (.t p4)) p40 false,
   .g p43 (.load1 (.t p42)) p40 false,
   .g p44 (.bin .gtr (.t p41) (.t p43)) p40 false,
   .p p45 (.pick (.t p40) (.c (.bool true)) (.t p44))])
   (.cond (.t p45) (.seq (.reg [.p p46 (.mkif 32 (.c (.int .i64 (.ofNat 4)))),
   .p p8 (.mv (.t p46))])
   .ret) .skip))
   (.seq (.seq (.reg [.p p47 (.faddr 2 (.t p7)),
   .p p48 (.load1 (.t p47)),
   .p p49 (.lenSlc (.t p48)),
   .p p50 (.mv (.c (.int .i64 (.ofNat 0))))])
   (.block 0 (.loop (.seq (.reg [.p p51 (.bin .lss (.t p50) (.t p49))])
   (.seq (.cond (.t p51) .skip (.exit 0))
   (.seq (.block 1 (.seq (.reg [.p p52 (.mv (.t p50)),
   .p p53 (.iaddrS 1 (.t p48) (.t p50)),
   .p p54 (.load1 (.t p53)),
   .p p10 (.mv (.t p52)),
   .p p11 (.mv (.t p54))])
   (.seq (.reg [.p p55 (.faddr 3 (.t p4)),
   .p p56 (.load1 (.t p55)),
   .p p57 (.bin .lss (.t p56) (.c (.int .i64 (.ofNat 0)))),
   .p p58 (.mv (.t p57)),
   .g p59 (.mv (.t p10)) p58 false,
   .g p60 (.faddr 3 (.t p4)) p58 false,
   .g p61 (.load1 (.t p60)) p58 false,
   .g p62 (.bin .lss (.t p59) (.t p61)) p58 false,
   .p p63 (.pick (.t p58) (.c (.bool true)) (.t p62)),
   .p p64 (.mv (.t p63)),
   .g p65 (.mv (.t p11)) p64 true,
   .g p66 (.call 4 [(.t p65)]) p64 true,
   .g p67 (.not (.t p66)) p64 true,
   .p p68 (.pick (.t p64) (.t p67) (.c (.bool false)))])
   (.cond (.t p68) (.seq (.reg [.p p69 (.mkif 32 (.c (.int .i64 (.ofNat 63)))),
   .p p8 (.mv (.t p69))])
   .ret) .skip))))
   (.reg [.p p70 (.bin .add (.t p50) (.c (.int .i64 (.ofNat 1)))),
   .p p50 (.mv (.t p70))])))))))
   (.seq (.seq (.reg [.p p71 (.faddr 4 (.t p4)),
   .p p72 (.load1 (.t p71)),
   .p p73 (.eq true .fn (.t p72) (.c (.nilf)))])
   (.cond (.t p73) (.seq (.reg [.p p74 (.faddr 2 (.t p7)),
   .p p75 (.load1 (.t p74)),
   .p p76 (.faddr 3 (.t p4)),
   .p p77 (.load1 (.t p76)),
   .p p78 (.max (.c (.int .i64 (.ofNat 0))) (.t p77)),
   .p p79 (.sliceS 1 (.t p75) (some (.t p78)) none none),
   .p p80 (.lenSlc (.t p79)),
   .p p81 (.mv (.c (.int .i64 (.ofNat 0))))])
   (.block 2 (.loop (.seq (.reg [.p p82 (.bin .lss (.t p81) (.t p80))])
   (.seq (.cond (.t p82) .skip (.exit 2))
   (.seq (.block 3 (.seq (.reg [.p p83 (.iaddrS 1 (.t p79) (.t p81)),
   .p p84 (.load1 (.t p83)),
   .p p13 (.mv (.t p84))])
   (.seq (.reg [.p p85 (.faddr 4 (.t p4)),
   .p p86 (.load1 (.t p85)),
   .p p87 (.mv (.t p13)),
   .p p88 (.callv (.t p86) [(.t p87)]),
   .p p89 (.not (.t p88))])
   (.cond (.t p89) (.seq (.reg [.p p90 (.mkif 32 (.c (.int .i64 (.ofNat 4)))),
   .p p8 (.mv (.t p90))])
   .ret) .skip))))
   (.reg [.p p91 (.bin .add (.t p81) (.c (.int .i64 (.ofNat 1)))),
   .p p81 (.mv (.t p91))]))))))) .skip))
   (.seq (.seq (.reg [.p p92 (.faddr 5 (.t p4)),
   .p p93 (.load1 (.t p92)),
   .p p94 (.bin .gtr (.t p93) (.c (.int .i64 (.ofNat 0))))])
   (.cond (.t p94) (.seq (.reg [.p p96 (.faddr 2 (.t p7)),
   .p p97 (.load1 (.t p96)),
   .p p98 (.iaddrS 1 (.t p97) (.c (.int .i64 (.ofNat 0)))),
   .p p99 (.load1 (.t p98)),
   .p p100 (.call 64 [(.t p99)]),
   .p p95 (.mv (.t p100)),
   .p p101 (.extract 0 (.t p95)),
   .p p102 (.extract 1 (.t p95)),
   .p p14 (.mv (.t p101)),
   .p p15 (.mv (.t p102))])
   (.seq (.dreg [(.p p103 (.mv (.t p15)), 0), (.p p104 (.eq true (.ifc true [32]) (.t p103) (.c (.nili))), 1), (.p p105 (.mv (.t p104)), 3), (.g p106 (.mv (.t p14)) p105 false, 7), (.g p107 (.call 65 [(.t p106)]) p105 false, 15), (.g p108 (.faddr 2 (.t p7)) p105 false, 7), (.g p109 (.load1 (.t p108)) p105 false, 39), (.g p110 (.iaddrS 1 (.t p109) (.c (.int .i64 (.ofNat 0)))) p105 false, 103), (.g p111 (.load1 (.t p110)) p105 false, 231), (.g p112 (.bin .neq (.t p107) (.t p111)) p105 false, 511), (.p p113 (.pick (.t p105) (.c (.bool true)) (.t p112)), 1023), (.p p114 (.mv (.t p113)), 2047), (.g p115 (.mv (.t p14)) p114 false, 4095), (.g p116 (.bin .lss (.t p115) (.c (.int .i64 (.ofNat 1)))) p114 false, 8191), (.p p117 (.pick (.t p114) (.c (.bool true)) (.t p116)), 16383), (.p p118 (.mv (.t p117)), 32767), (.g p119 (.mv (.t p14)) p118 false, 65535), (.g p120 (.faddr 5 (.t p4)) p118 false, 65535), (.g p121 (.load1 (.t p120)) p118 false, 196607), (.g p122 (.bin .gtr (.t p119) (.t p121)) p118 false, 524287), (.p p123 (.pick (.t p118) (.c (.bool true)) (.t p122)), 1048575)])
   (.cond (.t p123) (.seq (.reg [.p p124 (.mkif 32 (.c (.int .i64 (.ofNat 1)))),
   .p p8 (.mv (.t p124))])
   .ret) .skip))) .skip))
   (.seq (.seq (.reg [.p p125 (.mv (.t p2)),
   .p p126 (.lenSlc (.t p125)),
   .p p127 (.mv (.c (.int .i64 (.ofNat 0))))])
   (.block 4 (.loop (.seq (.reg [.p p128 (.bin .lss (.t p127) (.t p126))])
   (.seq (.cond (.t p128) .skip (.exit 4))
   (.seq (.block 5 (.seq (.reg [.p p129 (.iaddrS 3 (.t p125) (.t p127)),
   .p p130 (.loadn 3 (.t p129)),
   .p p17 (.alloc 40 [.int .i64 (.ofNat 0), .str 0 0, .nils]),
   .n (.store 3 (.t p17) (.t p130))])
   (.seq (.dreg [(.p p131 (.faddr 6 (.t p4)), 0), (.p p132 (.load1 (.t p131)), 1), (.p p133 (.mv (.t p132)), 3), (.g p134 (.faddr 1 (.t p17)) p133 true, 7), (.g p135 (.load1 (.t p134)) p133 true, 15), (.g p136 (.faddr 1 (.t p7)) p133 true, 7), (.g p137 (.load1 (.t p136)) p133 true, 39), (.g p138 (.bin .eql (.t p135) (.t p137)) p133 true, 127), (.p p139 (.pick (.t p133) (.t p138) (.c (.bool false))), 255), (.p p140 (.mv (.t p139)), 511), (.g p141 (.faddr 1 (.t p7)) p140 true, 1023), (.g p142 (.load1 (.t p141)) p140 true, 2047), (.g p143 (.bin .neq (.t p142) (.c (.str 4 1936291937))) p140 true, 4095), (.g p144 (.mv (.t p143)) p140 true, 8191), (.g p145 (.faddr 2 (.t p17)) p144 false, 16383), (.g p146 (.load1 (.t p145)) p144 false, 32767), (.g p147 (.iaddrS 1 (.t p146) (.c (.int .i64 (.ofNat 0)))) p144 false, 65535), (.g p148 (.load1 (.t p147)) p144 false, 131071), (.g p149 (.faddr 2 (.t p7)) p144 false, 16383), (.g p150 (.load1 (.t p149)) p144 false, 278527), (.g p151 (.iaddrS 1 (.t p150) (.c (.int .i64 (.ofNat 0)))) p144 false, 802815), (.g p152 (.load1 (.t p151)) p144 false, 1851391), (.g p153 (.bin .eql (.t p148) (.t p152)) p144 false, 4194303), (.g p154 (.pick (.t p144) (.c (.bool true)) (.t p153)) p140 true, 8388607), (.p p155 (.pick (.t p140) (.t p154) (.c (.bool false))), 16777215)])
   (.cond (.t p155) (.seq (.reg [.p p156 (.mkif 32 (.c (.int .i64 (.ofNat 6)))),
   .p p8 (.mv (.t p156))])
   .ret) .skip))))
   (.reg [.p p157 (.bin .add (.t p127) (.c (.int .i64 (.ofNat 1)))),
   .p p127 (.mv (.t p157))])))))))
   (.seq (.seq (.reg [.p p158 (.mv (.t p2)),
   .p p159 (.lenSlc (.t p158)),
   .p p160 (.bin .geq (.t p159) (.c (.int .i64 (.ofNat 40))))])
   (.cond (.t p160) (.seq (.reg [.p p161 (.mkif 32 (.c (.int .i64 (.ofNat 3)))),
   .p p8 (.mv (.t p161))])
   .ret) .skip))
   (.seq (.reg [.p p8 (.mv (.c (.nili)))])
   .ret)))))))))
   [.t p8]
def a50 : AF := .no
/- bastion/words.Join -/
def a51 : AF :=
  .code [p0] (.seq (.reg [.p p2 (.mv (.c (.str 0 0))),
   .p p3 (.mv (.c (.int .i64 (.ofNat 0))))])
   (.seq (.reg [.p p4 (.mv (.c (.nils)))])
   (.seq (.seq (.reg [.p p8 (.mv (.t p0)),
   .p p9 (.lenSlc (.t p8)),
   .p p10 (.mv (.c (.int .i64 (.ofNat 0))))])
   (.block 0 (.loop (.seq (.reg [.p p11 (.bin .lss (.t p10) (.t p9))])
   (.seq (.cond (.t p11) .skip (.exit 0))
   (.seq (.block 1 (.seq (.reg [.p p12 (.iaddrS 1 (.t p8) (.t p10)),
   .p p13 (.load1 (.t p12)),
   .p p6 (.mv (.t p13))])
   (.reg [.p p14 (.mv (.t p4)),
   .p p15 (.mv (.t p6)),
   .p p16 (.call 70 [(.t p15)]),
   .p p17 (.bslice 9 1 1 [([], 1, (.t p16))] []),
   .p p18 (.append 9 1 16 (.t p14) (.t p17)),
   .p p4 (.mv (.t p18))])))
   (.reg [.p p19 (.bin .add (.t p10) (.c (.int .i64 (.ofNat 1)))),
   .p p10 (.mv (.t p19))])))))))
   (.seq (.reg [.p p20 (.mv (.t p4)),
   .p p21 (.call 71 [(.t p20), (.c (.str 1 32))]),
   .p p7 (.mv (.t p21))])
   (.seq (.seq (.reg [.p p22 (.mv (.t p7)),
   .p p23 (.lenStr (.t p22)),
   .p p24 (.bin .gtr (.t p23) (.c (.int .i64 (.ofNat 400))))])
   (.cond (.t p24) (.seq (.reg [.p p2 (.mv (.c (.str 0 0))),
   .p p3 (.mv (.c (.int .i64 (.ofNat 40))))])
   .ret) .skip))
   (.seq (.reg [.p p25 (.mv (.t p7)),
   .p p2 (.mv (.t p25)),
   .p p3 (.mv (.c (.int .i64 (.ofNat 0))))])
   .ret))))))
   [.t p2, .t p3]
/- (*strings.Builder).WriteString -/
def a52 : AF :=
  .code [p0, p1] (.seq (.reg [.p p4 (.mv (.c (.int .i64 (.ofNat 0)))),
   .p p5 (.mv (.c (.nili)))])
   (.seq (.reg [.p p6 (.mv (.t p0)),
   .p p7 (.call 72 [(.t p6)])])
   (.seq (.reg [.p p8 (.mv (.t p0)),
   .p p9 (.mv (.t p0)),
   .p p10 (.nilck (.t p9)),
   .p p11 (.faddr 1 (.t p10)),
   .p p12 (.load1 (.t p11)),
   .p p13 (.mv (.t p1)),
   .p p14 (.append 5 1 1 (.t p12) (.t p13)),
   .p p15 (.nilck (.t p8)),
   .p p16 (.faddr 1 (.t p15)),
   .n (.store 1 (.t p16) (.t p14))])
   (.seq (.reg [.p p17 (.mv (.t p1)),
   .p p18 (.lenStr (.t p17)),
   .p p4 (.mv (.t p18)),
   .p p5 (.mv (.c (.nili)))])
   .ret))))
   [.t p4, .t p5]
/- (*strings.Builder).WriteByte -/
def a53 : AF :=
  .code [p0, p1] (.seq (.reg [.p p4 (.mv (.c (.nili)))])
   (.seq (.reg [.p p5 (.mv (.t p0)),
   .p p6 (.call 72 [(.t p5)])])
   (.seq (.reg [.p p7 (.mv (.t p0)),
   .p p8 (.mv (.t p0)),
   .p p9 (.nilck (.t p8)),
   .p p10 (.faddr 1 (.t p9)),
   .p p11 (.load1 (.t p10)),
   .p p12 (.mv (.t p1)),
   .p p13 (.bslice 5 1 1 [([], 1, (.t p12))] []),
   .p p14 (.append 5 1 1 (.t p11) (.t p13)),
   .p p15 (.nilck (.t p7)),
   .p p16 (.faddr 1 (.t p15)),
   .n (.store 1 (.t p16) (.t p14))])
   (.seq (.reg [.p p4 (.mv (.c (.nili)))])
   .ret))))
   [.t p4]
def a54 : AF := .no
def a55 : AF := .no
def a56 : AF := .no
def a57 : AF := .no
/- internal/bytealg.CountString -/ def a58 : AF := .countStr
/- internal/stringslite.Index -/
def a59 : AF :=
  .code [p0, p1] (.seq (.reg [.p p4 (.mv (.c (.int .i64 (.ofNat 0))))])
   (.seq (.reg [.p p14 (.mv (.t p1)),
   .p p15 (.lenStr (.t p14)),
   .p p5 (.mv (.t p15))])
   (.seq (.block 0 (.seq (.reg [.p p17 (.mv (.t p5)),
   .p p18 (.bin .eql (.t p17) (.c (.int .i64 (.ofNat 0)))),
   .p p19 (.mv (.t p18)),
   .g p20 (.mv (.t p1)) p19 false,
   .g p21 (.mv (.t p0)) p19 false,
   .g p22 (.bin .eql (.t p20) (.t p21)) p19 false,
   .p p23 (.pick (.t p19) (.c (.bool true)) (.t p22)),
   .p p16 (.mv (.t p23))])
   (.cond (.t p16) (.seq (.reg [.p p4 (.mv (.c (.int .i64 (.ofNat 0))))])
   .ret) (.seq (.reg [.p p25 (.mv (.t p5)),
   .p p26 (.bin .eql (.t p25) (.c (.int .i64 (.ofNat 1)))),
   .p p24 (.mv (.t p26))])
   (.cond (.t p24) (.seq (.reg [.p p27 (.mv (.t p0)),
   .p p28 (.mv (.t p1)),
   .p p29 (.idxStr (.t p28) (.c (.int .i64 (.ofNat 0)))),
   .p p30 (.call 76 [(.t p27), (.t p29)]),
   .p p4 (.mv (.t p30))])
   .ret) (.seq (.reg [.p p32 (.mv (.t p5)),
   .p p33 (.mv (.t p0)),
   .p p34 (.lenStr (.t p33)),
   .p p35 (.bin .geq (.t p32) (.t p34)),
   .p p31 (.mv (.t p35))])
   (.cond (.t p31) (.seq (.reg [.p p4 (.mv (.c (.int .i64 (.negSucc 0))))])
   .ret) (.seq (.reg [.p p37 (.mv (.t p5)),
   .p p38 (.load1 (.c (.ptr 3 0))),
   .p p39 (.bin .leq (.t p37) (.t p38)),
   .p p40 (.mv (.t p39)),
   .g p41 (.mv (.t p0)) p40 true,
   .g p42 (.lenStr (.t p41)) p40 true,
   .g p43 (.bin .leq (.t p42) (.c (.int .i64 (.ofNat 64)))) p40 true,
   .p p44 (.pick (.t p40) (.t p43) (.c (.bool false))),
   .p p36 (.mv (.t p44))])
   (.cond (.t p36) (.seq (.reg [.p p45 (.mv (.t p0)),
   .p p46 (.mv (.t p1)),
   .p p47 (.call 75 [(.t p45), (.t p46)]),
   .p p4 (.mv (.t p47))])
   .ret) .skip)))))))))
   (.seq (.reg [.p p48 (.mv (.t p1)),
   .p p49 (.idxStr (.t p48) (.c (.int .i64 (.ofNat 0)))),
   .p p6 (.mv (.t p49))])
   (.seq (.reg [.p p50 (.mv (.t p1)),
   .p p51 (.idxStr (.t p50) (.c (.int .i64 (.ofNat 1)))),
   .p p7 (.mv (.t p51))])
   (.seq (.reg [.p p8 (.mv (.c (.int .i64 (.ofNat 0))))])
   (.seq (.reg [.p p52 (.mv (.t p0)),
   .p p53 (.lenStr (.t p52)),
   .p p54 (.mv (.t p5)),
   .p p55 (.bin .sub (.t p53) (.t p54)),
   .p p56 (.bin .add (.t p55) (.c (.int .i64 (.ofNat 1)))),
   .p p9 (.mv (.t p56))])
   (.seq (.reg [.p p10 (.mv (.c (.int .i64 (.ofNat 0))))])
   (.seq (.block 1 (.loop (.seq (.seq (.reg [.p p57 (.mv (.t p8)),
   .p p58 (.mv (.t p9)),
   .p p59 (.bin .lss (.t p57) (.t p58))])
   (.cond (.t p59) .skip (.exit 1)))
   (.block 2 (.seq (.seq (.reg [.p p60 (.mv (.t p0)),
   .p p61 (.mv (.t p8)),
   .p p62 (.idxStr (.t p60) (.t p61)),
   .p p63 (.mv (.t p6)),
   .p p64 (.bin .neq (.t p62) (.t p63))])
   (.cond (.t p64) (.seq (.reg [.p p65 (.mv (.t p0)),
   .p p66 (.mv (.t p8)),
   .p p67 (.bin .add (.t p66) (.c (.int .i64 (.ofNat 1)))),
   .p p68 (.mv (.t p9)),
   .p p69 (.sliceStr (.t p65) (some (.t p67)) (some (.t p68))),
   .p p70 (.mv (.t p6)),
   .p p71 (.call 76 [(.t p69), (.t p70)]),
   .p p11 (.mv (.t p71))])
   (.seq (.seq (.reg [.p p72 (.mv (.t p11)),
   .p p73 (.bin .lss (.t p72) (.c (.int .i64 (.ofNat 0))))])
   (.cond (.t p73) (.seq (.reg [.p p4 (.mv (.c (.int .i64 (.negSucc 0))))])
   .ret) .skip))
   (.reg [.p p74 (.mv (.t p8)),
   .p p75 (.mv (.t p11)),
   .p p76 (.bin .add (.t p75) (.c (.int .i64 (.ofNat 1)))),
   .p p77 (.bin .add (.t p74) (.t p76)),
   .p p8 (.mv (.t p77))]))) .skip))
   (.seq (.seq (.reg [.p p78 (.mv (.t p0)),
   .p p79 (.mv (.t p8)),
   .p p80 (.bin .add (.t p79) (.c (.int .i64 (.ofNat 1)))),
   .p p81 (.idxStr (.t p78) (.t p80)),
   .p p82 (.mv (.t p7)),
   .p p83 (.bin .eql (.t p81) (.t p82)),
   .p p84 (.mv (.t p83)),
   .g p85 (.mv (.t p0)) p84 true,
   .g p86 (.mv (.t p8)) p84 true,
   .g p87 (.mv (.t p8)) p84 true,
   .g p88 (.mv (.t p5)) p84 true,
   .g p89 (.bin .add (.t p87) (.t p88)) p84 true,
   .g p90 (.sliceStr (.t p85) (some (.t p86)) (some (.t p89))) p84 true,
   .g p91 (.mv (.t p1)) p84 true,
   .g p92 (.bin .eql (.t p90) (.t p91)) p84 true,
   .p p93 (.pick (.t p84) (.t p92) (.c (.bool false)))])
   (.cond (.t p93) (.seq (.reg [.p p94 (.mv (.t p8)),
   .p p4 (.mv (.t p94))])
   .ret) .skip))
   (.seq (.reg [.p p95 (.mv (.t p8)),
   .p p96 (.bin .add (.t p95) (.c (.int .i64 (.ofNat 1)))),
   .p p8 (.mv (.t p96))])
   (.seq (.reg [.p p97 (.mv (.t p10)),
   .p p98 (.bin .add (.t p97) (.c (.int .i64 (.ofNat 1)))),
   .p p10 (.mv (.t p98))])
   (.seq (.reg [.p p99 (.mv (.t p5)),
   .p p100 (.load1 (.c (.ptr 3 0))),
   .p p101 (.bin .leq (.t p99) (.t p100)),
   .p p102 (.mv (.t p101)),
   .g p103 (.mv (.t p10)) p102 true,
   .g p104 (.mv (.t p8)) p102 true,
   .g p105 (.call 74 [(.t p104)]) p102 true,
   .g p106 (.bin .gtr (.t p103) (.t p105)) p102 true,
   .p p107 (.pick (.t p102) (.t p106) (.c (.bool false)))])
   (.cond (.t p107) (.seq (.reg [.p p108 (.mv (.t p0)),
   .p p109 (.mv (.t p8)),
   .p p110 (.sliceStr (.t p108) (some (.t p109)) none),
   .p p111 (.mv (.t p1)),
   .p p112 (.call 75 [(.t p110), (.t p111)]),
   .p p12 (.mv (.t p112))])
   (.seq (.seq (.reg [.p p113 (.mv (.t p12)),
   .p p114 (.bin .geq (.t p113) (.c (.int .i64 (.ofNat 0))))])
   (.cond (.t p114) (.seq (.reg [.p p115 (.mv (.t p12)),
   .p p116 (.mv (.t p8)),
   .p p117 (.bin .add (.t p115) (.t p116)),
   .p p4 (.mv (.t p117))])
   .ret) .skip))
   (.seq (.reg [.p p4 (.mv (.c (.int .i64 (.negSucc 0))))])
   .ret))) (.seq (.reg [.p p118 (.mv (.t p5)),
   .p p119 (.load1 (.c (.ptr 3 0))),
   .p p120 (.bin .gtr (.t p118) (.t p119)),
   .p p121 (.mv (.t p120)),
   .g p122 (.mv (.t p10)) p121 true,
   .g p123 (.mv (.t p8)) p121 true,
   .g p124 (.shf false (.t p123) (.c (.int .u64 (.ofNat 4)))) p121 true,
   .g p125 (.bin .add (.c (.int .i64 (.ofNat 4))) (.t p124)) p121 true,
   .g p126 (.bin .geq (.t p122) (.t p125)) p121 true,
   .p p127 (.pick (.t p121) (.t p126) (.c (.bool false))),
   .p p128 (.mv (.t p127)),
   .g p129 (.mv (.t p8)) p128 true,
   .g p130 (.mv (.t p9)) p128 true,
   .g p131 (.bin .lss (.t p129) (.t p130)) p128 true,
   .p p132 (.pick (.t p128) (.t p131) (.c (.bool false)))])
   (.cond (.t p132) (.seq (.reg [.p p133 (.mv (.t p0)),
   .p p134 (.mv (.t p8)),
   .p p135 (.sliceStr (.t p133) (some (.t p134)) none),
   .p p136 (.mv (.t p1)),
   .p p137 (.call 77 [(.t p135), (.t p136)]),
   .p p13 (.mv (.t p137))])
   (.seq (.seq (.reg [.p p138 (.mv (.t p13)),
   .p p139 (.bin .lss (.t p138) (.c (.int .i64 (.ofNat 0))))])
   (.cond (.t p139) (.seq (.reg [.p p4 (.mv (.c (.int .i64 (.negSucc 0))))])
   .ret) .skip))
   (.seq (.reg [.p p140 (.mv (.t p8)),
   .p p141 (.mv (.t p13)),
   .p p142 (.bin .add (.t p140) (.t p141)),
   .p p4 (.mv (.t p142))])
   .ret))) .skip))))))))))))
   (.seq (.reg [.p p4 (.mv (.c (.int .i64 (.negSucc 0))))])
   .ret))))))))))
   [.t p4]
def a60 : AF := .no
def a61 : AF := .no
def a62 : AF := .no
def a63 : AF := .no
def a64 : AF := .no
def a65 : AF := .no
def a66 : AF := .no
def a67 : AF := .no
def a68 : AF := .no
def a69 : AF := .no
/- bastion/words.own -/
def a70 : AF :=
  .code [p0] (.seq (.reg [.p p1 (.box 9 (.t p0)),
   .p p2 (.mv (.c (.str 0 0)))])
   (.seq (.reg [.p p6 (.load1 (.t p1)),
   .p p7 (.bin .neq (.t p6) (.c (.str 0 0))),
   .p p8 (.mv (.t p7)),
   .g p9 (.load1 (.t p1)) p8 true,
   .g p10 (.idxStr (.t p9) (.c (.int .i64 (.ofNat 0)))) p8 true,
   .g p11 (.bin .neq (.t p10) (.c (.int .u8 (.ofNat 35)))) p8 true,
   .p p12 (.pick (.t p8) (.t p11) (.c (.bool false))),
   .p p3 (.alloc 4 [.bool false]),
   .n (.store 1 (.t p3) (.t p12))])
   (.seq (.reg [.p p13 (.mkfn 85 [] [(.t p1)]),
   .p p4 (.mv (.t p13))])
   (.seq (.reg [.p p14 (.mv (.t p4)),
   .p p15 (.mkfn 86 [] [(.t p3)]),
   .p p16 (.callv (.t p14) [(.t p15)])])
   (.seq (.seq (.reg [.p p17 (.load1 (.t p3))])
   (.cond (.t p17) (.seq (.reg [.p p18 (.load1 (.t p1)),
   .p p2 (.mv (.t p18))])
   .ret) .skip))
   (.seq (.reg [.p p5 (.alloc 61 [.nilp, .nils])])
   (.seq (.reg [.p p19 (.call 53 [(.t p5), (.c (.int .u8 (.ofNat 34)))])])
   (.seq (.reg [.p p20 (.mv (.t p4)),
   .p p21 (.mkfn 87 [] [(.t p5)]),
   .p p22 (.callv (.t p20) [(.t p21)])])
   (.seq (.reg [.p p23 (.call 53 [(.t p5), (.c (.int .u8 (.ofNat 34)))])])
   (.seq (.reg [.p p24 (.call 29 [(.t p5)]),
   .p p2 (.mv (.t p24))])
   .ret))))))))))
   [.t p2]
/- strings.Join -/
def a71 : AF :=
  .code [p0, p1] (.seq (.reg [.p p4 (.mv (.c (.str 0 0)))])
   (.seq (.seq (.reg [.p p11 (.mv (.t p0)),
   .p p12 (.lenSlc (.t p11))])
   (.block 0 (.seq (.reg [.p p14 (.bin .eql (.t p12) (.c (.int .i64 (.ofNat 0)))),
   .p p13 (.mv (.t p14))])
   (.cond (.t p13) (.seq (.reg [.p p4 (.mv (.c (.str 0 0)))])
   .ret) (.seq (.reg [.p p16 (.bin .eql (.t p12) (.c (.int .i64 (.ofNat 1)))),
   .p p15 (.mv (.t p16))])
   (.cond (.t p15) (.seq (.reg [.p p17 (.mv (.t p0)),
   .p p18 (.iaddrS 1 (.t p17) (.c (.int .i64 (.ofNat 0)))),
   .p p19 (.load1 (.t p18)),
   .p p4 (.mv (.t p19))])
   .ret) .skip))))))
   (.seq (.reg [.p p5 (.mv (.c (.int .i64 (.ofNat 0))))])
   (.seq (.seq (.reg [.p p20 (.mv (.t p1)),
   .p p21 (.lenStr (.t p20)),
   .p p22 (.bin .gtr (.t p21) (.c (.int .i64 (.ofNat 0))))])
   (.cond (.t p22) (.seq (.seq (.reg [.p p23 (.mv (.t p1)),
   .p p24 (.lenStr (.t p23)),
   .p p25 (.mv (.t p0)),
   .p p26 (.lenSlc (.t p25)),
   .p p27 (.bin .sub (.t p26) (.c (.int .i64 (.ofNat 1)))),
   .p p28 (.bin .quo (.c (.int .i64 (.ofNat 9223372036854775807))) (.t p27)),
   .p p29 (.bin .geq (.t p24) (.t p28))])
   (.cond (.t p29) (.reg [.p p30 (.mkif 9 (.c (.str 36 232023140547069528372253906381035003553488466437483087989658184371904395368843875349619))),
   .n (.stop)]) .skip))
   (.reg [.p p31 (.mv (.t p5)),
   .p p32 (.mv (.t p1)),
   .p p33 (.lenStr (.t p32)),
   .p p34 (.mv (.t p0)),
   .p p35 (.lenSlc (.t p34)),
   .p p36 (.bin .sub (.t p35) (.c (.int .i64 (.ofNat 1)))),
   .p p37 (.bin .mul (.t p33) (.t p36)),
   .p p38 (.bin .add (.t p31) (.t p37)),
   .p p5 (.mv (.t p38))])) .skip))
   (.seq (.seq (.reg [.p p39 (.mv (.t p0)),
   .p p40 (.lenSlc (.t p39)),
   .p p41 (.mv (.c (.int .i64 (.ofNat 0))))])
   (.block 1 (.loop (.seq (.reg [.p p42 (.bin .lss (.t p41) (.t p40))])
   (.seq (.cond (.t p42) .skip (.exit 1))
   (.seq (.block 2 (.seq (.reg [.p p43 (.iaddrS 1 (.t p39) (.t p41)),
   .p p44 (.load1 (.t p43)),
   .p p7 (.mv (.t p44))])
   (.seq (.seq (.reg [.p p45 (.mv (.t p7)),
   .p p46 (.lenStr (.t p45)),
   .p p47 (.mv (.t p5)),
   .p p48 (.bin .sub (.c (.int .i64 (.ofNat 9223372036854775807))) (.t p47)),
   .p p49 (.bin .gtr (.t p46) (.t p48))])
   (.cond (.t p49) (.reg [.p p50 (.mkif 9 (.c (.str 36 232023140547069528372253906381035003553488466437483087989658184371904395368843875349619))),
   .n (.stop)]) .skip))
   (.reg [.p p51 (.mv (.t p5)),
   .p p52 (.mv (.t p7)),
   .p p53 (.lenStr (.t p52)),
   .p p54 (.bin .add (.t p51) (.t p53)),
   .p p5 (.mv (.t p54))]))))
   (.reg [.p p55 (.bin .add (.t p41) (.c (.int .i64 (.ofNat 1)))),
   .p p41 (.mv (.t p55))])))))))
   (.seq (.reg [.p p8 (.alloc 61 [.nilp, .nils])])
   (.seq (.reg [.p p56 (.mv (.t p5)),
   .p p57 (.call 88 [(.t p8), (.t p56)])])
   (.seq (.reg [.p p58 (.mv (.t p0)),
   .p p59 (.iaddrS 1 (.t p58) (.c (.int .i64 (.ofNat 0)))),
   .p p60 (.load1 (.t p59)),
   .p p61 (.call 52 [(.t p8), (.t p60)])])
   (.seq (.seq (.reg [.p p62 (.mv (.t p0)),
   .p p63 (.sliceS 1 (.t p62) (some (.c (.int .i64 (.ofNat 1)))) none none),
   .p p64 (.lenSlc (.t p63)),
   .p p65 (.mv (.c (.int .i64 (.ofNat 0))))])
   (.block 3 (.loop (.seq (.reg [.p p66 (.bin .lss (.t p65) (.t p64))])
   (.seq (.cond (.t p66) .skip (.exit 3))
   (.seq (.block 4 (.seq (.reg [.p p67 (.iaddrS 1 (.t p63) (.t p65)),
   .p p68 (.load1 (.t p67)),
   .p p10 (.mv (.t p68))])
   (.seq (.reg [.p p69 (.mv (.t p1)),
   .p p70 (.call 52 [(.t p8), (.t p69)])])
   (.reg [.p p71 (.mv (.t p10)),
   .p p72 (.call 52 [(.t p8), (.t p71)])]))))
   (.reg [.p p73 (.bin .add (.t p65) (.c (.int .i64 (.ofNat 1)))),
   .p p65 (.mv (.t p73))])))))))
   (.seq (.reg [.p p74 (.call 29 [(.t p8)]),
   .p p4 (.mv (.t p74))])
   .ret))))))))))
   [.t p4]
/- (*strings.Builder).copyCheck -/
def a72 : AF :=
  .code [p0] (.seq (.reg [.p p2 (.mv (.t p0)),
   .p p3 (.nilck (.t p2)),
   .p p4 (.faddr 0 (.t p3)),
   .p p5 (.load1 (.t p4)),
   .p p6 (.eq false .ptr (.t p5) (.c (.nilp)))])
   (.cond (.t p6) (.reg [.p p7 (.mv (.t p0)),
   .p p8 (.mv (.t p0)),
   .p p9 (.convU (.t p8)),
   .p p10 (.call 89 [(.t p9)]),
   .p p11 (.convP [(61, 0, 2), (62, 3, 6), (63, 3, 6)] (.t p10)),
   .p p12 (.nilck (.t p7)),
   .p p13 (.faddr 0 (.t p12)),
   .n (.store 1 (.t p13) (.t p11))]) (.seq (.reg [.p p14 (.mv (.t p0)),
   .p p15 (.nilck (.t p14)),
   .p p16 (.faddr 0 (.t p15)),
   .p p17 (.load1 (.t p16)),
   .p p18 (.mv (.t p0)),
   .p p19 (.eq true .ptr (.t p17) (.t p18))])
   (.cond (.t p19) .stop .skip))))
   []
def a73 : AF := .no
def a74 : AF := .no
def a75 : AF := .no
/- internal/stringslite.IndexByte -/
def a76 : AF :=
  .code [p0, p1] (.seq (.reg [.p p4 (.mv (.c (.int .i64 (.ofNat 0))))])
   (.seq (.reg [.p p5 (.mv (.t p0)),
   .p p6 (.mv (.t p1)),
   .p p7 (.call 90 [(.t p5), (.t p6)]),
   .p p4 (.mv (.t p7))])
   .ret))
   [.t p4]
def a77 : AF := .no
def a78 : AF := .no
def a79 : AF := .no
def a80 : AF := .no
def a81 : AF := .no
def a82 : AF := .no
def a83 : AF := .no
def a84 : AF := .no
/- bastion/words.own$1 -/
def a85 : AF :=
  .code [p0, p1] (.seq (.reg [.p p4 (.load1 (.t p1)),
   .p p5 (.lenStr (.t p4)),
   .p p6 (.mv (.c (.int .i64 (.ofNat 0))))])
   (.block 0 (.loop (.seq (.reg [.p p7 (.bin .lss (.t p6) (.t p5))])
   (.seq (.cond (.t p7) .skip (.exit 0))
   (.seq (.block 1 (.seq (.reg [.p p8 (.mv (.t p6)),
   .p p3 (.mv (.t p8))])
   (.reg [.p p9 (.mv (.t p0)),
   .p p10 (.load1 (.t p1)),
   .p p11 (.mv (.t p3)),
   .p p12 (.idxStr (.t p10) (.t p11)),
   .p p13 (.callv (.t p9) [(.t p12)])])))
   (.reg [.p p14 (.bin .add (.t p6) (.c (.int .i64 (.ofNat 1)))),
   .p p6 (.mv (.t p14))])))))))
   []
/- bastion/words.own$2 -/
def a86 : AF :=
  .code [p0, p1] (.reg [.p p3 (.load1 (.t p1)),
   .p p4 (.mv (.t p3)),
   .g p5 (.mv (.t p0)) p4 true,
   .g p6 (.call 47 [(.t p5)]) p4 true,
   .p p7 (.pick (.t p4) (.t p6) (.c (.bool false))),
   .n (.store 1 (.t p1) (.t p7))])
   []
def a87 : AF := .no
/- (*strings.Builder).Grow -/
def a88 : AF :=
  .code [p0, p1] (.seq (.reg [.p p4 (.mv (.t p0)),
   .p p5 (.call 72 [(.t p4)])])
   (.seq (.seq (.reg [.p p6 (.mv (.t p1)),
   .p p7 (.bin .lss (.t p6) (.c (.int .i64 (.ofNat 0))))])
   (.cond (.t p7) (.reg [.p p8 (.mkif 9 (.c (.str 36 226187813140227768008177986391742176399534891738691412630441701833056540972817830802547))),
   .n (.stop)]) .skip))
   (.seq (.dreg [(.p p9 (.mv (.t p0)), 0), (.p p10 (.nilck (.t p9)), 1), (.p p11 (.faddr 1 (.t p10)), 3), (.p p12 (.load1 (.t p11)), 7), (.p p13 (.cap (.t p12)), 15), (.p p14 (.mv (.t p0)), 0), (.p p15 (.nilck (.t p14)), 32), (.p p16 (.faddr 1 (.t p15)), 96), (.p p17 (.load1 (.t p16)), 224), (.p p18 (.lenSlc (.t p17)), 480), (.p p19 (.bin .sub (.t p13) (.t p18)), 1023), (.p p20 (.mv (.t p1)), 0), (.p p21 (.bin .lss (.t p19) (.t p20)), 4095)])
   (.cond (.t p21) (.reg [.p p22 (.mv (.t p0)),
   .p p23 (.mv (.t p1)),
   .p p24 (.call 99 [(.t p22), (.t p23)])]) .skip))))
   []
/- internal/abi.NoEscape -/ def a89 : AF := .noEscape
/- internal/bytealg.IndexByteString -/ def a90 : AF := .indexByte
def a91 : AF := .no
def a92 : AF := .no
def a93 : AF := .no
def a94 : AF := .no
def a95 : AF := .no
def a96 : AF := .no
def a97 : AF := .no
def a98 : AF := .no
/- (*strings.Builder).grow -/
def a99 : AF :=
  .code [p0, p1] (.seq (.dreg [(.p p5 (.mv (.t p0)), 0), (.p p6 (.nilck (.t p5)), 1), (.p p7 (.faddr 1 (.t p6)), 3), (.p p8 (.load1 (.t p7)), 7), (.p p9 (.cap (.t p8)), 15), (.p p10 (.bin .mul (.c (.int .i64 (.ofNat 2))) (.t p9)), 31), (.p p11 (.mv (.t p1)), 0), (.p p12 (.bin .add (.t p10) (.t p11)), 127), (.p p13 (.call 107 [(.t p12)]), 255), (.p p14 (.mv (.t p0)), 0), (.p p15 (.nilck (.t p14)), 512), (.p p16 (.faddr 1 (.t p15)), 1536), (.p p17 (.load1 (.t p16)), 3584), (.p p18 (.lenSlc (.t p17)), 7680), (.p p19 (.sliceS 1 (.t p13) none (some (.t p18)) none), 16383), (.p p4 (.mv (.t p19)), 32767)])
   (.seq (.reg [.p p20 (.mv (.t p4)),
   .p p21 (.mv (.t p0)),
   .p p22 (.nilck (.t p21)),
   .p p23 (.faddr 1 (.t p22)),
   .p p24 (.load1 (.t p23)),
   .p p25 (.copy 1 (.t p20) (.t p24))])
   (.reg [.p p26 (.mv (.t p0)),
   .p p27 (.mv (.t p4)),
   .p p28 (.nilck (.t p26)),
   .p p29 (.faddr 1 (.t p28)),
   .n (.store 1 (.t p29) (.t p27))])))
   []
def a100 : AF := .no
def a101 : AF := .no
def a102 : AF := .no
def a103 : AF := .no
def a104 : AF := .no
def a105 : AF := .no
def a106 : AF := .no
/- internal/bytealg.MakeNoZero -/ def a107 : AF := .makeNoZero 5
def a108 : AF := .no
def a109 : AF := .no
def a110 : AF := .no
def a111 : AF := .no
def a112 : AF := .no
def a113 : AF := .no
def a114 : AF := .no
def a115 : AF := .no
def a116 : AF := .no
def fns : T AF := (.n (.n (.n (.n (.n (.n (.n .l (some a63) .l) (some a31) (.n .l (some a95) .l)) (some a15) (.n (.n .l (some a79) .l) (some a47) (.n .l (some a111) .l))) none (.n (.n (.n .l (some a71) .l) (some a39) (.n .l (some a103) .l)) (some a23) (.n (.n .l (some a87) .l) (some a55) .l))) none (.n (.n (.n (.n .l (some a67) .l) (some a35) (.n .l (some a99) .l)) (some a19) (.n (.n .l (some a83) .l) (some a51) (.n .l (some a115) .l))) none (.n (.n (.n .l (some a75) .l) (some a43) (.n .l (some a107) .l)) (some a27) (.n (.n .l (some a91) .l) (some a59) .l)))) none (.n (.n (.n (.n (.n .l (some a65) .l) (some a33) (.n .l (some a97) .l)) (some a17) (.n (.n .l (some a81) .l) (some a49) (.n .l (some a113) .l))) (some a9) (.n (.n (.n .l (some a73) .l) (some a41) (.n .l (some a105) .l)) (some a25) (.n (.n .l (some a89) .l) (some a57) .l))) none (.n (.n (.n (.n .l (some a69) .l) (some a37) (.n .l (some a101) .l)) (some a21) (.n (.n .l (some a85) .l) (some a53) .l)) (some a13) (.n (.n (.n .l (some a77) .l) (some a45) (.n .l (some a109) .l)) (some a29) (.n (.n .l (some a93) .l) (some a61) .l))))) none (.n (.n (.n (.n (.n (.n .l (some a64) .l) (some a32) (.n .l (some a96) .l)) (some a16) (.n (.n .l (some a80) .l) (some a48) (.n .l (some a112) .l))) (some a8) (.n (.n (.n .l (some a72) .l) (some a40) (.n .l (some a104) .l)) (some a24) (.n (.n .l (some a88) .l) (some a56) .l))) (some a4) (.n (.n (.n (.n .l (some a68) .l) (some a36) (.n .l (some a100) .l)) (some a20) (.n (.n .l (some a84) .l) (some a52) (.n .l (some a116) .l))) (some a12) (.n (.n (.n .l (some a76) .l) (some a44) (.n .l (some a108) .l)) (some a28) (.n (.n .l (some a92) .l) (some a60) .l)))) none (.n (.n (.n (.n (.n .l (some a66) .l) (some a34) (.n .l (some a98) .l)) (some a18) (.n (.n .l (some a82) .l) (some a50) (.n .l (some a114) .l))) none (.n (.n (.n .l (some a74) .l) (some a42) (.n .l (some a106) .l)) (some a26) (.n (.n .l (some a90) .l) (some a58) .l))) (some a6) (.n (.n (.n (.n .l (some a70) .l) (some a38) (.n .l (some a102) .l)) (some a22) (.n (.n .l (some a86) .l) (some a54) .l)) (some a14) (.n (.n (.n .l (some a78) .l) (some a46) (.n .l (some a110) .l)) (some a30) (.n (.n .l (some a94) .l) (some a62) .l))))))
def ifts : List Nat × List (Nat × Nat × Nat) := ([32], [(61, 0, 2), (62, 3, 6), (63, 3, 6)])
end
end Go.Kev.Tryz
