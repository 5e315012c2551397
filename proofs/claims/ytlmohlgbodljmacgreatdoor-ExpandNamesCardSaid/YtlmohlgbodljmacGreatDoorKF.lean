/- The program's functions, compiled for the abstract machine. -/
import Derived.Test.YtlmohlgbodljmacGreatDoorKP
set_option linter.unusedVariables false
set_option linter.unusedSimpArgs false
namespace Go.Kev.Tryz
set_option maxRecDepth 100000
set_option autoImplicit false
noncomputable section
def b1 : AC := (.reg [.p p0 (.mv (.c (.bool false)))])
def b3 : AC := (.seq (.reg [.p p46 (.call 4 []),
   .p p47 (.not (.t p46)),
   .p p48 (.mv (.t p47)),
   .p p49 (.pick (.t p48) (.c (.bool true)) (.c (.bool false))),
   .p p50 (.mv (.t p49)),
   .p p51 (.pick (.t p50) (.c (.bool true)) (.c (.bool false))),
   .p p52 (.mv (.t p51)),
   .p p53 (.pick (.t p52) (.c (.bool true)) (.c (.bool false))),
   .p p54 (.mv (.t p53)),
   .p p55 (.pick (.t p54) (.c (.bool true)) (.c (.bool false))),
   .p p56 (.mv (.t p55)),
   .p p57 (.pick (.t p56) (.c (.bool true)) (.c (.bool false))),
   .p p58 (.mv (.t p57)),
   .p p59 (.pick (.t p58) (.c (.bool true)) (.c (.bool false))),
   .p p60 (.mv (.t p59)),
   .p p61 (.pick (.t p60) (.c (.bool true)) (.c (.bool false))),
   .p p62 (.mv (.t p61)),
   .p p63 (.pick (.t p62) (.c (.bool true)) (.c (.bool false))),
   .p p64 (.mv (.t p63)),
   .p p65 (.pick (.t p64) (.c (.bool true)) (.c (.bool false))),
   .p p66 (.mv (.t p65)),
   .p p67 (.pick (.t p66) (.c (.bool true)) (.c (.bool false)))])
   (.cond (.t p67) (.seq (.reg [.p p0 (.mv (.c (.bool false)))])
   .ret) .skip))
def b5 : AC := (.reg [.p p68 (.mkslice 5 1 1 [.int .u8 (.ofNat 0)] (.c (.int .i64 (.ofNat 200))) (.c (.int .i64 (.ofNat 200)))),
   .p p69 (.convBS (.t p68)),
   .p p70 (.build [([], 1, (.c (.str 1 121))), ([], 1, (.t p69))] []),
   .p p71 (.bslice 25 1 2 [([], 2, (.t p70))] []),
   .p p1 (.mv (.t p71))])
def b8 : AC := (.reg [.p p72 (.build [([], 1, (.c (.str 1 36))), ([], 1, (.c (.int .i64 (.ofNat 4))))] []),
   .p p73 (.build [([], 1, (.c (.str 2 22564))), ([], 1, (.c (.int .i64 (.ofNat 4))))] []),
   .p p74 (.build [([], 1, (.c (.str 3 7961380))), ([], 1, (.c (.int .i64 (.ofNat 4))))] []),
   .p p75 (.build [([], 1, (.c (.str 3 8223524))), ([], 1, (.c (.int .i64 (.ofNat 4))))] []),
   .p p76 (.build [([], 1, (.c (.str 4 762936100))), ([], 1, (.c (.int .i64 (.ofNat 4))))] []),
   .p p77 (.build [([], 1, (.c (.str 2 30756))), ([], 1, (.c (.int .i64 (.ofNat 63))))] []),
   .p p78 (.build [([], 1, (.c (.str 4 606107684))), ([], 1, (.c (.int .i64 (.ofNat 63))))] []),
   .p p79 (.build [([], 1, (.c (.str 4 2015633444))), ([], 1, (.c (.int .i64 (.ofNat 4))))] []),
   .p p80 (.build [([], 1, (.c (.str 4 2032433444))), ([], 1, (.c (.int .i64 (.ofNat 0))))] []),
   .p p81 (.build [([], 1, (.c (.str 5 199600929060))), ([], 1, (.c (.int .i64 (.ofNat 40))))] []),
   .p p82 (.build [([], 1, (.c (.str 26 156484256921722535381403932066728430375809195065154163475308836))), ([], 1, (.c (.int .i64 (.ofNat 4))))] []),
   .p p83 (.build [([], 1, (.c (.str 25 611266628600478653833609109635657931155504668223258451075364))), ([], 1, (.c (.int .i64 (.ofNat 63))))] []),
   .p p84 (.build [([], 1, (.c (.str 2 12580))), ([], 1, (.c (.int .i64 (.ofNat 4))))] []),
   .p p85 (.build [([], 1, (.c (.str 0 0))), ([], 1, (.c (.int .i64 (.ofNat 0))))] []),
   .p p86 (.bslice 28 14 2 [([], 2, (.t p72)), ([], 2, (.t p73)), ([], 2, (.t p74)), ([], 2, (.t p75)), ([], 2, (.t p76)), ([], 2, (.t p77)), ([], 2, (.t p78)), ([], 2, (.t p79)), ([], 2, (.t p80)), ([], 2, (.t p81)), ([], 2, (.t p82)), ([], 2, (.t p83)), ([], 2, (.t p84)), ([], 2, (.t p85))] []),
   .p p87 (.lenSlc (.t p86)),
   .p p88 (.mv (.c (.int .i64 (.ofNat 0))))])
def b11 : AC := .seq (.seq (.reg [.p p89 (.bin .lss (.t p88) (.t p87))])
   (.seq (.cond (.t p89) .skip (.exit 0))
   (.seq (.block 1 (.seq (.reg [.p p90 (.iaddrS 2 (.t p86) (.t p88)),
   .p p91 (.loadn 2 (.t p90)),
   .p p3 (.alloc 28 [.str 0 0, .int .i64 (.ofNat 0)]),
   .n (.store 2 (.t p3) (.t p91))])
   (.seq (.reg [.p p93 (.faddr 0 (.t p3)),
   .p p94 (.load1 (.t p93)),
   .p p95 (.mv (.t p1)),
   .p p96 (.call 5 [(.t p94), (.t p95)]),
   .p p92 (.mv (.t p96)),
   .p p97 (.extract 0 (.t p92)),
   .p p98 (.extract 1 (.t p92)),
   .p p4 (.mv (.t p97)),
   .p p5 (.mv (.t p98))])
   (.seq (.reg [.p p99 (.mv (.t p5)),
   .p p100 (.faddr 1 (.t p3)),
   .p p101 (.load1 (.t p100)),
   .p p102 (.bin .neq (.t p99) (.t p101))])
   (.cond (.t p102) (.seq (.reg [.p p0 (.mv (.c (.bool false)))])
   .ret) .skip)))))
   (.reg [.p p103 (.bin .add (.t p88) (.c (.int .i64 (.ofNat 1)))),
   .p p88 (.mv (.t p103))])))) .gc
def b10 : AC := .loop b11
def b9 : AC := .block 0 b10
def b7 : AC := .seq b8 b9
def b13 : AC := (.reg [.p p105 (.build [([], 1, (.c (.str 1 120))), ([], 1, (.c (.str 1 49)))] []),
   .p p106 (.build [([], 1, (.c (.str 1 120))), ([], 1, (.c (.str 1 50)))] []),
   .p p107 (.bslice 25 2 2 [([], 2, (.t p105)), ([], 2, (.t p106))] []),
   .p p108 (.call 5 [(.c (.str 2 30756)), (.t p107)]),
   .p p104 (.mv (.t p108)),
   .p p109 (.extract 0 (.t p104)),
   .p p110 (.extract 1 (.t p104)),
   .p p6 (.mv (.t p109)),
   .p p7 (.mv (.t p110))])
def b15 : AC := (.reg [.p p112 (.build [([], 1, (.c (.str 1 120))), ([], 1, (.c (.str 30 71689908675184345110690544094576014744894144060252821656260567857521014)))] []),
   .p p113 (.bslice 38 1 2 [([], 2, (.t p112))] []),
   .p p114 (.call 6 [(.t p113), (.c (.str 1 120)), (.c (.nils))]),
   .p p111 (.mv (.t p114)),
   .p p115 (.extract 0 (.t p111)),
   .p p116 (.extract 1 (.t p111)),
   .p p117 (.extract 2 (.t p111)),
   .p p9 (.alloc 34 [.str 0 0, .int .i64 (.ofNat 0)]),
   .p p8 (.mv (.t p115)),
   .n (.store 2 (.t p9) (.t p116)),
   .p p10 (.mv (.t p117))])
def b18 : AC := (.reg [.p p118 (.mv (.t p7)),
   .p p119 (.bin .neq (.t p118) (.c (.int .i64 (.ofNat 0)))),
   .p p120 (.mv (.t p119)),
   .g p121 (.mv (.t p6)) p120 false,
   .g p122 (.bin .neq (.t p121) (.c (.str 1 50))) p120 false,
   .p p123 (.pick (.t p120) (.c (.bool true)) (.t p122)),
   .p p124 (.mv (.t p123)),
   .g p125 (.mv (.t p10)) p124 false,
   .g p126 (.bin .neq (.t p125) (.c (.int .i64 (.ofNat 0)))) p124 false,
   .p p127 (.pick (.t p124) (.c (.bool true)) (.t p126)),
   .p p128 (.mv (.t p127)),
   .g p129 (.mv (.t p8)) p128 false,
   .g p130 (.lenSlc (.t p129)) p128 false,
   .g p131 (.bin .neq (.t p130) (.c (.int .i64 (.ofNat 2)))) p128 false,
   .p p132 (.pick (.t p128) (.c (.bool true)) (.t p131)),
   .p p133 (.mv (.t p132)),
   .g p134 (.mv (.t p8)) p133 false,
   .g p135 (.iaddrS 5 (.t p134) (.c (.int .i64 (.ofNat 0)))) p133 false,
   .g p136 (.faddr 4 (.t p135)) p133 false,
   .g p137 (.load1 (.t p136)) p133 false,
   .g p138 (.build [([], 1, (.c (.str 1 97))), ([], 1, (.c (.str 1 50)))] []) p133 false,
   .g p139 (.bslice 25 1 2 [([], 2, (.t p138))] []) p133 false,
   .g p140 (.call 7 [(.t p137), (.t p139)]) p133 false,
   .g p141 (.not (.t p140)) p133 false,
   .p p142 (.pick (.t p133) (.c (.bool true)) (.t p141)),
   .p p143 (.mv (.t p142)),
   .g p144 (.mv (.t p8)) p143 false,
   .g p145 (.iaddrS 5 (.t p144) (.c (.int .i64 (.ofNat 1)))) p143 false,
   .g p146 (.faddr 4 (.t p145)) p143 false,
   .g p147 (.load1 (.t p146)) p143 false,
   .g p148 (.build [([], 1, (.c (.str 1 97))), ([], 1, (.c (.str 1 49)))] []) p143 false,
   .g p149 (.bslice 25 1 2 [([], 2, (.t p148))] []) p143 false,
   .g p150 (.call 7 [(.t p147), (.t p149)]) p143 false,
   .g p151 (.not (.t p150)) p143 false,
   .p p152 (.pick (.t p143) (.c (.bool true)) (.t p151))])
def b19 : AC := (.cond (.t p152) (.seq (.reg [.p p0 (.mv (.c (.bool false)))])
   .ret) .skip)
def b17 : AC := .seq b18 b19
def b22 : AC := (.reg [.p p11 (.mv (.c (.int .i64 (.ofNat 12))))])
def b25 : AC := .seq (.seq (.seq (.reg [.p p153 (.mv (.t p11)),
   .p p154 (.bin .lss (.t p153) (.c (.int .i64 (.ofNat 14))))])
   (.cond (.t p154) .skip (.exit 2)))
   (.seq (.block 3 (.seq (.reg [.p p158 (.call 8 [(.c (.int .i64 (.ofNat 12))), (.c (.str 1 97))]),
   .p p159 (.bin .add (.c (.str 10 49458055244052661759593)) (.t p158)),
   .p p160 (.build [([], 1, (.c (.str 1 120))), ([], 1, (.t p159))] []),
   .p p161 (.mv (.t p11)),
   .p p162 (.call 8 [(.t p161), (.c (.str 1 98))]),
   .p p163 (.build [([], 1, (.c (.str 1 121))), ([], 1, (.t p162))] []),
   .p p164 (.bslice 38 2 2 [([], 2, (.t p160)), ([], 2, (.t p163))] []),
   .p p165 (.call 6 [(.t p164), (.c (.str 1 120)), (.c (.nils))]),
   .p p157 (.mv (.t p165)),
   .p p166 (.extract 0 (.t p157)),
   .p p167 (.extract 1 (.t p157)),
   .p p168 (.extract 2 (.t p157)),
   .p p13 (.alloc 34 [.str 0 0, .int .i64 (.ofNat 0)]),
   .p p12 (.mv (.t p166)),
   .n (.store 2 (.t p13) (.t p167)),
   .p p14 (.mv (.t p168))])
   (.seq (.reg [.p p169 (.mv (.t p14)),
   .p p170 (.bin .eql (.t p169) (.c (.int .i64 (.ofNat 0)))),
   .p p171 (.mv (.t p11)),
   .p p172 (.bin .eql (.t p171) (.c (.int .i64 (.ofNat 12)))),
   .p p173 (.eq true .bool (.t p170) (.t p172)),
   .p p174 (.mv (.t p173)),
   .g p175 (.mv (.t p11)) p174 false,
   .g p176 (.bin .eql (.t p175) (.c (.int .i64 (.ofNat 13)))) p174 false,
   .g p177 (.mv (.t p176)) p174 false,
   .g p178 (.mv (.t p14)) p177 true,
   .g p179 (.bin .neq (.t p178) (.c (.int .i64 (.ofNat 3)))) p177 true,
   .g p180 (.pick (.t p177) (.t p179) (.c (.bool false))) p174 false,
   .p p181 (.pick (.t p174) (.c (.bool true)) (.t p180))])
   (.cond (.t p181) (.seq (.reg [.p p0 (.mv (.c (.bool false)))])
   .ret) .skip))))
   (.reg [.p p155 (.mv (.t p11)),
   .p p156 (.bin .add (.t p155) (.c (.int .i64 (.ofNat 1)))),
   .p p11 (.mv (.t p156))]))) .gc
def b24 : AC := .loop b25
def b23 : AC := .block 2 b24
def b21 : AC := .seq b22 b23
def b27 : AC := (.reg [.p p183 (.call 9 [(.c (.int .i64 (.ofNat 8)))]),
   .p p184 (.call 6 [(.t p183), (.c (.str 2 24934)), (.c (.nils))]),
   .p p182 (.mv (.t p184)),
   .p p185 (.extract 0 (.t p182)),
   .p p186 (.extract 1 (.t p182)),
   .p p187 (.extract 2 (.t p182)),
   .p p16 (.alloc 34 [.str 0 0, .int .i64 (.ofNat 0)]),
   .p p15 (.mv (.t p185)),
   .n (.store 2 (.t p16) (.t p186)),
   .p p17 (.mv (.t p187))])
def b29 : AC := (.reg [.p p189 (.call 9 [(.c (.int .i64 (.ofNat 9)))]),
   .p p190 (.call 6 [(.t p189), (.c (.str 2 24934)), (.c (.nils))]),
   .p p188 (.mv (.t p190)),
   .p p191 (.extract 0 (.t p188)),
   .p p192 (.extract 1 (.t p188)),
   .p p193 (.extract 2 (.t p188)),
   .p p19 (.alloc 34 [.str 0 0, .int .i64 (.ofNat 0)]),
   .p p18 (.mv (.t p191)),
   .n (.store 2 (.t p19) (.t p192)),
   .p p20 (.mv (.t p193))])
def b31 : AC := (.reg [.p p195 (.build [([], 1, (.c (.str 1 120))), ([], 1, (.c (.str 11 12656539775994611765242122)))] []),
   .p p196 (.bslice 38 1 2 [([], 2, (.t p195))] []),
   .p p197 (.call 6 [(.t p196), (.c (.str 1 120)), (.c (.nils))]),
   .p p194 (.mv (.t p197)),
   .p p198 (.extract 0 (.t p194)),
   .p p199 (.extract 1 (.t p194)),
   .p p200 (.extract 2 (.t p194)),
   .p p22 (.alloc 34 [.str 0 0, .int .i64 (.ofNat 0)]),
   .p p21 (.mv (.t p198)),
   .n (.store 2 (.t p22) (.t p199)),
   .p p23 (.mv (.t p200))])
def b33 : AC := (.reg [.p p202 (.call 6 [(.c (.nils)), (.c (.str 1 120)), (.c (.nils))]),
   .p p201 (.mv (.t p202)),
   .p p203 (.extract 0 (.t p201)),
   .p p204 (.extract 1 (.t p201)),
   .p p205 (.extract 2 (.t p201)),
   .p p25 (.alloc 34 [.str 0 0, .int .i64 (.ofNat 0)]),
   .p p24 (.mv (.t p203)),
   .n (.store 2 (.t p25) (.t p204)),
   .p p26 (.mv (.t p205))])
def b35 : AC := (.reg [.p p207 (.build [([], 1, (.c (.str 1 120))), ([], 1, (.c (.str 9 2234390415356209622633)))] []),
   .p p208 (.bslice 38 1 2 [([], 2, (.t p207))] []),
   .p p209 (.call 6 [(.t p208), (.c (.str 1 120)), (.c (.nils))]),
   .p p206 (.mv (.t p209)),
   .p p210 (.extract 0 (.t p206)),
   .p p211 (.extract 1 (.t p206)),
   .p p212 (.extract 2 (.t p206)),
   .p p28 (.alloc 34 [.str 0 0, .int .i64 (.ofNat 0)]),
   .p p27 (.mv (.t p210)),
   .n (.store 2 (.t p28) (.t p211)),
   .p p29 (.mv (.t p212))])
def b37 : AC := (.reg [.p p214 (.build [([], 1, (.c (.str 1 120))), ([], 1, (.c (.str 16 13796589589075311945467876599717391977)))] []),
   .p p215 (.build [([], 1, (.c (.str 1 121))), ([], 1, (.c (.str 12 3212268834252681471684931434)))] []),
   .p p216 (.bslice 38 2 2 [([], 2, (.t p214)), ([], 2, (.t p215))] []),
   .p p217 (.call 6 [(.t p216), (.c (.str 1 120)), (.c (.nils))]),
   .p p213 (.mv (.t p217)),
   .p p218 (.extract 0 (.t p213)),
   .p p219 (.extract 1 (.t p213)),
   .p p220 (.extract 2 (.t p213)),
   .p p31 (.alloc 34 [.str 0 0, .int .i64 (.ofNat 0)]),
   .p p30 (.mv (.t p218)),
   .n (.store 2 (.t p31) (.t p219)),
   .p p32 (.mv (.t p220))])
def b39 : AC := (.reg [.p p222 (.build [([], 1, (.c (.str 1 120))), ([], 1, (.c (.str 14 212024589055226160968323406393194)))] []),
   .p p223 (.bslice 38 1 2 [([], 2, (.t p222))] []),
   .p p224 (.call 6 [(.t p223), (.c (.str 1 120)), (.c (.nils))]),
   .p p221 (.mv (.t p224)),
   .p p225 (.extract 0 (.t p221)),
   .p p226 (.extract 1 (.t p221)),
   .p p227 (.extract 2 (.t p221)),
   .p p34 (.alloc 34 [.str 0 0, .int .i64 (.ofNat 0)]),
   .p p33 (.mv (.t p225)),
   .n (.store 2 (.t p34) (.t p226)),
   .p p35 (.mv (.t p227))])
def b41 : AC := (.reg [.p p229 (.build [([], 1, (.c (.str 1 120))), ([], 1, (.c (.str 9 191539253653502321014)))] []),
   .p p230 (.bslice 38 1 2 [([], 2, (.t p229))] []),
   .p p231 (.call 6 [(.t p230), (.c (.str 1 120)), (.c (.nils))]),
   .p p228 (.mv (.t p231)),
   .p p232 (.extract 0 (.t p228)),
   .p p233 (.extract 1 (.t p228)),
   .p p234 (.extract 2 (.t p228)),
   .p p37 (.alloc 34 [.str 0 0, .int .i64 (.ofNat 0)]),
   .p p36 (.mv (.t p232)),
   .n (.store 2 (.t p37) (.t p233)),
   .p p38 (.mv (.t p234))])
def b43 : AC := (.reg [.p p236 (.build [([], 1, (.c (.str 1 120))), ([], 1, (.c (.str 20 59813420717660503297212081337819057051092086377)))] []),
   .p p237 (.build [([], 1, (.c (.str 1 121))), ([], 1, (.c (.str 6 11416566394730)))] []),
   .p p238 (.build [([], 1, (.c (.str 1 122))), ([], 1, (.c (.str 10 49458055244052661759593)))] []),
   .p p239 (.bslice 38 3 2 [([], 2, (.t p236)), ([], 2, (.t p237)), ([], 2, (.t p238))] []),
   .p p240 (.call 6 [(.t p239), (.c (.str 1 120)), (.c (.nils))]),
   .p p235 (.mv (.t p240)),
   .p p241 (.extract 0 (.t p235)),
   .p p242 (.extract 1 (.t p235)),
   .p p243 (.extract 2 (.t p235)),
   .p p40 (.alloc 34 [.str 0 0, .int .i64 (.ofNat 0)]),
   .p p39 (.mv (.t p241)),
   .n (.store 2 (.t p40) (.t p242)),
   .p p41 (.mv (.t p243))])
def b44 : AC := (.seq (.reg [.p p245 (.build [([], 1, (.c (.str 1 120))), ([], 1, (.c (.str 96 63325158509726265910029349673806008555985877409873872224368926643071310650545718249592138660601077745442132247446861985302398653996279722380769621676547506146790682626875627852718944357263881522688347718151273336943840696736769396)))] []),
   .p p246 (.bslice 38 1 2 [([], 2, (.t p245))] []),
   .p p247 (.call 6 [(.t p246), (.c (.str 1 120)), (.c (.nils))]),
   .p p244 (.mv (.t p247)),
   .p p248 (.extract 0 (.t p244)),
   .p p249 (.extract 1 (.t p244)),
   .p p250 (.extract 2 (.t p244)),
   .p p43 (.alloc 34 [.str 0 0, .int .i64 (.ofNat 0)]),
   .p p42 (.mv (.t p248)),
   .n (.store 2 (.t p43) (.t p249)),
   .p p44 (.mv (.t p250))])
   (.seq (.reg [.p p45 (.mv (.c (.fn 10 [] [])))])
   (.seq (.dreg [(.p p251 (.mv (.t p17)), 0), (.p p252 (.bin .eql (.t p251) (.c (.int .i64 (.ofNat 0)))), 1), (.p p253 (.mv (.t p252)), 3), (.g p254 (.mv (.t p15)) p253 true, 7), (.g p255 (.lenSlc (.t p254)) p253 true, 15), (.g p256 (.bin .eql (.t p255) (.c (.int .i64 (.ofNat 8)))) p253 true, 31), (.p p257 (.pick (.t p253) (.t p256) (.c (.bool false))), 63), (.p p258 (.mv (.t p257)), 127), (.g p259 (.mv (.t p15)) p258 true, 255), (.g p260 (.iaddrS 5 (.t p259) (.c (.int .i64 (.ofNat 0)))) p258 true, 511), (.g p261 (.faddr 0 (.t p260)) p258 true, 1023), (.g p262 (.load1 (.t p261)) p258 true, 2047), (.g p263 (.bin .eql (.t p262) (.c (.str 2 26730))) p258 true, 4095), (.p p264 (.pick (.t p258) (.t p263) (.c (.bool false))), 8191), (.p p265 (.mv (.t p264)), 16383), (.g p266 (.loadn 2 (.t p16)) p265 true, 32767), (.g p267 (.mv (.t p45)) p265 true, 32767), (.g p268 (.callv (.t p267) [(.c (.str 0 0)), (.c (.int .i64 (.ofNat 0)))]) p265 true, 98303), (.g p269 (.eq false (.st [1, 0]) (.t p266) (.t p268)) p265 true, 262143), (.p p270 (.pick (.t p265) (.t p269) (.c (.bool false))), 524287), (.p p271 (.mv (.t p270)), 1048575), (.g p272 (.mv (.t p20)) p271 true, 2097151), (.g p273 (.bin .eql (.t p272) (.c (.int .i64 (.ofNat 65)))) p271 true, 4194303), (.p p274 (.pick (.t p271) (.t p273) (.c (.bool false))), 8388607), (.p p275 (.mv (.t p274)), 16777215), (.g p276 (.loadn 2 (.t p19)) p275 true, 33554431), (.g p277 (.mv (.t p45)) p275 true, 33554431), (.g p278 (.callv (.t p277) [(.c (.str 2 26726)), (.c (.int .i64 (.ofNat 1)))]) p275 true, 100663295), (.g p279 (.eq false (.st [1, 0]) (.t p276) (.t p278)) p275 true, 268435455), (.p p280 (.pick (.t p275) (.t p279) (.c (.bool false))), 536870911), (.p p281 (.mv (.t p280)), 1073741823), (.g p282 (.mv (.t p23)) p281 true, 2147483647), (.g p283 (.bin .eql (.t p282) (.c (.int .i64 (.ofNat 64)))) p281 true, 4294967295), (.p p284 (.pick (.t p281) (.t p283) (.c (.bool false))), 8589934591), (.p p285 (.mv (.t p284)), 17179869183), (.g p286 (.loadn 2 (.t p22)) p285 true, 34359738367), (.g p287 (.mv (.t p45)) p285 true, 34359738367), (.g p288 (.callv (.t p287) [(.c (.str 1 120)), (.c (.int .i64 (.ofNat 2)))]) p285 true, 103079215103), (.g p289 (.eq false (.st [1, 0]) (.t p286) (.t p288)) p285 true, 274877906943), (.p p290 (.pick (.t p285) (.t p289) (.c (.bool false))), 549755813887), (.p p291 (.mv (.t p290)), 1099511627775), (.g p292 (.mv (.t p26)) p291 true, 2199023255551), (.g p293 (.bin .eql (.t p292) (.c (.int .i64 (.ofNat 5)))) p291 true, 4398046511103), (.p p294 (.pick (.t p291) (.t p293) (.c (.bool false))), 8796093022207), (.p p295 (.mv (.t p294)), 17592186044415), (.g p296 (.loadn 2 (.t p25)) p295 true, 35184372088831), (.g p297 (.mv (.t p45)) p295 true, 35184372088831), (.g p298 (.callv (.t p297) [(.c (.str 1 120)), (.c (.int .i64 (.ofNat 0)))]) p295 true, 105553116266495), (.g p299 (.eq false (.st [1, 0]) (.t p296) (.t p298)) p295 true, 281474976710655), (.p p300 (.pick (.t p295) (.t p299) (.c (.bool false))), 562949953421311), (.p p301 (.mv (.t p300)), 1125899906842623), (.g p302 (.mv (.t p29)) p301 true, 2251799813685247), (.g p303 (.bin .eql (.t p302) (.c (.int .i64 (.ofNat 5)))) p301 true, 4503599627370495), (.p p304 (.pick (.t p301) (.t p303) (.c (.bool false))), 9007199254740991), (.p p305 (.mv (.t p304)), 18014398509481983), (.g p306 (.loadn 2 (.t p28)) p305 true, 36028797018963967), (.g p307 (.mv (.t p45)) p305 true, 36028797018963967), (.g p308 (.callv (.t p307) [(.c (.str 1 120)), (.c (.int .i64 (.ofNat 1)))]) p305 true, 108086391056891903), (.g p309 (.eq false (.st [1, 0]) (.t p306) (.t p308)) p305 true, 288230376151711743), (.p p310 (.pick (.t p305) (.t p309) (.c (.bool false))), 576460752303423487), (.p p311 (.mv (.t p310)), 1152921504606846975), (.g p312 (.mv (.t p32)) p311 true, 2305843009213693951), (.g p313 (.bin .eql (.t p312) (.c (.int .i64 (.ofNat 6)))) p311 true, 4611686018427387903), (.p p314 (.pick (.t p311) (.t p313) (.c (.bool false))), 9223372036854775807), (.p p315 (.mv (.t p314)), 18446744073709551615), (.g p316 (.loadn 2 (.t p31)) p315 true, 36893488147419103231), (.g p317 (.mv (.t p45)) p315 true, 36893488147419103231), (.g p318 (.callv (.t p317) [(.c (.str 1 120)), (.c (.int .i64 (.ofNat 2)))]) p315 true, 110680464442257309695), (.g p319 (.eq false (.st [1, 0]) (.t p316) (.t p318)) p315 true, 295147905179352825855), (.p p320 (.pick (.t p315) (.t p319) (.c (.bool false))), 590295810358705651711), (.p p321 (.mv (.t p320)), 1180591620717411303423), (.g p322 (.mv (.t p35)) p321 true, 2361183241434822606847), (.g p323 (.bin .eql (.t p322) (.c (.int .i64 (.ofNat 63)))) p321 true, 4722366482869645213695), (.p p324 (.pick (.t p321) (.t p323) (.c (.bool false))), 9444732965739290427391), (.p p325 (.mv (.t p324)), 18889465931478580854783), (.g p326 (.loadn 2 (.t p34)) p325 true, 37778931862957161709567), (.g p327 (.mv (.t p45)) p325 true, 37778931862957161709567), (.g p328 (.callv (.t p327) [(.c (.str 1 120)), (.c (.int .i64 (.ofNat 2)))]) p325 true, 113336795588871485128703), (.g p329 (.eq false (.st [1, 0]) (.t p326) (.t p328)) p325 true, 302231454903657293676543), (.p p330 (.pick (.t p325) (.t p329) (.c (.bool false))), 604462909807314587353087), (.p p331 (.mv (.t p330)), 1208925819614629174706175), (.g p332 (.mv (.t p38)) p331 true, 2417851639229258349412351), (.g p333 (.bin .eql (.t p332) (.c (.int .i64 (.ofNat 63)))) p331 true, 4835703278458516698824703), (.p p334 (.pick (.t p331) (.t p333) (.c (.bool false))), 9671406556917033397649407), (.p p335 (.mv (.t p334)), 19342813113834066795298815), (.g p336 (.loadn 2 (.t p37)) p335 true, 38685626227668133590597631), (.g p337 (.mv (.t p45)) p335 true, 38685626227668133590597631), (.g p338 (.callv (.t p337) [(.c (.str 1 120)), (.c (.int .i64 (.ofNat 1)))]) p335 true, 116056878683004400771792895), (.g p339 (.eq false (.st [1, 0]) (.t p336) (.t p338)) p335 true, 309485009821345068724781055), (.p p340 (.pick (.t p335) (.t p339) (.c (.bool false))), 618970019642690137449562111), (.p p341 (.mv (.t p340)), 1237940039285380274899124223), (.g p342 (.mv (.t p41)) p341 true, 2475880078570760549798248447), (.g p343 (.bin .eql (.t p342) (.c (.int .i64 (.ofNat 0)))) p341 true, 4951760157141521099596496895), (.p p344 (.pick (.t p341) (.t p343) (.c (.bool false))), 9903520314283042199192993791), (.p p345 (.mv (.t p344)), 19807040628566084398385987583), (.g p346 (.mv (.t p39)) p345 true, 39614081257132168796771975167), (.g p347 (.lenSlc (.t p346)) p345 true, 79228162514264337593543950335), (.g p348 (.bin .eql (.t p347) (.c (.int .i64 (.ofNat 1)))) p345 true, 158456325028528675187087900671), (.p p349 (.pick (.t p345) (.t p348) (.c (.bool false))), 316912650057057350374175801343), (.p p350 (.mv (.t p349)), 633825300114114700748351602687), (.g p351 (.mv (.t p44)) p350 true, 1267650600228229401496703205375), (.g p352 (.bin .eql (.t p351) (.c (.int .i64 (.ofNat 0)))) p350 true, 2535301200456458802993406410751), (.p p353 (.pick (.t p350) (.t p352) (.c (.bool false))), 5070602400912917605986812821503), (.p p354 (.mv (.t p353)), 10141204801825835211973625643007), (.g p355 (.mv (.t p42)) p354 true, 20282409603651670423947251286015), (.g p356 (.lenSlc (.t p355)) p354 true, 40564819207303340847894502572031), (.g p357 (.bin .eql (.t p356) (.c (.int .i64 (.ofNat 1)))) p354 true, 81129638414606681695789005144063), (.p p358 (.pick (.t p354) (.t p357) (.c (.bool false))), 162259276829213363391578010288127), (.p p359 (.mv (.t p358)), 324518553658426726783156020576255), (.g p360 (.mv (.t p42)) p359 true, 649037107316853453566312041152511), (.g p361 (.iaddrS 5 (.t p360) (.c (.int .i64 (.ofNat 0)))) p359 true, 1298074214633706907132624082305023), (.g p362 (.faddr 3 (.t p361)) p359 true, 2596148429267413814265248164610047), (.g p363 (.load1 (.t p362)) p359 true, 5192296858534827628530496329220095), (.g p364 (.lenSlc (.t p363)) p359 true, 10384593717069655257060992658440191), (.g p365 (.bin .eql (.t p364) (.c (.int .i64 (.ofNat 5)))) p359 true, 20769187434139310514121985316880383), (.p p366 (.pick (.t p359) (.t p365) (.c (.bool false))), 41538374868278621028243970633760767), (.p p367 (.mv (.t p366)), 83076749736557242056487941267521535), (.g p368 (.mv (.t p42)) p367 true, 166153499473114484112975882535043071), (.g p369 (.iaddrS 5 (.t p368) (.c (.int .i64 (.ofNat 0)))) p367 true, 332306998946228968225951765070086143), (.g p370 (.faddr 3 (.t p369)) p367 true, 664613997892457936451903530140172287), (.g p371 (.load1 (.t p370)) p367 true, 1329227995784915872903807060280344575), (.g p372 (.iaddrS 3 (.t p371) (.c (.int .i64 (.ofNat 0)))) p367 true, 2658455991569831745807614120560689151), (.g p373 (.faddr 2 (.t p372)) p367 true, 5316911983139663491615228241121378303), (.g p374 (.load1 (.t p373)) p367 true, 10633823966279326983230456482242756607), (.g p375 (.iaddrS 1 (.t p374) (.c (.int .i64 (.ofNat 0)))) p367 true, 21267647932558653966460912964485513215), (.g p376 (.load1 (.t p375)) p367 true, 42535295865117307932921825928971026431), (.g p377 (.bin .eql (.t p376) (.c (.str 1 97))) p367 true, 85070591730234615865843651857942052863), (.p p378 (.pick (.t p367) (.t p377) (.c (.bool false))), 170141183460469231731687303715884105727), (.p p379 (.mv (.t p378)), 340282366920938463463374607431768211455), (.g p380 (.mv (.t p42)) p379 true, 680564733841876926926749214863536422911), (.g p381 (.iaddrS 5 (.t p380) (.c (.int .i64 (.ofNat 0)))) p379 true, 1361129467683753853853498429727072845823), (.g p382 (.faddr 3 (.t p381)) p379 true, 2722258935367507707706996859454145691647), (.g p383 (.load1 (.t p382)) p379 true, 5444517870735015415413993718908291383295), (.g p384 (.iaddrS 3 (.t p383) (.c (.int .i64 (.ofNat 1)))) p379 true, 10889035741470030830827987437816582766591), (.g p385 (.faddr 2 (.t p384)) p379 true, 21778071482940061661655974875633165533183), (.g p386 (.load1 (.t p385)) p379 true, 43556142965880123323311949751266331066367), (.g p387 (.iaddrS 1 (.t p386) (.c (.int .i64 (.ofNat 0)))) p379 true, 87112285931760246646623899502532662132735), (.g p388 (.load1 (.t p387)) p379 true, 174224571863520493293247799005065324265471), (.g p389 (.bin .eql (.t p388) (.c (.str 1 112))) p379 true, 348449143727040986586495598010130648530943), (.p p390 (.pick (.t p379) (.t p389) (.c (.bool false))), 696898287454081973172991196020261297061887), (.p p391 (.mv (.t p390)), 1393796574908163946345982392040522594123775), (.g p392 (.mv (.t p42)) p391 true, 2787593149816327892691964784081045188247551), (.g p393 (.iaddrS 5 (.t p392) (.c (.int .i64 (.ofNat 0)))) p391 true, 5575186299632655785383929568162090376495103), (.g p394 (.faddr 3 (.t p393)) p391 true, 11150372599265311570767859136324180752990207), (.g p395 (.load1 (.t p394)) p391 true, 22300745198530623141535718272648361505980415), (.g p396 (.iaddrS 3 (.t p395) (.c (.int .i64 (.ofNat 2)))) p391 true, 44601490397061246283071436545296723011960831), (.g p397 (.faddr 2 (.t p396)) p391 true, 89202980794122492566142873090593446023921663), (.g p398 (.load1 (.t p397)) p391 true, 178405961588244985132285746181186892047843327), (.g p399 (.iaddrS 1 (.t p398) (.c (.int .i64 (.ofNat 0)))) p391 true, 356811923176489970264571492362373784095686655), (.g p400 (.load1 (.t p399)) p391 true, 713623846352979940529142984724747568191373311), (.g p401 (.bin .eql (.t p400) (.c (.str 1 98))) p391 true, 1427247692705959881058285969449495136382746623), (.p p402 (.pick (.t p391) (.t p401) (.c (.bool false))), 2854495385411919762116571938898990272765493247), (.p p403 (.mv (.t p402)), 5708990770823839524233143877797980545530986495), (.g p404 (.mv (.t p42)) p403 true, 11417981541647679048466287755595961091061972991), (.g p405 (.iaddrS 5 (.t p404) (.c (.int .i64 (.ofNat 0)))) p403 true, 22835963083295358096932575511191922182123945983), (.g p406 (.faddr 3 (.t p405)) p403 true, 45671926166590716193865151022383844364247891967), (.g p407 (.load1 (.t p406)) p403 true, 91343852333181432387730302044767688728495783935), (.g p408 (.iaddrS 3 (.t p407) (.c (.int .i64 (.ofNat 3)))) p403 true, 182687704666362864775460604089535377456991567871), (.g p409 (.faddr 2 (.t p408)) p403 true, 365375409332725729550921208179070754913983135743), (.g p410 (.load1 (.t p409)) p403 true, 730750818665451459101842416358141509827966271487), (.g p411 (.iaddrS 1 (.t p410) (.c (.int .i64 (.ofNat 0)))) p403 true, 1461501637330902918203684832716283019655932542975), (.g p412 (.load1 (.t p411)) p403 true, 2923003274661805836407369665432566039311865085951), (.g p413 (.bin .eql (.t p412) (.c (.str 1 51))) p403 true, 5846006549323611672814739330865132078623730171903), (.p p414 (.pick (.t p403) (.t p413) (.c (.bool false))), 11692013098647223345629478661730264157247460343807), (.p p415 (.mv (.t p414)), 23384026197294446691258957323460528314494920687615), (.g p416 (.mv (.t p42)) p415 true, 46768052394588893382517914646921056628989841375231), (.g p417 (.iaddrS 5 (.t p416) (.c (.int .i64 (.ofNat 0)))) p415 true, 93536104789177786765035829293842113257979682750463), (.g p418 (.faddr 3 (.t p417)) p415 true, 187072209578355573530071658587684226515959365500927), (.g p419 (.load1 (.t p418)) p415 true, 374144419156711147060143317175368453031918731001855), (.g p420 (.iaddrS 3 (.t p419) (.c (.int .i64 (.ofNat 4)))) p415 true, 748288838313422294120286634350736906063837462003711), (.g p421 (.faddr 2 (.t p420)) p415 true, 1496577676626844588240573268701473812127674924007423), (.g p422 (.load1 (.t p421)) p415 true, 2993155353253689176481146537402947624255349848014847), (.g p423 (.iaddrS 1 (.t p422) (.c (.int .i64 (.ofNat 0)))) p415 true, 5986310706507378352962293074805895248510699696029695), (.g p424 (.load1 (.t p423)) p415 true, 11972621413014756705924586149611790497021399392059391), (.g p425 (.bin .eql (.t p424) (.c (.str 1 113))) p415 true, 23945242826029513411849172299223580994042798784118783), (.p p426 (.pick (.t p415) (.t p425) (.c (.bool false))), 47890485652059026823698344598447161988085597568237567), (.p p0 (.mv (.t p426)), 95780971304118053647396689196894323976171195136475135)])
   .ret)))
def b42 : AC := .seq b43 b44
def b40 : AC := .seq b41 b42
def b38 : AC := .seq b39 b40
def b36 : AC := .seq b37 b38
def b34 : AC := .seq b35 b36
def b32 : AC := .seq b33 b34
def b30 : AC := .seq b31 b32
def b28 : AC := .seq b29 b30
def b26 : AC := .seq b27 b28
def b20 : AC := .seq b21 b26
def b16 : AC := .seq b17 b20
def b14 : AC := .seq b15 b16
def b12 : AC := .seq b13 b14
def b6 : AC := .seq b7 b12
def b4 : AC := .seq b5 b6
def b2 : AC := .seq b3 b4
def b0 : AC := .seq b1 b2
/- bastion/bastionlaw13.ExpandNames -/
def a3 : AF :=
  .code [] b0
   [.t p0]
/- bastion/bastionlaw13.works -/
def a4 : AF :=
  .code [] (.seq (.reg [.p p0 (.mv (.c (.bool false)))])
   (.seq (.reg [.p p7 (.build [([], 1, (.c (.str 1 120))), ([], 1, (.c (.str 1 49)))] []),
   .p p8 (.build [([], 1, (.c (.str 2 11640))), ([], 1, (.c (.str 1 50)))] []),
   .p p9 (.bslice 25 2 2 [([], 2, (.t p7)), ([], 2, (.t p8))] []),
   .p p10 (.call 5 [(.c (.str 11 43692173460145949191644257)), (.t p9)]),
   .p p6 (.mv (.t p10)),
   .p p11 (.extract 0 (.t p6)),
   .p p12 (.extract 1 (.t p6)),
   .p p1 (.mv (.t p11)),
   .p p2 (.mv (.t p12))])
   (.seq (.reg [.p p14 (.call 11 []),
   .p p15 (.call 6 [(.t p14), (.c (.str 2 26979)), (.c (.nils))]),
   .p p13 (.mv (.t p15)),
   .p p16 (.extract 0 (.t p13)),
   .p p17 (.extract 1 (.t p13)),
   .p p18 (.extract 2 (.t p13)),
   .p p4 (.alloc 34 [.str 0 0, .int .i64 (.ofNat 0)]),
   .p p3 (.mv (.t p16)),
   .n (.store 2 (.t p4) (.t p17)),
   .p p5 (.mv (.t p18))])
   (.seq (.reg [.p p19 (.mv (.t p2)),
   .p p20 (.bin .eql (.t p19) (.c (.int .i64 (.ofNat 0)))),
   .p p21 (.mv (.t p20)),
   .g p22 (.mv (.t p1)) p21 true,
   .g p23 (.bin .eql (.t p22) (.c (.str 5 155464118625))) p21 true,
   .p p24 (.pick (.t p21) (.t p23) (.c (.bool false))),
   .p p25 (.mv (.t p24)),
   .g p26 (.mv (.t p5)) p25 true,
   .g p27 (.bin .eql (.t p26) (.c (.int .i64 (.ofNat 0)))) p25 true,
   .p p28 (.pick (.t p25) (.t p27) (.c (.bool false))),
   .p p29 (.mv (.t p28)),
   .g p30 (.mv (.t p3)) p29 true,
   .g p31 (.lenSlc (.t p30)) p29 true,
   .g p32 (.bin .eql (.t p31) (.c (.int .i64 (.ofNat 1)))) p29 true,
   .p p33 (.pick (.t p29) (.t p32) (.c (.bool false))),
   .p p34 (.mv (.t p33)),
   .g p35 (.mv (.t p3)) p34 true,
   .g p36 (.iaddrS 5 (.t p35) (.c (.int .i64 (.ofNat 0)))) p34 true,
   .g p37 (.faddr 0 (.t p36)) p34 true,
   .g p38 (.load1 (.t p37)) p34 true,
   .g p39 (.bin .eql (.t p38) (.c (.str 1 98))) p34 true,
   .p p40 (.pick (.t p34) (.t p39) (.c (.bool false))),
   .p p41 (.mv (.t p40)),
   .g p42 (.mv (.t p3)) p41 true,
   .g p43 (.iaddrS 5 (.t p42) (.c (.int .i64 (.ofNat 0)))) p41 true,
   .g p44 (.faddr 3 (.t p43)) p41 true,
   .g p45 (.load1 (.t p44)) p41 true,
   .g p46 (.lenSlc (.t p45)) p41 true,
   .g p47 (.bin .eql (.t p46) (.c (.int .i64 (.ofNat 3)))) p41 true,
   .p p48 (.pick (.t p41) (.t p47) (.c (.bool false))),
   .p p49 (.mv (.t p48)),
   .g p50 (.mv (.t p3)) p49 true,
   .g p51 (.iaddrS 5 (.t p50) (.c (.int .i64 (.ofNat 0)))) p49 true,
   .g p52 (.faddr 3 (.t p51)) p49 true,
   .g p53 (.load1 (.t p52)) p49 true,
   .g p54 (.iaddrS 3 (.t p53) (.c (.int .i64 (.ofNat 0)))) p49 true,
   .g p55 (.faddr 1 (.t p54)) p49 true,
   .g p56 (.load1 (.t p55)) p49 true,
   .g p57 (.bin .eql (.t p56) (.c (.str 5 495622648436))) p49 true,
   .p p58 (.pick (.t p49) (.t p57) (.c (.bool false))),
   .p p59 (.mv (.t p58)),
   .g p60 (.mv (.t p3)) p59 true,
   .g p61 (.iaddrS 5 (.t p60) (.c (.int .i64 (.ofNat 0)))) p59 true,
   .g p62 (.faddr 3 (.t p61)) p59 true,
   .g p63 (.load1 (.t p62)) p59 true,
   .g p64 (.iaddrS 3 (.t p63) (.c (.int .i64 (.ofNat 2)))) p59 true,
   .g p65 (.faddr 2 (.t p64)) p59 true,
   .g p66 (.load1 (.t p65)) p59 true,
   .g p67 (.iaddrS 1 (.t p66) (.c (.int .i64 (.ofNat 0)))) p59 true,
   .g p68 (.load1 (.t p67)) p59 true,
   .g p69 (.bin .eql (.t p68) (.c (.str 3 7954803))) p59 true,
   .p p70 (.pick (.t p59) (.t p69) (.c (.bool false))),
   .p p71 (.mv (.t p70)),
   .g p72 (.mv (.t p3)) p71 true,
   .g p73 (.iaddrS 5 (.t p72) (.c (.int .i64 (.ofNat 0)))) p71 true,
   .g p74 (.faddr 4 (.t p73)) p71 true,
   .g p75 (.load1 (.t p74)) p71 true,
   .g p76 (.build [([], 1, (.c (.str 1 97))), ([], 1, (.c (.str 1 51)))] []) p71 true,
   .g p77 (.build [([], 1, (.c (.str 1 98))), ([], 1, (.c (.str 1 49)))] []) p71 true,
   .g p78 (.bslice 25 2 2 [([], 2, (.t p76)), ([], 2, (.t p77))] []) p71 true,
   .g p79 (.call 7 [(.t p75), (.t p78)]) p71 true,
   .p p80 (.pick (.t p71) (.t p79) (.c (.bool false))),
   .p p0 (.mv (.t p80))])
   .ret))))
   [.t p0]
/- bastion/expand.Subst -/
def a5 : AF :=
  .code [p0, p1] (.seq (.reg [.p p3 (.box 26 (.t p1)),
   .p p4 (.mv (.c (.str 0 0))),
   .p p5 (.mv (.c (.int .i64 (.ofNat 0))))])
   (.seq (.reg [.p p15 (.mkfn 12 [] [(.t p3)]),
   .p p6 (.mv (.t p15))])
   (.seq (.reg [.p p7 (.alloc 54 [.nilp, .nils])])
   (.seq (.block 0 (.loop (.block 1 (.seq (.reg [.p p17 (.mv (.t p0)),
   .p p18 (.call 13 [(.t p17), (.c (.str 1 36))]),
   .p p16 (.mv (.t p18)),
   .p p19 (.extract 0 (.t p16)),
   .p p20 (.extract 1 (.t p16)),
   .p p21 (.extract 2 (.t p16)),
   .p p8 (.mv (.t p19)),
   .p p9 (.mv (.t p20)),
   .p p10 (.mv (.t p21))])
   (.seq (.reg [.p p22 (.mv (.t p8)),
   .p p23 (.call 14 [(.t p7), (.t p22)])])
   (.seq (.seq (.reg [.p p24 (.mv (.t p10)),
   .p p25 (.not (.t p24))])
   (.cond (.t p25) (.exit 0) .skip))
   (.seq (.seq (.reg [.p p26 (.mv (.t p9)),
   .p p27 (.call 15 [(.t p26), (.c (.str 1 36))])])
   (.cond (.t p27) (.seq (.reg [.p p28 (.call 16 [(.t p7), (.c (.int .u8 (.ofNat 36)))])])
   (.seq (.reg [.p p29 (.mv (.t p9)),
   .p p30 (.sliceStr (.t p29) (some (.c (.int .i64 (.ofNat 1)))) none),
   .p p0 (.mv (.t p30))])
   (.exit 1))) .skip))
   (.seq (.reg [.p p32 (.mv (.t p9)),
   .p p33 (.call 17 [(.t p32)]),
   .p p31 (.mv (.t p33)),
   .p p34 (.extract 0 (.t p31)),
   .p p35 (.extract 1 (.t p31)),
   .p p36 (.extract 2 (.t p31)),
   .p p11 (.mv (.t p34)),
   .p p12 (.mv (.t p35)),
   .p p13 (.mv (.t p36))])
   (.seq (.seq (.reg [.p p37 (.mv (.t p13)),
   .p p38 (.not (.t p37))])
   (.cond (.t p38) (.seq (.reg [.p p4 (.mv (.c (.str 0 0))),
   .p p5 (.mv (.c (.int .i64 (.ofNat 4))))])
   .ret) .skip))
   (.seq (.reg [.p p40 (.mv (.t p6)),
   .p p41 (.mv (.t p11)),
   .p p42 (.callv (.t p40) [(.t p41)]),
   .p p39 (.mv (.t p42)),
   .p p43 (.extract 0 (.t p39)),
   .p p44 (.extract 1 (.t p39)),
   .p p14 (.mv (.t p43)),
   .p p13 (.mv (.t p44))])
   (.seq (.seq (.reg [.p p45 (.mv (.t p13)),
   .p p46 (.not (.t p45))])
   (.cond (.t p46) (.seq (.reg [.p p4 (.mv (.c (.str 0 0))),
   .p p5 (.mv (.c (.int .i64 (.ofNat 63))))])
   .ret) .skip))
   (.seq (.reg [.p p47 (.mv (.t p14)),
   .p p48 (.call 14 [(.t p7), (.t p47)])])
   (.reg [.p p49 (.mv (.t p9)),
   .p p50 (.mv (.t p12)),
   .p p51 (.sliceStr (.t p49) (some (.t p50)) none),
   .p p0 (.mv (.t p51))])))))))))))))
   (.seq (.seq (.reg [.p p52 (.call 18 [(.t p7)]),
   .p p53 (.bin .gtr (.t p52) (.c (.int .i64 (.ofNat 400))))])
   (.cond (.t p53) (.seq (.reg [.p p4 (.mv (.c (.str 0 0))),
   .p p5 (.mv (.c (.int .i64 (.ofNat 40))))])
   .ret) .skip))
   (.seq (.reg [.p p54 (.call 19 [(.t p7)]),
   .p p4 (.mv (.t p54)),
   .p p5 (.mv (.c (.int .i64 (.ofNat 0))))])
   .ret))))))
   [.t p4, .t p5]
def b6_1 : AC := (.reg [.p p6 (.mv (.c (.nils))),
   .p p7 (.alloc 34 [.str 0 0, .int .i64 (.ofNat 0)]),
   .p p8 (.mv (.c (.int .i64 (.ofNat 0))))])
def b6_3 : AC := (.reg [.p p29 (.mv (.t p0)),
   .p p30 (.mv (.t p1)),
   .p p31 (.call 20 [(.t p29), (.t p30)]),
   .p p28 (.mv (.t p31)),
   .p p32 (.extract 0 (.t p28)),
   .p p33 (.extract 1 (.t p28)),
   .p p34 (.extract 2 (.t p28)),
   .p p10 (.alloc 34 [.str 0 0, .int .i64 (.ofNat 0)]),
   .p p9 (.mv (.t p32)),
   .n (.store 2 (.t p10) (.t p33)),
   .p p11 (.mv (.t p34))])
def b6_5 : AC := (.seq (.reg [.p p35 (.mv (.t p11)),
   .p p36 (.bin .neq (.t p35) (.c (.int .i64 (.ofNat 0))))])
   (.cond (.t p36) (.seq (.dreg [(.p p37 (.loadn 2 (.t p10)), 0), (.p p38 (.mv (.t p11)), 0), (.p p6 (.mv (.c (.nils))), 0), (.n (.store 2 (.t p7) (.t p37)), 5), (.p p8 (.mv (.t p38)), 15)])
   .ret) .skip))
def b6_7 : AC := (.reg [.p p40 (.mv (.t p9)),
   .p p41 (.call 21 [(.t p40)]),
   .p p39 (.mv (.t p41)),
   .p p42 (.extract 0 (.t p39)),
   .p p43 (.extract 1 (.t p39)),
   .p p44 (.extract 2 (.t p39)),
   .p p45 (.extract 3 (.t p39)),
   .p p12 (.mv (.t p42)),
   .p p13 (.mv (.t p43)),
   .n (.store 2 (.t p10) (.t p44)),
   .p p11 (.mv (.t p45))])
def b6_9 : AC := (.seq (.reg [.p p46 (.mv (.t p11)),
   .p p47 (.bin .neq (.t p46) (.c (.int .i64 (.ofNat 0))))])
   (.cond (.t p47) (.seq (.dreg [(.p p48 (.loadn 2 (.t p10)), 0), (.p p49 (.mv (.t p11)), 0), (.p p6 (.mv (.c (.nils))), 0), (.n (.store 2 (.t p7) (.t p48)), 5), (.p p8 (.mv (.t p49)), 15)])
   .ret) .skip))
def b6_11 : AC := (.reg [.p p14 (.mv (.c (.nils)))])
def b6_14 : AC := (.reg [.p p50 (.mv (.t p2)),
   .p p51 (.lenSlc (.t p50)),
   .p p52 (.mv (.c (.int .i64 (.ofNat 0))))])
def b6_17 : AC := (.seq (.reg [.p p53 (.bin .lss (.t p52) (.t p51))])
   (.seq (.cond (.t p53) .skip (.exit 0))
   (.seq (.block 1 (.seq (.reg [.p p54 (.iaddrS 2 (.t p50) (.t p52)),
   .p p55 (.loadn 2 (.t p54)),
   .p p16 (.alloc 25 [.str 0 0, .str 0 0]),
   .n (.store 2 (.t p16) (.t p55))])
   (.reg [.p p56 (.mv (.t p14)),
   .p p57 (.faddr 0 (.t p16)),
   .p p58 (.load1 (.t p57)),
   .p p59 (.faddr 1 (.t p16)),
   .p p60 (.load1 (.t p59)),
   .p p61 (.call 22 [(.t p56), (.t p58), (.t p60)]),
   .p p14 (.mv (.t p61))])))
   (.reg [.p p62 (.bin .add (.t p52) (.c (.int .i64 (.ofNat 1)))),
   .p p52 (.mv (.t p62))]))))
def b6_16 : AC := .loop b6_17
def b6_15 : AC := .block 0 b6_16
def b6_13 : AC := .seq b6_14 b6_15
def b6_20 : AC := (.reg [.p p63 (.mv (.t p9)),
   .p p64 (.nilck (.t p63)),
   .p p65 (.faddr 3 (.t p64)),
   .p p66 (.load1 (.t p65)),
   .p p67 (.lenSlc (.t p66)),
   .p p68 (.mv (.c (.int .i64 (.ofNat 0))))])
def b6_23 : AC := (.seq (.reg [.p p69 (.bin .lss (.t p68) (.t p67))])
   (.seq (.cond (.t p69) .skip (.exit 2))
   (.seq (.block 3 (.seq (.reg [.p p70 (.iaddrS 4 (.t p66) (.t p68)),
   .p p71 (.loadn 4 (.t p70)),
   .p p18 (.alloc 81 [.str 0 0, .int .i64 (.ofNat 0), .str 0 0, .nils]),
   .n (.store 4 (.t p18) (.t p71))])
   (.seq (.reg [.p p73 (.mv (.t p14)),
   .p p74 (.faddr 0 (.t p18)),
   .p p75 (.load1 (.t p74)),
   .p p76 (.faddr 1 (.t p18)),
   .p p77 (.loadn 3 (.t p76)),
   .p p78 (.bslice 49 1 3 [([], 3, (.t p77))] []),
   .p p79 (.call 23 [(.t p73), (.t p75), (.t p78)]),
   .p p72 (.mv (.t p79)),
   .p p80 (.extract 0 (.t p72)),
   .p p81 (.extract 1 (.t p72)),
   .p p82 (.extract 2 (.t p72)),
   .p p14 (.mv (.t p80)),
   .n (.store 2 (.t p10) (.t p81)),
   .p p11 (.mv (.t p82))])
   (.seq (.reg [.p p83 (.mv (.t p11)),
   .p p84 (.bin .neq (.t p83) (.c (.int .i64 (.ofNat 0))))])
   (.cond (.t p84) (.seq (.dreg [(.p p85 (.loadn 2 (.t p10)), 0), (.p p86 (.mv (.t p11)), 0), (.p p6 (.mv (.c (.nils))), 0), (.n (.store 2 (.t p7) (.t p85)), 5), (.p p8 (.mv (.t p86)), 15)])
   .ret) .skip)))))
   (.reg [.p p87 (.bin .add (.t p68) (.c (.int .i64 (.ofNat 1)))),
   .p p68 (.mv (.t p87))]))))
def b6_22 : AC := .loop b6_23
def b6_21 : AC := .block 2 b6_22
def b6_19 : AC := .seq b6_20 b6_21
def b6_25 : AC := (.reg [.p p19 (.mv (.c (.nils)))])
def b6_28 : AC := (.reg [.p p88 (.mv (.t p13)),
   .p p89 (.lenSlc (.t p88)),
   .p p90 (.mv (.c (.int .i64 (.ofNat 0))))])
def b6_31 : AC := (.seq (.reg [.p p91 (.bin .lss (.t p90) (.t p89))])
   (.seq (.cond (.t p91) .skip (.exit 4))
   (.seq (.block 5 (.seq (.reg [.p p92 (.iaddrS 5 (.t p88) (.t p90)),
   .p p93 (.loadn 5 (.t p92)),
   .p p21 (.alloc 87 [.str 0 0, .int .i64 (.ofNat 0), .int .u8 (.ofNat 0), .str 0 0, .nils]),
   .n (.store 5 (.t p21) (.t p93))])
   (.seq (.reg [.p p22 (.alloc 87 [.str 0 0, .int .i64 (.ofNat 0), .int .u8 (.ofNat 0), .str 0 0, .nils])])
   (.seq (.seq (.reg [.p p94 (.faddr 1 (.t p21)),
   .p p95 (.faddr 3 (.t p94)),
   .p p96 (.load1 (.t p95)),
   .p p97 (.lenSlc (.t p96)),
   .p p98 (.bin .gtr (.t p97) (.c (.int .i64 (.ofNat 0)))),
   .p p99 (.mv (.t p98)),
   .g p100 (.faddr 1 (.t p21)) p99 true,
   .g p101 (.faddr 3 (.t p100)) p99 true,
   .g p102 (.load1 (.t p101)) p99 true,
   .g p103 (.iaddrS 3 (.t p102) (.c (.int .i64 (.ofNat 0)))) p99 true,
   .g p104 (.faddr 1 (.t p103)) p99 true,
   .g p105 (.load1 (.t p104)) p99 true,
   .g p106 (.bin .eql (.t p105) (.c (.str 3 6648693))) p99 true,
   .p p107 (.pick (.t p99) (.t p106) (.c (.bool false)))])
   (.cond (.t p107) (.seq (.reg [.p p109 (.mv (.t p12)),
   .p p110 (.faddr 1 (.t p21)),
   .p p111 (.faddr 3 (.t p110)),
   .p p112 (.load1 (.t p111)),
   .p p113 (.iaddrS 3 (.t p112) (.c (.int .i64 (.ofNat 0)))),
   .p p114 (.faddr 2 (.t p113)),
   .p p115 (.load1 (.t p114)),
   .p p116 (.iaddrS 1 (.t p115) (.c (.int .i64 (.ofNat 0)))),
   .p p117 (.load1 (.t p116)),
   .p p118 (.lookup .str true (.agg [.str 0 0, .int .i64 (.ofNat 0), .int .u8 (.ofNat 0), .str 0 0, .nils]) (.t p109) (.t p117)),
   .p p108 (.mv (.t p118)),
   .p p119 (.extract 0 (.t p108)),
   .p p120 (.extract 1 (.t p108)),
   .p p23 (.alloc 87 [.str 0 0, .int .i64 (.ofNat 0), .int .u8 (.ofNat 0), .str 0 0, .nils]),
   .n (.store 5 (.t p23) (.t p119)),
   .p p24 (.mv (.t p120))])
   (.seq (.seq (.reg [.p p121 (.mv (.t p24)),
   .p p122 (.not (.t p121))])
   (.cond (.t p122) (.seq (.dreg [(.p p123 (.faddr 0 (.t p21)), 0), (.p p124 (.load1 (.t p123)), 1), (.p p125 (.faddr 1 (.t p21)), 0), (.p p126 (.faddr 3 (.t p125)), 4), (.p p127 (.load1 (.t p126)), 12), (.p p128 (.iaddrS 3 (.t p127) (.c (.int .i64 (.ofNat 0)))), 28), (.p p129 (.faddr 0 (.t p128)), 60), (.p p130 (.load1 (.t p129)), 124), (.p p131 (.build [([], 1, (.t p124)), ([], 1, (.t p130))] []), 255), (.p p6 (.mv (.c (.nils))), 0), (.n (.store 2 (.t p7) (.t p131)), 1023), (.p p8 (.mv (.c (.int .i64 (.ofNat 63)))), 2047)])
   .ret) .skip))
   (.reg [.p p132 (.loadn 5 (.t p23)),
   .n (.store 5 (.t p22) (.t p132))]))) .skip))
   (.seq (.dreg [(.p p134 (.mv (.t p14)), 0), (.p p135 (.call 24 [(.t p134)]), 1), (.p p136 (.faddr 0 (.t p22)), 0), (.p p137 (.load1 (.t p136)), 4), (.p p138 (.faddr 1 (.t p22)), 0), (.p p139 (.faddr 3 (.t p138)), 16), (.p p140 (.load1 (.t p139)), 48), (.p p141 (.call 23 [(.t p135), (.t p137), (.t p140)]), 127), (.p p133 (.mv (.t p141)), 255), (.p p142 (.extract 0 (.t p133)), 511), (.p p143 (.extract 1 (.t p133)), 511), (.p p144 (.extract 2 (.t p133)), 511), (.p p26 (.alloc 34 [.str 0 0, .int .i64 (.ofNat 0)]), 0), (.p p25 (.mv (.t p142)), 5119), (.n (.store 2 (.t p26) (.t p143)), 14335), (.p p27 (.mv (.t p144)), 32767)])
   (.seq (.seq (.reg [.p p145 (.mv (.t p27)),
   .p p146 (.bin .eql (.t p145) (.c (.int .i64 (.ofNat 0))))])
   (.cond (.t p146) (.reg [.p p148 (.mv (.t p25)),
   .p p149 (.faddr 0 (.t p21)),
   .p p150 (.load1 (.t p149)),
   .p p151 (.faddr 1 (.t p21)),
   .p p152 (.faddr 3 (.t p151)),
   .p p153 (.load1 (.t p152)),
   .p p154 (.call 23 [(.t p148), (.t p150), (.t p153)]),
   .p p147 (.mv (.t p154)),
   .p p155 (.extract 0 (.t p147)),
   .p p156 (.extract 1 (.t p147)),
   .p p157 (.extract 2 (.t p147)),
   .p p25 (.mv (.t p155)),
   .n (.store 2 (.t p26) (.t p156)),
   .p p27 (.mv (.t p157))]) .skip))
   (.seq (.seq (.reg [.p p158 (.mv (.t p27)),
   .p p159 (.bin .neq (.t p158) (.c (.int .i64 (.ofNat 0))))])
   (.cond (.t p159) (.seq (.dreg [(.p p160 (.loadn 2 (.t p26)), 0), (.p p161 (.mv (.t p27)), 0), (.p p6 (.mv (.c (.nils))), 0), (.n (.store 2 (.t p7) (.t p160)), 5), (.p p8 (.mv (.t p161)), 15)])
   .ret) .skip))
   (.dreg [(.p p162 (.mv (.t p19)), 0), (.p p163 (.faddr 1 (.t p21)), 0), (.p p164 (.faddr 2 (.t p163)), 2), (.p p165 (.load1 (.t p164)), 6), (.p p166 (.faddr 0 (.t p21)), 0), (.p p167 (.load1 (.t p166)), 16), (.p p168 (.faddr 1 (.t p21)), 0), (.p p169 (.faddr 0 (.t p168)), 64), (.p p170 (.load1 (.t p169)), 192), (.p p171 (.faddr 1 (.t p22)), 0), (.p p172 (.faddr 3 (.t p171)), 512), (.p p173 (.load1 (.t p172)), 1536), (.p p174 (.faddr 1 (.t p21)), 0), (.p p175 (.faddr 3 (.t p174)), 4096), (.p p176 (.load1 (.t p175)), 12288), (.p p177 (.call 25 [(.t p173), (.t p176)]), 32256), (.p p178 (.mv (.t p25)), 0), (.p p179 (.build [([], 1, (.t p165)), ([], 1, (.t p167)), ([], 1, (.t p170)), ([], 1, (.t p177)), ([], 1, (.t p178))] []), 131070), (.p p180 (.bslice 43 1 5 [([], 5, (.t p179))] []), 262142), (.p p181 (.append 43 5 88 (.t p162) (.t p180)), 524287), (.p p19 (.mv (.t p181)), 1048575)]))))))))
   (.reg [.p p182 (.bin .add (.t p90) (.c (.int .i64 (.ofNat 1)))),
   .p p90 (.mv (.t p182))]))))
def b6_30 : AC := .loop b6_31
def b6_29 : AC := .block 4 b6_30
def b6_27 : AC := .seq b6_28 b6_29
def b6_32 : AC := (.seq (.reg [.p p183 (.mv (.t p19)),
   .p p184 (.build [] [.str 0 0, .int .i64 (.ofNat 0)]),
   .p p6 (.mv (.t p183)),
   .n (.store 2 (.t p7) (.t p184)),
   .p p8 (.mv (.c (.int .i64 (.ofNat 0))))])
   .ret)
def b6_26 : AC := .seq b6_27 b6_32
def b6_24 : AC := .seq b6_25 b6_26
def b6_18 : AC := .seq b6_19 b6_24
def b6_12 : AC := .seq b6_13 b6_18
def b6_10 : AC := .seq b6_11 b6_12
def b6_8 : AC := .seq b6_9 b6_10
def b6_6 : AC := .seq b6_7 b6_8
def b6_4 : AC := .seq b6_5 b6_6
def b6_2 : AC := .seq b6_3 b6_4
def b6_0 : AC := .seq b6_1 b6_2
/- bastion/expand.Expand -/
def a6 : AF :=
  .code [p0, p1, p2] b6_0
   [.t p6, .cell p7 2, .t p8]
/- bastion/bastionref13.SameVars -/
def a7 : AF :=
  .code [p0, p1] (.seq (.reg [.p p4 (.mv (.c (.bool false)))])
   (.seq (.seq (.reg [.p p6 (.mv (.t p0)),
   .p p7 (.lenSlc (.t p6)),
   .p p8 (.mv (.t p1)),
   .p p9 (.lenSlc (.t p8)),
   .p p10 (.bin .neq (.t p7) (.t p9))])
   (.cond (.t p10) (.seq (.reg [.p p4 (.mv (.c (.bool false)))])
   .ret) .skip))
   (.seq (.seq (.reg [.p p5 (.mv (.c (.int .i64 (.ofNat 0))))])
   (.block 0 (.loop (.seq (.seq (.reg [.p p11 (.mv (.t p5)),
   .p p12 (.mv (.t p0)),
   .p p13 (.lenSlc (.t p12)),
   .p p14 (.bin .lss (.t p11) (.t p13))])
   (.cond (.t p14) .skip (.exit 0)))
   (.seq (.block 1 (.seq (.dreg [(.p p17 (.mv (.t p0)), 0), (.p p18 (.mv (.t p5)), 0), (.p p19 (.iaddrS 2 (.t p17) (.t p18)), 3), (.p p20 (.loadn 2 (.t p19)), 7), (.p p21 (.mv (.t p1)), 0), (.p p22 (.mv (.t p5)), 0), (.p p23 (.iaddrS 2 (.t p21) (.t p22)), 48), (.p p24 (.loadn 2 (.t p23)), 112), (.p p25 (.eq true (.st [1, 1]) (.t p20) (.t p24)), 255)])
   (.cond (.t p25) (.seq (.reg [.p p4 (.mv (.c (.bool false)))])
   .ret) .skip)))
   (.reg [.p p15 (.mv (.t p5)),
   .p p16 (.bin .add (.t p15) (.c (.int .i64 (.ofNat 1)))),
   .p p5 (.mv (.t p16))]))))))
   (.seq (.reg [.p p4 (.mv (.c (.bool true)))])
   .ret))))
   [.t p4]
/- bastion/bastionlaw13.several -/
def a8 : AF :=
  .code [p0, p1] (.seq (.reg [.p p4 (.mv (.c (.str 0 0)))])
   (.seq (.reg [.p p5 (.mv (.c (.str 0 0)))])
   (.seq (.seq (.reg [.p p6 (.mv (.c (.int .i64 (.ofNat 0))))])
   (.block 0 (.loop (.seq (.seq (.reg [.p p7 (.mv (.t p6)),
   .p p8 (.mv (.t p0)),
   .p p9 (.bin .lss (.t p7) (.t p8))])
   (.cond (.t p9) .skip (.exit 0)))
   (.seq (.block 1 (.reg [.p p12 (.mv (.t p5)),
   .p p13 (.bin .add (.t p12) (.c (.str 4 543321962))),
   .p p14 (.mv (.t p1)),
   .p p15 (.bin .add (.t p13) (.t p14)),
   .p p16 (.mv (.t p6)),
   .p p17 (.bin .add (.c (.int .i64 (.ofNat 97))) (.t p16)),
   .p p18 (.convI .u8 (.t p17)),
   .p p19 (.bslice 5 1 1 [([], 1, (.t p18))] []),
   .p p20 (.convBS (.t p19)),
   .p p21 (.bin .add (.t p15) (.t p20)),
   .p p22 (.bin .add (.t p21) (.c (.str 1 10))),
   .p p5 (.mv (.t p22))]))
   (.reg [.p p10 (.mv (.t p6)),
   .p p11 (.bin .add (.t p10) (.c (.int .i64 (.ofNat 1)))),
   .p p6 (.mv (.t p11))]))))))
   (.seq (.reg [.p p23 (.mv (.t p5)),
   .p p4 (.mv (.t p23))])
   .ret))))
   [.t p4]
/- bastion/bastionlaw13.chain -/
def a9 : AF :=
  .code [p0] (.seq (.reg [.p p2 (.mv (.c (.nils)))])
   (.seq (.reg [.p p3 (.mv (.c (.nils)))])
   (.seq (.seq (.reg [.p p4 (.mv (.c (.int .i64 (.ofNat 0))))])
   (.block 0 (.loop (.seq (.seq (.reg [.p p6 (.mv (.t p4)),
   .p p7 (.mv (.t p0)),
   .p p8 (.bin .lss (.t p6) (.t p7))])
   (.cond (.t p8) .skip (.exit 0)))
   (.seq (.block 1 (.seq (.reg [.p p11 (.mv (.t p4)),
   .p p12 (.bin .add (.c (.int .i64 (.ofNat 97))) (.t p11)),
   .p p13 (.convI .u8 (.t p12)),
   .p p14 (.bslice 5 1 1 [([], 1, (.t p13))] []),
   .p p15 (.convBS (.t p14)),
   .p p16 (.bin .add (.c (.str 5 455809855338)) (.t p15)),
   .p p17 (.bin .add (.t p16) (.c (.str 1 10))),
   .p p5 (.mv (.t p17))])
   (.seq (.seq (.reg [.p p18 (.mv (.t p4)),
   .p p19 (.bin .add (.t p18) (.c (.int .i64 (.ofNat 1)))),
   .p p20 (.mv (.t p0)),
   .p p21 (.bin .lss (.t p19) (.t p20))])
   (.cond (.t p21) (.reg [.p p22 (.mv (.t p4)),
   .p p23 (.bin .add (.c (.int .i64 (.ofNat 97))) (.t p22)),
   .p p24 (.bin .add (.t p23) (.c (.int .i64 (.ofNat 1)))),
   .p p25 (.convI .u8 (.t p24)),
   .p p26 (.bslice 5 1 1 [([], 1, (.t p25))] []),
   .p p27 (.convBS (.t p26)),
   .p p28 (.bin .add (.c (.str 9 1883902277955728141929)) (.t p27)),
   .p p29 (.bin .add (.t p28) (.c (.str 1 10))),
   .p p30 (.mv (.t p5)),
   .p p31 (.bin .add (.t p29) (.t p30)),
   .p p5 (.mv (.t p31))]) .skip))
   (.reg [.p p32 (.mv (.t p3)),
   .p p33 (.mv (.t p4)),
   .p p34 (.bin .add (.c (.int .i64 (.ofNat 97))) (.t p33)),
   .p p35 (.convI .u8 (.t p34)),
   .p p36 (.bslice 5 1 1 [([], 1, (.t p35))] []),
   .p p37 (.convBS (.t p36)),
   .p p38 (.bin .add (.c (.str 1 102)) (.t p37)),
   .p p39 (.mv (.t p5)),
   .p p40 (.build [([], 1, (.t p38)), ([], 1, (.t p39))] []),
   .p p41 (.bslice 38 1 2 [([], 2, (.t p40))] []),
   .p p42 (.append 38 2 32 (.t p32) (.t p41)),
   .p p3 (.mv (.t p42))]))))
   (.reg [.p p9 (.mv (.t p4)),
   .p p10 (.bin .add (.t p9) (.c (.int .i64 (.ofNat 1)))),
   .p p4 (.mv (.t p10))]))))))
   (.seq (.reg [.p p43 (.mv (.t p3)),
   .p p2 (.mv (.t p43))])
   .ret))))
   [.t p2]
/- bastion/bastionlaw13.ExpandNames$1 -/
def a10 : AF :=
  .code [p0, p1] (.seq (.reg [.p p4 (.alloc 34 [.str 0 0, .int .i64 (.ofNat 0)])])
   (.seq (.reg [.p p5 (.mv (.t p0)),
   .p p6 (.mv (.t p1)),
   .p p7 (.build [([], 1, (.t p5)), ([], 1, (.t p6))] []),
   .n (.store 2 (.t p4) (.t p7))])
   .ret))
   [.cell p4 2]
/- bastion/bastionlaw13.example -/
def a11 : AF :=
  .code [] (.seq (.reg [.p p0 (.mv (.c (.nils)))])
   (.seq (.reg [.p p1 (.build [([], 1, (.c (.str 2 26979))), ([], 1, (.c (.str 56 29469498631428871350540213927244114720242353121558996065064169425643370337486844185412396944338334610096400163843281923979727071309417)))] []),
   .p p2 (.build [([], 1, (.c (.str 3 6449516))), ([], 1, (.c (.str 41 22170386652633540049294109541182788604424464056673322048516384571610481356339314922769175274153332)))] []),
   .p p3 (.bslice 38 2 2 [([], 2, (.t p1)), ([], 2, (.t p2))] []),
   .p p0 (.mv (.t p3))])
   .ret))
   [.t p0]
/- bastion/expand.Subst$1 -/
def a12 : AF :=
  .code [p0, p1] (.seq (.reg [.p p3 (.mv (.c (.str 0 0))),
   .p p4 (.mv (.c (.bool false)))])
   (.seq (.seq (.reg [.p p6 (.load1 (.t p1)),
   .p p7 (.lenSlc (.t p6)),
   .p p8 (.bin .sub (.t p7) (.c (.int .i64 (.ofNat 1)))),
   .p p5 (.mv (.t p8))])
   (.block 0 (.loop (.seq (.seq (.reg [.p p9 (.mv (.t p5)),
   .p p10 (.bin .geq (.t p9) (.c (.int .i64 (.ofNat 0))))])
   (.cond (.t p10) .skip (.exit 0)))
   (.seq (.block 1 (.seq (.reg [.p p13 (.load1 (.t p1)),
   .p p14 (.mv (.t p5)),
   .p p15 (.iaddrS 2 (.t p13) (.t p14)),
   .p p16 (.faddr 0 (.t p15)),
   .p p17 (.load1 (.t p16)),
   .p p18 (.mv (.t p0)),
   .p p19 (.bin .eql (.t p17) (.t p18))])
   (.cond (.t p19) (.seq (.reg [.p p20 (.load1 (.t p1)),
   .p p21 (.mv (.t p5)),
   .p p22 (.iaddrS 2 (.t p20) (.t p21)),
   .p p23 (.faddr 1 (.t p22)),
   .p p24 (.load1 (.t p23)),
   .p p3 (.mv (.t p24)),
   .p p4 (.mv (.c (.bool true)))])
   .ret) .skip)))
   (.reg [.p p11 (.mv (.t p5)),
   .p p12 (.bin .sub (.t p11) (.c (.int .i64 (.ofNat 1)))),
   .p p5 (.mv (.t p12))]))))))
   (.seq (.reg [.p p3 (.mv (.c (.str 0 0))),
   .p p4 (.mv (.c (.bool false)))])
   .ret)))
   [.t p3, .t p4]
/- strings.Cut -/
def a13 : AF :=
  .code [p0, p1] (.seq (.reg [.p p4 (.mv (.c (.str 0 0))),
   .p p5 (.mv (.c (.str 0 0))),
   .p p6 (.mv (.c (.bool false)))])
   (.seq (.reg [.p p7 (.mv (.t p0)),
   .p p8 (.mv (.t p1)),
   .p p9 (.call 26 [(.t p7), (.t p8)]),
   .p p10 (.extract 0 (.t p9)),
   .p p11 (.extract 1 (.t p9)),
   .p p12 (.extract 2 (.t p9)),
   .p p4 (.mv (.t p10)),
   .p p5 (.mv (.t p11)),
   .p p6 (.mv (.t p12))])
   .ret))
   [.t p4, .t p5, .t p6]
/- (*strings.Builder).WriteString -/
def a14 : AF :=
  .code [p0, p1] (.seq (.reg [.p p4 (.mv (.c (.int .i64 (.ofNat 0)))),
   .p p5 (.mv (.c (.nili)))])
   (.seq (.reg [.p p6 (.mv (.t p0)),
   .p p7 (.call 27 [(.t p6)])])
   (.seq (.reg [.p p8 (.mv (.t p0)),
   .p p9 (.mv (.t p0)),
   .p p10 (.nilck (.t p9)),
   .p p11 (.faddr 1 (.t p10)),
   .p p12 (.load1 (.t p11)),
   .p p13 (.mv (.t p1)),
   .p p14 (.append 5 1 1 (.t p12) (.t p13)),
   .p p15 (.nilck (.t p8)),
   .p p16 (.faddr 1 (.t p15)),
   .n (.store 1 (.t p16) (.t p14))])
   (.seq (.reg [.p p17 (.mv (.t p1)),
   .p p18 (.lenStr (.t p17)),
   .p p4 (.mv (.t p18)),
   .p p5 (.mv (.c (.nili)))])
   .ret))))
   [.t p4, .t p5]
/- strings.HasPrefix -/
def a15 : AF :=
  .code [p0, p1] (.seq (.reg [.p p4 (.mv (.c (.bool false)))])
   (.seq (.reg [.p p5 (.mv (.t p0)),
   .p p6 (.mv (.t p1)),
   .p p7 (.call 28 [(.t p5), (.t p6)]),
   .p p4 (.mv (.t p7))])
   .ret))
   [.t p4]
/- (*strings.Builder).WriteByte -/
def a16 : AF :=
  .code [p0, p1] (.seq (.reg [.p p4 (.mv (.c (.nili)))])
   (.seq (.reg [.p p5 (.mv (.t p0)),
   .p p6 (.call 27 [(.t p5)])])
   (.seq (.reg [.p p7 (.mv (.t p0)),
   .p p8 (.mv (.t p0)),
   .p p9 (.nilck (.t p8)),
   .p p10 (.faddr 1 (.t p9)),
   .p p11 (.load1 (.t p10)),
   .p p12 (.mv (.t p1)),
   .p p13 (.bslice 5 1 1 [([], 1, (.t p12))] []),
   .p p14 (.append 5 1 1 (.t p11) (.t p13)),
   .p p15 (.nilck (.t p7)),
   .p p16 (.faddr 1 (.t p15)),
   .n (.store 1 (.t p16) (.t p14))])
   (.seq (.reg [.p p4 (.mv (.c (.nili)))])
   .ret))))
   [.t p4]
/- bastion/expand.name -/
def a17 : AF :=
  .code [p0] (.seq (.reg [.p p2 (.mv (.c (.str 0 0))),
   .p p3 (.mv (.c (.int .i64 (.ofNat 0)))),
   .p p4 (.mv (.c (.bool false)))])
   (.seq (.reg [.p p5 (.mv (.c (.int .i64 (.ofNat 0))))])
   (.seq (.seq (.reg [.p p7 (.mv (.t p0)),
   .p p8 (.call 15 [(.t p7), (.c (.str 1 123))])])
   (.cond (.t p8) (.dreg [(.p p9 (.mv (.t p0)), 0), (.p p10 (.sliceStr (.t p9) (some (.c (.int .i64 (.ofNat 1)))) none), 1), (.p p5 (.mv (.c (.int .i64 (.ofNat 2)))), 0), (.p p0 (.mv (.t p10)), 7)]) .skip))
   (.seq (.reg [.p p11 (.mv (.t p0)),
   .p p12 (.call 29 [(.t p11)]),
   .p p6 (.mv (.t p12))])
   (.seq (.seq (.reg [.p p13 (.mv (.t p6)),
   .p p14 (.bin .eql (.t p13) (.c (.int .i64 (.ofNat 0)))),
   .p p15 (.mv (.t p14)),
   .g p16 (.mv (.t p6)) p15 false,
   .g p17 (.bin .gtr (.t p16) (.c (.int .i64 (.ofNat 24)))) p15 false,
   .p p18 (.pick (.t p15) (.c (.bool true)) (.t p17)),
   .p p19 (.mv (.t p18)),
   .g p20 (.mv (.t p5)) p19 false,
   .g p21 (.bin .gtr (.t p20) (.c (.int .i64 (.ofNat 0)))) p19 false,
   .g p22 (.mv (.t p21)) p19 false,
   .g p23 (.mv (.t p0)) p22 true,
   .g p24 (.mv (.t p6)) p22 true,
   .g p25 (.sliceStr (.t p23) (some (.t p24)) none) p22 true,
   .g p26 (.call 15 [(.t p25), (.c (.str 1 125))]) p22 true,
   .g p27 (.not (.t p26)) p22 true,
   .g p28 (.pick (.t p22) (.t p27) (.c (.bool false))) p19 false,
   .p p29 (.pick (.t p19) (.c (.bool true)) (.t p28))])
   (.cond (.t p29) (.seq (.reg [.p p2 (.mv (.c (.str 0 0))),
   .p p3 (.mv (.c (.int .i64 (.ofNat 0)))),
   .p p4 (.mv (.c (.bool false)))])
   .ret) .skip))
   (.seq (.reg [.p p30 (.mv (.t p0)),
   .p p31 (.mv (.t p6)),
   .p p32 (.sliceStr (.t p30) none (some (.t p31))),
   .p p33 (.mv (.t p6)),
   .p p34 (.mv (.t p5)),
   .p p35 (.bin .add (.t p33) (.t p34)),
   .p p2 (.mv (.t p32)),
   .p p3 (.mv (.t p35)),
   .p p4 (.mv (.c (.bool true)))])
   .ret))))))
   [.t p2, .t p3, .t p4]
/- (*strings.Builder).Len -/
def a18 : AF :=
  .code [p0] (.seq (.reg [.p p2 (.mv (.c (.int .i64 (.ofNat 0))))])
   (.seq (.reg [.p p3 (.mv (.t p0)),
   .p p4 (.nilck (.t p3)),
   .p p5 (.faddr 1 (.t p4)),
   .p p6 (.load1 (.t p5)),
   .p p7 (.lenSlc (.t p6)),
   .p p2 (.mv (.t p7))])
   .ret))
   [.t p2]
/- (*strings.Builder).String -/
def a19 : AF :=
  .code [p0] (.seq (.reg [.p p2 (.mv (.c (.str 0 0)))])
   (.seq (.dreg [(.p p3 (.mv (.t p0)), 0), (.p p4 (.nilck (.t p3)), 1), (.p p5 (.faddr 1 (.t p4)), 3), (.p p6 (.load1 (.t p5)), 7), (.p p7 (.usd (.t p6)), 15), (.p p8 (.mv (.t p0)), 0), (.p p9 (.nilck (.t p8)), 32), (.p p10 (.faddr 1 (.t p9)), 96), (.p p11 (.load1 (.t p10)), 224), (.p p12 (.lenSlc (.t p11)), 480), (.p p13 (.ustr 5 (.t p7) (.t p12)), 1023), (.p p2 (.mv (.t p13)), 2047)])
   .ret))
   [.t p2]
/- bastion/expand.taken -/
def a20 : AF :=
  .code [p0, p1] (.seq (.reg [.p p4 (.mv (.c (.nilp))),
   .p p5 (.alloc 34 [.str 0 0, .int .i64 (.ofNat 0)]),
   .p p6 (.mv (.c (.int .i64 (.ofNat 0))))])
   (.seq (.reg [.p p10 (.mv (.t p0)),
   .p p11 (.mkmap),
   .p p12 (.build [([], 1, (.t p10)), ([], 1, (.t p11))] [.int .i64 (.ofNat 0), .nils, .nils]),
   .p p13 (.box 79 (.t p12)),
   .p p7 (.mv (.t p13))])
   (.seq (.reg [.p p15 (.mv (.t p7)),
   .p p16 (.mv (.t p1)),
   .p p17 (.mv (.t p1)),
   .p p18 (.build [([], 1, (.t p17))] [.int .i64 (.ofNat 0)]),
   .p p19 (.call 30 [(.t p15), (.t p16), (.t p18)]),
   .p p14 (.mv (.t p19)),
   .p p20 (.extract 0 (.t p14)),
   .p p21 (.extract 1 (.t p14)),
   .p p8 (.alloc 34 [.str 0 0, .int .i64 (.ofNat 0)]),
   .n (.store 2 (.t p8) (.t p20)),
   .p p9 (.mv (.t p21))])
   (.seq (.dreg [(.p p22 (.mv (.t p7)), 0), (.p p23 (.loadn 2 (.t p8)), 0), (.p p24 (.mv (.t p9)), 0), (.p p4 (.mv (.t p22)), 1), (.n (.store 2 (.t p5) (.t p23)), 11), (.p p6 (.mv (.t p24)), 31)])
   .ret))))
   [.t p4, .cell p5 2, .t p6]
/- (*bastion/expand.all).sorted -/
def a21 : AF :=
  .code [p0] (.seq (.reg [.p p2 (.mv (.c (.nilm))),
   .p p3 (.mv (.c (.nils))),
   .p p4 (.alloc 34 [.str 0 0, .int .i64 (.ofNat 0)]),
   .p p5 (.mv (.c (.int .i64 (.ofNat 0))))])
   (.seq (.reg [.p p14 (.mkmap),
   .p p6 (.mv (.t p14))])
   (.seq (.reg [.p p15 (.mkmap),
   .p p7 (.mv (.t p15))])
   (.seq (.reg [.p p8 (.mv (.c (.nils)))])
   (.seq (.seq (.reg [.p p16 (.mv (.t p0)),
   .p p17 (.nilck (.t p16)),
   .p p18 (.faddr 4 (.t p17)),
   .p p19 (.load1 (.t p18)),
   .p p20 (.lenSlc (.t p19)),
   .p p21 (.mv (.c (.int .i64 (.ofNat 0))))])
   (.block 0 (.loop (.seq (.reg [.p p22 (.bin .lss (.t p21) (.t p20))])
   (.seq (.cond (.t p22) .skip (.exit 0))
   (.seq (.block 1 (.seq (.reg [.p p23 (.iaddrS 5 (.t p19) (.t p21)),
   .p p24 (.loadn 5 (.t p23)),
   .p p10 (.alloc 87 [.str 0 0, .int .i64 (.ofNat 0), .int .u8 (.ofNat 0), .str 0 0, .nils]),
   .n (.store 5 (.t p10) (.t p24))])
   (.seq (.reg [.p p25 (.faddr 0 (.t p10)),
   .p p26 (.load1 (.t p25)),
   .p p27 (.faddr 1 (.t p10)),
   .p p28 (.faddr 0 (.t p27)),
   .p p29 (.load1 (.t p28)),
   .p p30 (.build [([], 1, (.t p26)), ([], 1, (.t p29))] []),
   .p p11 (.alloc 34 [.str 0 0, .int .i64 (.ofNat 0)]),
   .n (.store 2 (.t p11) (.t p30))])
   (.seq (.seq (.reg [.p p31 (.faddr 1 (.t p10)),
   .p p32 (.faddr 1 (.t p31)),
   .p p33 (.load1 (.t p32)),
   .p p34 (.bin .eql (.t p33) (.c (.int .u8 (.ofNat 1))))])
   (.cond (.t p34) (.seq (.seq (.reg [.p p36 (.mv (.t p6)),
   .p p37 (.faddr 1 (.t p10)),
   .p p38 (.faddr 2 (.t p37)),
   .p p39 (.load1 (.t p38)),
   .p p40 (.lookup .str true (.agg [.str 0 0, .int .i64 (.ofNat 0), .int .u8 (.ofNat 0), .str 0 0, .nils]) (.t p36) (.t p39)),
   .p p35 (.mv (.t p40)),
   .p p41 (.extract 0 (.t p35)),
   .p p42 (.extract 1 (.t p35)),
   .p p12 (.alloc 87 [.str 0 0, .int .i64 (.ofNat 0), .int .u8 (.ofNat 0), .str 0 0, .nils]),
   .n (.store 5 (.t p12) (.t p41)),
   .p p13 (.mv (.t p42))])
   (.seq (.reg [.p p43 (.mv (.t p13))])
   (.cond (.t p43) (.seq (.dreg [(.p p44 (.loadn 2 (.t p11)), 0), (.p p2 (.mv (.c (.nilm))), 0), (.p p3 (.mv (.c (.nils))), 2), (.n (.store 2 (.t p4) (.t p44)), 7), (.p p5 (.mv (.c (.int .i64 (.ofNat 6)))), 15)])
   .ret) .skip)))
   (.reg [.p p45 (.mv (.t p6)),
   .p p46 (.faddr 1 (.t p10)),
   .p p47 (.faddr 2 (.t p46)),
   .p p48 (.load1 (.t p47)),
   .p p49 (.loadn 5 (.t p10)),
   .n (.insert .str (.t p45) (.t p48) (.t p49))])) (.seq (.seq (.reg [.p p50 (.mv (.t p7)),
   .p p51 (.faddr 1 (.t p10)),
   .p p52 (.faddr 2 (.t p51)),
   .p p53 (.load1 (.t p52)),
   .p p54 (.lookup .str false (.int .i64 (.ofNat 0)) (.t p50) (.t p53)),
   .p p55 (.bin .gtr (.t p54) (.c (.int .i64 (.ofNat 0))))])
   (.cond (.t p55) (.seq (.dreg [(.p p56 (.loadn 2 (.t p11)), 0), (.p p2 (.mv (.c (.nilm))), 0), (.p p3 (.mv (.c (.nils))), 2), (.n (.store 2 (.t p4) (.t p56)), 7), (.p p5 (.mv (.c (.int .i64 (.ofNat 6)))), 15)])
   .ret) .skip))
   (.seq (.reg [.p p57 (.mv (.t p7)),
   .p p58 (.faddr 1 (.t p10)),
   .p p59 (.faddr 2 (.t p58)),
   .p p60 (.load1 (.t p59)),
   .p p61 (.lookup .str false (.int .i64 (.ofNat 0)) (.t p57) (.t p60)),
   .p p62 (.bin .add (.t p61) (.c (.int .i64 (.ofNat 1)))),
   .n (.insert .str (.t p57) (.t p60) (.t p62))])
   (.reg [.p p63 (.mv (.t p8)),
   .p p64 (.loadn 5 (.t p10)),
   .p p65 (.bslice 87 1 5 [([], 5, (.t p64))] []),
   .p p66 (.append 87 5 72 (.t p63) (.t p65)),
   .p p8 (.mv (.t p66))])))))
   (.seq (.reg [.p p67 (.mv (.t p6)),
   .p p68 (.lenMap (.t p67)),
   .p p69 (.bin .gtr (.t p68) (.c (.int .i64 (.ofNat 24)))),
   .p p70 (.mv (.t p69)),
   .g p71 (.mv (.t p8)) p70 false,
   .g p72 (.lenSlc (.t p71)) p70 false,
   .g p73 (.bin .gtr (.t p72) (.c (.int .i64 (.ofNat 24)))) p70 false,
   .p p74 (.pick (.t p70) (.c (.bool true)) (.t p73))])
   (.cond (.t p74) (.seq (.dreg [(.p p75 (.loadn 2 (.t p11)), 0), (.p p2 (.mv (.c (.nilm))), 0), (.p p3 (.mv (.c (.nils))), 2), (.n (.store 2 (.t p4) (.t p75)), 7), (.p p5 (.mv (.c (.int .i64 (.ofNat 3)))), 15)])
   .ret) .skip))))))
   (.reg [.p p76 (.bin .add (.t p21) (.c (.int .i64 (.ofNat 1)))),
   .p p21 (.mv (.t p76))])))))))
   (.seq (.reg [.p p77 (.mv (.t p6)),
   .p p78 (.mv (.t p8)),
   .p p79 (.build [] [.str 0 0, .int .i64 (.ofNat 0)]),
   .p p2 (.mv (.t p77)),
   .p p3 (.mv (.t p78)),
   .n (.store 2 (.t p4) (.t p79)),
   .p p5 (.mv (.c (.int .i64 (.ofNat 0))))])
   .ret))))))
   [.t p2, .t p3, .cell p4 2, .t p5]
/- bastion/expand.set -/
def a22 : AF :=
  .code [p0, p1, p2] (.seq (.reg [.p p4 (.box 9 (.t p1)),
   .p p6 (.mv (.c (.nils)))])
   (.seq (.reg [.p p8 (.mv (.t p0)),
   .p p9 (.mkfn 32 [] [(.t p4)]),
   .p p10 (.call 31 [(.t p8), (.t p9)]),
   .p p7 (.mv (.t p10))])
   (.seq (.seq (.reg [.p p11 (.mv (.t p7)),
   .p p12 (.bin .lss (.t p11) (.c (.int .i64 (.ofNat 0))))])
   (.cond (.t p12) (.seq (.reg [.p p13 (.mv (.t p0)),
   .p p14 (.load1 (.t p4)),
   .p p15 (.mv (.t p2)),
   .p p16 (.build [([], 1, (.t p14)), ([], 1, (.t p15))] []),
   .p p17 (.bslice 25 1 2 [([], 2, (.t p16))] []),
   .p p18 (.append 25 2 32 (.t p13) (.t p17)),
   .p p6 (.mv (.t p18))])
   .ret) .skip))
   (.seq (.reg [.p p19 (.mv (.t p0)),
   .p p20 (.mv (.t p7)),
   .p p21 (.mv (.t p2)),
   .p p22 (.iaddrS 2 (.t p19) (.t p20)),
   .p p23 (.faddr 1 (.t p22)),
   .n (.store 1 (.t p23) (.t p21))])
   (.seq (.reg [.p p24 (.mv (.t p0)),
   .p p6 (.mv (.t p24))])
   .ret)))))
   [.t p6]
/- bastion/expand.vars -/
def a23 : AF :=
  .code [p0, p1, p2] (.seq (.reg [.p p6 (.mv (.c (.nils))),
   .p p7 (.alloc 34 [.str 0 0, .int .i64 (.ofNat 0)]),
   .p p8 (.mv (.c (.int .i64 (.ofNat 0))))])
   (.seq (.seq (.reg [.p p13 (.mv (.t p2)),
   .p p14 (.lenSlc (.t p13)),
   .p p15 (.mv (.c (.int .i64 (.ofNat 0))))])
   (.block 0 (.loop (.seq (.reg [.p p16 (.bin .lss (.t p15) (.t p14))])
   (.seq (.cond (.t p16) .skip (.exit 0))
   (.seq (.block 1 (.seq (.reg [.p p17 (.iaddrS 3 (.t p13) (.t p15)),
   .p p18 (.loadn 3 (.t p17)),
   .p p10 (.alloc 49 [.int .i64 (.ofNat 0), .str 0 0, .nils]),
   .n (.store 3 (.t p10) (.t p18))])
   (.seq (.seq (.reg [.p p19 (.faddr 1 (.t p10)),
   .p p20 (.load1 (.t p19)),
   .p p21 (.bin .neq (.t p20) (.c (.str 3 7496054)))])
   (.cond (.t p21) (.exit 1) .skip))
   (.seq (.reg [.p p23 (.faddr 2 (.t p10)),
   .p p24 (.load1 (.t p23)),
   .p p25 (.iaddrS 1 (.t p24) (.c (.int .i64 (.ofNat 1)))),
   .p p26 (.load1 (.t p25)),
   .p p27 (.mv (.t p0)),
   .p p28 (.call 5 [(.t p26), (.t p27)]),
   .p p22 (.mv (.t p28)),
   .p p29 (.extract 0 (.t p22)),
   .p p30 (.extract 1 (.t p22)),
   .p p11 (.mv (.t p29)),
   .p p12 (.mv (.t p30))])
   (.seq (.seq (.reg [.p p31 (.mv (.t p12)),
   .p p32 (.bin .neq (.t p31) (.c (.int .i64 (.ofNat 0))))])
   (.cond (.t p32) (.seq (.dreg [(.p p33 (.mv (.t p1)), 0), (.p p34 (.faddr 0 (.t p10)), 0), (.p p35 (.load1 (.t p34)), 2), (.p p36 (.build [([], 1, (.t p33)), ([], 1, (.t p35))] []), 7), (.p p37 (.mv (.t p12)), 0), (.p p6 (.mv (.c (.nils))), 0), (.n (.store 2 (.t p7) (.t p36)), 47), (.p p8 (.mv (.t p37)), 127)])
   .ret) .skip))
   (.reg [.p p38 (.mv (.t p0)),
   .p p39 (.faddr 2 (.t p10)),
   .p p40 (.load1 (.t p39)),
   .p p41 (.iaddrS 1 (.t p40) (.c (.int .i64 (.ofNat 0)))),
   .p p42 (.load1 (.t p41)),
   .p p43 (.mv (.t p11)),
   .p p44 (.call 22 [(.t p38), (.t p42), (.t p43)]),
   .p p0 (.mv (.t p44))]))))))
   (.reg [.p p45 (.bin .add (.t p15) (.c (.int .i64 (.ofNat 1)))),
   .p p15 (.mv (.t p45))])))))))
   (.seq (.reg [.p p46 (.mv (.t p0)),
   .p p47 (.build [] [.str 0 0, .int .i64 (.ofNat 0)]),
   .p p6 (.mv (.t p46)),
   .n (.store 2 (.t p7) (.t p47)),
   .p p8 (.mv (.c (.int .i64 (.ofNat 0))))])
   .ret)))
   [.t p6, .cell p7 2, .t p8]
/- slices.Clone[[]bastion/api.Var,bastion/api.Var] -/
def a24 : AF :=
  .code [p0] (.seq (.reg [.p p2 (.mv (.c (.nils)))])
   (.seq (.seq (.reg [.p p3 (.mv (.t p0)),
   .p p4 (.eq false .slc (.t p3) (.c (.nils)))])
   (.cond (.t p4) (.seq (.reg [.p p2 (.mv (.c (.nils)))])
   .ret) .skip))
   (.seq (.reg [.p p5 (.bslice 25 0 2 [] []),
   .p p6 (.mv (.t p0)),
   .p p7 (.append 25 2 32 (.t p5) (.t p6)),
   .p p2 (.mv (.t p7))])
   .ret)))
   [.t p2]
/- bastion/expand.merged -/
def a25 : AF :=
  .code [p0, p1] (.seq (.reg [.p p4 (.mv (.c (.nils)))])
   (.seq (.reg [.p p5 (.mv (.c (.nils)))])
   (.seq (.seq (.reg [.p p10 (.mv (.t p0)),
   .p p11 (.lenSlc (.t p10)),
   .p p12 (.mv (.c (.int .i64 (.ofNat 0))))])
   (.block 0 (.loop (.seq (.reg [.p p13 (.bin .lss (.t p12) (.t p11))])
   (.seq (.cond (.t p13) .skip (.exit 0))
   (.seq (.block 1 (.seq (.reg [.p p14 (.iaddrS 3 (.t p10) (.t p12)),
   .p p15 (.loadn 3 (.t p14)),
   .p p7 (.alloc 49 [.int .i64 (.ofNat 0), .str 0 0, .nils]),
   .n (.store 3 (.t p7) (.t p15))])
   (.seq (.reg [.p p16 (.faddr 1 (.t p7)),
   .p p17 (.load1 (.t p16)),
   .p p18 (.bin .neq (.t p17) (.c (.str 3 7496054))),
   .p p19 (.mv (.t p18)),
   .g p20 (.mv (.t p1)) p19 true,
   .g p21 (.mkfn 34 [] [(.t p7)]) p19 true,
   .g p22 (.call 33 [(.t p20), (.t p21)]) p19 true,
   .g p23 (.not (.t p22)) p19 true,
   .p p24 (.pick (.t p19) (.t p23) (.c (.bool false)))])
   (.cond (.t p24) (.reg [.p p25 (.mv (.t p5)),
   .p p26 (.loadn 3 (.t p7)),
   .p p27 (.call 36 [(.t p26)]),
   .p p28 (.bslice 49 1 3 [([], 3, (.t p27))] []),
   .p p29 (.append 49 3 48 (.t p25) (.t p28)),
   .p p5 (.mv (.t p29))]) .skip))))
   (.reg [.p p30 (.bin .add (.t p12) (.c (.int .i64 (.ofNat 1)))),
   .p p12 (.mv (.t p30))])))))))
   (.seq (.seq (.reg [.p p31 (.mv (.t p1)),
   .p p32 (.lenSlc (.t p31)),
   .p p33 (.mv (.c (.int .i64 (.ofNat 0))))])
   (.block 2 (.loop (.seq (.reg [.p p34 (.bin .lss (.t p33) (.t p32))])
   (.seq (.cond (.t p34) .skip (.exit 2))
   (.seq (.block 3 (.seq (.reg [.p p35 (.iaddrS 3 (.t p31) (.t p33)),
   .p p36 (.loadn 3 (.t p35)),
   .p p9 (.alloc 49 [.int .i64 (.ofNat 0), .str 0 0, .nils]),
   .n (.store 3 (.t p9) (.t p36))])
   (.seq (.reg [.p p37 (.faddr 1 (.t p9)),
   .p p38 (.load1 (.t p37)),
   .p p39 (.bin .neq (.t p38) (.c (.str 3 7496054))),
   .p p40 (.mv (.t p39)),
   .g p41 (.faddr 1 (.t p9)) p40 true,
   .g p42 (.load1 (.t p41)) p40 true,
   .g p43 (.bin .neq (.t p42) (.c (.str 3 6648693))) p40 true,
   .p p44 (.pick (.t p40) (.t p43) (.c (.bool false)))])
   (.cond (.t p44) (.reg [.p p45 (.mv (.t p5)),
   .p p46 (.loadn 3 (.t p9)),
   .p p47 (.call 36 [(.t p46)]),
   .p p48 (.bslice 49 1 3 [([], 3, (.t p47))] []),
   .p p49 (.append 49 3 48 (.t p45) (.t p48)),
   .p p5 (.mv (.t p49))]) .skip))))
   (.reg [.p p50 (.bin .add (.t p33) (.c (.int .i64 (.ofNat 1)))),
   .p p33 (.mv (.t p50))])))))))
   (.seq (.reg [.p p51 (.mv (.t p5)),
   .p p4 (.mv (.t p51))])
   .ret)))))
   [.t p4]
/- internal/stringslite.Cut -/
def a26 : AF :=
  .code [p0, p1] (.seq (.reg [.p p4 (.mv (.c (.str 0 0))),
   .p p5 (.mv (.c (.str 0 0))),
   .p p6 (.mv (.c (.bool false)))])
   (.seq (.seq (.reg [.p p8 (.mv (.t p0)),
   .p p9 (.mv (.t p1)),
   .p p10 (.call 37 [(.t p8), (.t p9)]),
   .p p7 (.mv (.t p10))])
   (.seq (.reg [.p p11 (.mv (.t p7)),
   .p p12 (.bin .geq (.t p11) (.c (.int .i64 (.ofNat 0))))])
   (.cond (.t p12) (.seq (.dreg [(.p p13 (.mv (.t p0)), 0), (.p p14 (.mv (.t p7)), 0), (.p p15 (.sliceStr (.t p13) none (some (.t p14))), 3), (.p p16 (.mv (.t p0)), 0), (.p p17 (.mv (.t p7)), 0), (.p p18 (.mv (.t p1)), 0), (.p p19 (.lenStr (.t p18)), 32), (.p p20 (.bin .add (.t p17) (.t p19)), 112), (.p p21 (.sliceStr (.t p16) (some (.t p20)) none), 248), (.p p4 (.mv (.t p15)), 7), (.p p5 (.mv (.t p21)), 1023), (.p p6 (.mv (.c (.bool true))), 2047)])
   .ret) .skip)))
   (.seq (.reg [.p p22 (.mv (.t p0)),
   .p p4 (.mv (.t p22)),
   .p p5 (.mv (.c (.str 0 0))),
   .p p6 (.mv (.c (.bool false)))])
   .ret)))
   [.t p4, .t p5, .t p6]
/- (*strings.Builder).copyCheck -/
def a27 : AF :=
  .code [p0] (.seq (.reg [.p p2 (.mv (.t p0)),
   .p p3 (.nilck (.t p2)),
   .p p4 (.faddr 0 (.t p3)),
   .p p5 (.load1 (.t p4)),
   .p p6 (.eq false .ptr (.t p5) (.c (.nilp)))])
   (.cond (.t p6) (.reg [.p p7 (.mv (.t p0)),
   .p p8 (.mv (.t p0)),
   .p p9 (.convU (.t p8)),
   .p p10 (.call 38 [(.t p9)]),
   .p p11 (.convP [(54, 0, 2)] (.t p10)),
   .p p12 (.nilck (.t p7)),
   .p p13 (.faddr 0 (.t p12)),
   .n (.store 1 (.t p13) (.t p11))]) (.seq (.reg [.p p14 (.mv (.t p0)),
   .p p15 (.nilck (.t p14)),
   .p p16 (.faddr 0 (.t p15)),
   .p p17 (.load1 (.t p16)),
   .p p18 (.mv (.t p0)),
   .p p19 (.eq true .ptr (.t p17) (.t p18))])
   (.cond (.t p19) .stop .skip))))
   []
/- internal/stringslite.HasPrefix -/
def a28 : AF :=
  .code [p0, p1] (.seq (.reg [.p p4 (.mv (.c (.bool false)))])
   (.seq (.reg [.p p5 (.mv (.t p0)),
   .p p6 (.lenStr (.t p5)),
   .p p7 (.mv (.t p1)),
   .p p8 (.lenStr (.t p7)),
   .p p9 (.bin .geq (.t p6) (.t p8)),
   .p p10 (.mv (.t p9)),
   .g p11 (.mv (.t p0)) p10 true,
   .g p12 (.mv (.t p1)) p10 true,
   .g p13 (.lenStr (.t p12)) p10 true,
   .g p14 (.sliceStr (.t p11) none (some (.t p13))) p10 true,
   .g p15 (.mv (.t p1)) p10 true,
   .g p16 (.bin .eql (.t p14) (.t p15)) p10 true,
   .p p17 (.pick (.t p10) (.t p16) (.c (.bool false))),
   .p p4 (.mv (.t p17))])
   .ret))
   [.t p4]
/- bastion/expand.run -/
def a29 : AF :=
  .code [p0] (.seq (.reg [.p p2 (.mv (.c (.int .i64 (.ofNat 0))))])
   (.seq (.seq (.reg [.p p4 (.mv (.t p0)),
   .p p5 (.bin .eql (.t p4) (.c (.str 0 0))),
   .p p6 (.mv (.t p5)),
   .g p7 (.mv (.t p0)) p6 false,
   .g p8 (.idxStr (.t p7) (.c (.int .i64 (.ofNat 0)))) p6 false,
   .g p9 (.bin .lss (.t p8) (.c (.int .u8 (.ofNat 97)))) p6 false,
   .p p10 (.pick (.t p6) (.c (.bool true)) (.t p9)),
   .p p11 (.mv (.t p10)),
   .g p12 (.mv (.t p0)) p11 false,
   .g p13 (.idxStr (.t p12) (.c (.int .i64 (.ofNat 0)))) p11 false,
   .g p14 (.bin .gtr (.t p13) (.c (.int .u8 (.ofNat 122)))) p11 false,
   .p p15 (.pick (.t p11) (.c (.bool true)) (.t p14))])
   (.cond (.t p15) (.seq (.reg [.p p2 (.mv (.c (.int .i64 (.ofNat 0))))])
   .ret) .skip))
   (.seq (.reg [.p p3 (.mv (.c (.int .i64 (.ofNat 1))))])
   (.seq (.block 0 (.loop (.seq (.seq (.reg [.p p16 (.mv (.t p3)),
   .p p17 (.mv (.t p0)),
   .p p18 (.lenStr (.t p17)),
   .p p19 (.bin .lss (.t p16) (.t p18)),
   .p p20 (.mv (.t p19)),
   .g p21 (.mv (.t p0)) p20 true,
   .g p22 (.mv (.t p3)) p20 true,
   .g p23 (.idxStr (.t p21) (.t p22)) p20 true,
   .g p24 (.bin .geq (.t p23) (.c (.int .u8 (.ofNat 97)))) p20 true,
   .g p25 (.mv (.t p24)) p20 true,
   .g p26 (.mv (.t p0)) p25 true,
   .g p27 (.mv (.t p3)) p25 true,
   .g p28 (.idxStr (.t p26) (.t p27)) p25 true,
   .g p29 (.bin .leq (.t p28) (.c (.int .u8 (.ofNat 122)))) p25 true,
   .g p30 (.pick (.t p25) (.t p29) (.c (.bool false))) p20 true,
   .g p31 (.mv (.t p30)) p20 true,
   .g p32 (.mv (.t p0)) p31 false,
   .g p33 (.mv (.t p3)) p31 false,
   .g p34 (.idxStr (.t p32) (.t p33)) p31 false,
   .g p35 (.bin .geq (.t p34) (.c (.int .u8 (.ofNat 48)))) p31 false,
   .g p36 (.mv (.t p35)) p31 false,
   .g p37 (.mv (.t p0)) p36 true,
   .g p38 (.mv (.t p3)) p36 true,
   .g p39 (.idxStr (.t p37) (.t p38)) p36 true,
   .g p40 (.bin .leq (.t p39) (.c (.int .u8 (.ofNat 57)))) p36 true,
   .g p41 (.pick (.t p36) (.t p40) (.c (.bool false))) p31 false,
   .g p42 (.pick (.t p31) (.c (.bool true)) (.t p41)) p20 true,
   .g p43 (.mv (.t p42)) p20 true,
   .g p44 (.mv (.t p0)) p43 false,
   .g p45 (.mv (.t p3)) p43 false,
   .g p46 (.idxStr (.t p44) (.t p45)) p43 false,
   .g p47 (.bin .eql (.t p46) (.c (.int .u8 (.ofNat 45)))) p43 false,
   .g p48 (.pick (.t p43) (.c (.bool true)) (.t p47)) p20 true,
   .g p49 (.mv (.t p48)) p20 true,
   .g p50 (.mv (.t p0)) p49 false,
   .g p51 (.mv (.t p3)) p49 false,
   .g p52 (.idxStr (.t p50) (.t p51)) p49 false,
   .g p53 (.bin .eql (.t p52) (.c (.int .u8 (.ofNat 95)))) p49 false,
   .g p54 (.pick (.t p49) (.c (.bool true)) (.t p53)) p20 true,
   .p p55 (.pick (.t p20) (.t p54) (.c (.bool false)))])
   (.cond (.t p55) .skip (.exit 0)))
   (.block 1 (.reg [.p p56 (.mv (.t p3)),
   .p p57 (.bin .add (.t p56) (.c (.int .i64 (.ofNat 1)))),
   .p p3 (.mv (.t p57))])))))
   (.seq (.reg [.p p58 (.mv (.t p3)),
   .p p2 (.mv (.t p58))])
   .ret)))))
   [.t p2]
/- (*bastion/expand.all).take -/
def a30 : AF :=
  .code [p0, p1, p2] (.seq (.reg [.p p4 (.box 9 (.t p1)),
   .p p5 (.box 34 (.t p2)),
   .p p6 (.alloc 34 [.str 0 0, .int .i64 (.ofNat 0)]),
   .p p7 (.mv (.c (.int .i64 (.ofNat 0))))])
   (.seq (.reg [.p p18 (.mv (.t p0)),
   .p p19 (.nilck (.t p18)),
   .p p20 (.faddr 0 (.t p19)),
   .p p21 (.load1 (.t p20)),
   .p p22 (.mkfn 40 [] [(.t p4)]),
   .p p23 (.call 39 [(.t p21), (.t p22)]),
   .p p8 (.mv (.t p23))])
   (.seq (.block 0 (.seq (.reg [.p p25 (.mv (.t p8)),
   .p p26 (.bin .lss (.t p25) (.c (.int .i64 (.ofNat 0)))),
   .p p24 (.mv (.t p26))])
   (.cond (.t p24) (.seq (.reg [.p p27 (.loadn 2 (.t p5)),
   .n (.store 2 (.t p6) (.t p27)),
   .p p7 (.mv (.c (.int .i64 (.ofNat 5))))])
   .ret) (.seq (.dreg [(.p p29 (.mv (.t p0)), 0), (.p p30 (.nilck (.t p29)), 1), (.p p31 (.faddr 1 (.t p30)), 3), (.p p32 (.load1 (.t p31)), 7), (.p p33 (.load1 (.t p4)), 0), (.p p34 (.lookup .str false (.int .i64 (.ofNat 0)) (.t p32) (.t p33)), 31), (.p p35 (.bin .eql (.t p34) (.c (.int .i64 (.ofNat 1)))), 63), (.p p28 (.mv (.t p35)), 127)])
   (.cond (.t p28) (.seq (.reg [.p p36 (.loadn 2 (.t p5)),
   .n (.store 2 (.t p6) (.t p36)),
   .p p7 (.mv (.c (.int .i64 (.ofNat 64))))])
   .ret) (.seq (.dreg [(.p p38 (.mv (.t p0)), 0), (.p p39 (.nilck (.t p38)), 1), (.p p40 (.faddr 1 (.t p39)), 3), (.p p41 (.load1 (.t p40)), 7), (.p p42 (.load1 (.t p4)), 0), (.p p43 (.lookup .str false (.int .i64 (.ofNat 0)) (.t p41) (.t p42)), 31), (.p p44 (.bin .eql (.t p43) (.c (.int .i64 (.ofNat 2)))), 63), (.p p37 (.mv (.t p44)), 127)])
   (.cond (.t p37) (.seq (.reg [.p p45 (.build [] [.str 0 0, .int .i64 (.ofNat 0)]),
   .n (.store 2 (.t p6) (.t p45)),
   .p p7 (.mv (.c (.int .i64 (.ofNat 0))))])
   .ret) (.seq (.reg [.p p47 (.mv (.t p0)),
   .p p48 (.nilck (.t p47)),
   .p p49 (.faddr 2 (.t p48)),
   .p p50 (.load1 (.t p49)),
   .p p51 (.bin .eql (.t p50) (.c (.int .i64 (.ofNat 8)))),
   .p p46 (.mv (.t p51))])
   (.cond (.t p46) (.seq (.reg [.p p52 (.loadn 2 (.t p5)),
   .n (.store 2 (.t p6) (.t p52)),
   .p p7 (.mv (.c (.int .i64 (.ofNat 65))))])
   .ret) .skip)))))))))
   (.seq (.reg [.p p54 (.mv (.t p0)),
   .p p55 (.nilck (.t p54)),
   .p p56 (.faddr 0 (.t p55)),
   .p p57 (.load1 (.t p56)),
   .p p58 (.mv (.t p8)),
   .p p59 (.iaddrS 2 (.t p57) (.t p58)),
   .p p60 (.faddr 1 (.t p59)),
   .p p61 (.load1 (.t p60)),
   .p p62 (.call 41 [(.t p61)]),
   .p p53 (.mv (.t p62)),
   .p p63 (.extract 0 (.t p53)),
   .p p64 (.extract 1 (.t p53)),
   .p p65 (.extract 2 (.t p53)),
   .p p9 (.alloc 108 [.nils, .nils]),
   .n (.store 2 (.t p9) (.t p63)),
   .p p10 (.mv (.t p64)),
   .p p11 (.mv (.t p65))])
   (.seq (.seq (.reg [.p p66 (.mv (.t p11)),
   .p p67 (.bin .neq (.t p66) (.c (.int .i64 (.ofNat 0))))])
   (.cond (.t p67) (.seq (.reg [.p p68 (.load1 (.t p4)),
   .p p69 (.mv (.t p10)),
   .p p70 (.build [([], 1, (.t p68)), ([], 1, (.t p69))] []),
   .p p71 (.mv (.t p11)),
   .n (.store 2 (.t p6) (.t p70)),
   .p p7 (.mv (.t p71))])
   .ret) .skip))
   (.seq (.dreg [(.p p72 (.mv (.t p0)), 0), (.p p73 (.nilck (.t p72)), 1), (.p p74 (.faddr 1 (.t p73)), 3), (.p p75 (.load1 (.t p74)), 7), (.p p76 (.load1 (.t p4)), 0), (.n (.insert .str (.t p75) (.t p76) (.c (.int .i64 (.ofNat 1)))), 31)])
   (.seq (.reg [.p p77 (.mv (.t p0)),
   .p p78 (.nilck (.t p77)),
   .p p79 (.faddr 2 (.t p78)),
   .p p80 (.load1 (.t p79)),
   .p p81 (.bin .add (.t p80) (.c (.int .i64 (.ofNat 1)))),
   .p p82 (.nilck (.t p77)),
   .p p83 (.faddr 2 (.t p82)),
   .n (.store 1 (.t p83) (.t p81))])
   (.seq (.seq (.reg [.p p84 (.faddr 0 (.t p9)),
   .p p85 (.load1 (.t p84)),
   .p p86 (.lenSlc (.t p85)),
   .p p87 (.mv (.c (.int .i64 (.ofNat 0))))])
   (.block 1 (.loop (.seq (.reg [.p p88 (.bin .lss (.t p87) (.t p86))])
   (.seq (.cond (.t p88) .skip (.exit 1))
   (.seq (.block 2 (.seq (.reg [.p p89 (.iaddrS 3 (.t p85) (.t p87)),
   .p p90 (.loadn 3 (.t p89)),
   .p p13 (.alloc 49 [.int .i64 (.ofNat 0), .str 0 0, .nils]),
   .n (.store 3 (.t p13) (.t p90))])
   (.seq (.seq (.reg [.p p91 (.faddr 1 (.t p13)),
   .p p92 (.load1 (.t p91)),
   .p p93 (.bin .neq (.t p92) (.c (.str 7 28539428140183145)))])
   (.cond (.t p93) (.seq (.dreg [(.p p94 (.mv (.t p0)), 0), (.p p95 (.mv (.t p0)), 0), (.p p96 (.nilck (.t p95)), 2), (.p p97 (.faddr 3 (.t p96)), 6), (.p p98 (.load1 (.t p97)), 14), (.p p99 (.load1 (.t p4)), 0), (.p p100 (.loadn 3 (.t p13)), 0), (.p p101 (.build [([], 1, (.t p99)), ([], 3, (.t p100))] []), 96), (.p p102 (.bslice 81 1 4 [([], 4, (.t p101))] []), 224), (.p p103 (.append 81 4 64 (.t p98) (.t p102)), 510), (.p p104 (.nilck (.t p94)), 1023), (.p p105 (.faddr 3 (.t p104)), 2047), (.n (.store 1 (.t p105) (.t p103)), 4095)])
   (.exit 2)) .skip))
   (.seq (.dreg [(.p p107 (.mv (.t p0)), 0), (.p p108 (.faddr 2 (.t p13)), 0), (.p p109 (.load1 (.t p108)), 2), (.p p110 (.iaddrS 1 (.t p109) (.c (.int .i64 (.ofNat 0)))), 6), (.p p111 (.load1 (.t p110)), 14), (.p p112 (.load1 (.t p4)), 0), (.p p113 (.faddr 0 (.t p13)), 0), (.p p114 (.load1 (.t p113)), 64), (.p p115 (.build [([], 1, (.t p112)), ([], 1, (.t p114))] []), 224), (.p p116 (.call 30 [(.t p107), (.t p111), (.t p115)]), 511), (.p p106 (.mv (.t p116)), 1023), (.p p117 (.extract 0 (.t p106)), 2047), (.p p118 (.extract 1 (.t p106)), 2047), (.p p14 (.alloc 34 [.str 0 0, .int .i64 (.ofNat 0)]), 0), (.n (.store 2 (.t p14) (.t p117)), 12287), (.p p15 (.mv (.t p118)), 32767)])
   (.seq (.reg [.p p119 (.mv (.t p15)),
   .p p120 (.bin .neq (.t p119) (.c (.int .i64 (.ofNat 0))))])
   (.cond (.t p120) (.seq (.reg [.p p121 (.loadn 2 (.t p14)),
   .p p122 (.mv (.t p15)),
   .n (.store 2 (.t p6) (.t p121)),
   .p p7 (.mv (.t p122))])
   .ret) .skip))))))
   (.reg [.p p123 (.bin .add (.t p87) (.c (.int .i64 (.ofNat 1)))),
   .p p87 (.mv (.t p123))])))))))
   (.seq (.seq (.reg [.p p124 (.faddr 1 (.t p9)),
   .p p125 (.load1 (.t p124)),
   .p p126 (.lenSlc (.t p125)),
   .p p127 (.mv (.c (.int .i64 (.ofNat 0))))])
   (.block 3 (.loop (.seq (.reg [.p p128 (.bin .lss (.t p127) (.t p126))])
   (.seq (.cond (.t p128) .skip (.exit 3))
   (.seq (.block 4 (.seq (.reg [.p p129 (.iaddrS 4 (.t p125) (.t p127)),
   .p p130 (.loadn 4 (.t p129)),
   .p p17 (.alloc 85 [.int .i64 (.ofNat 0), .int .u8 (.ofNat 0), .str 0 0, .nils]),
   .n (.store 4 (.t p17) (.t p130))])
   (.dreg [(.p p131 (.mv (.t p0)), 0), (.p p132 (.mv (.t p0)), 0), (.p p133 (.nilck (.t p132)), 2), (.p p134 (.faddr 4 (.t p133)), 6), (.p p135 (.load1 (.t p134)), 14), (.p p136 (.load1 (.t p4)), 0), (.p p137 (.loadn 4 (.t p17)), 0), (.p p138 (.build [([], 1, (.t p136)), ([], 4, (.t p137))] []), 96), (.p p139 (.bslice 87 1 5 [([], 5, (.t p138))] []), 224), (.p p140 (.append 87 5 72 (.t p135) (.t p139)), 510), (.p p141 (.nilck (.t p131)), 1023), (.p p142 (.faddr 4 (.t p141)), 2047), (.n (.store 1 (.t p142) (.t p140)), 4095)])))
   (.reg [.p p143 (.bin .add (.t p127) (.c (.int .i64 (.ofNat 1)))),
   .p p127 (.mv (.t p143))])))))))
   (.seq (.reg [.p p144 (.mv (.t p0)),
   .p p145 (.nilck (.t p144)),
   .p p146 (.faddr 2 (.t p145)),
   .p p147 (.load1 (.t p146)),
   .p p148 (.bin .sub (.t p147) (.c (.int .i64 (.ofNat 1)))),
   .p p149 (.nilck (.t p144)),
   .p p150 (.faddr 2 (.t p149)),
   .n (.store 1 (.t p150) (.t p148))])
   (.seq (.dreg [(.p p151 (.mv (.t p0)), 0), (.p p152 (.nilck (.t p151)), 1), (.p p153 (.faddr 1 (.t p152)), 3), (.p p154 (.load1 (.t p153)), 7), (.p p155 (.load1 (.t p4)), 0), (.n (.insert .str (.t p154) (.t p155) (.c (.int .i64 (.ofNat 2)))), 31)])
   (.seq (.reg [.p p156 (.build [] [.str 0 0, .int .i64 (.ofNat 0)]),
   .n (.store 2 (.t p6) (.t p156)),
   .p p7 (.mv (.c (.int .i64 (.ofNat 0))))])
   .ret))))))))))))
   [.cell p6 2, .t p7]
/- slices.IndexFunc[[]bastion/api.Var,bastion/api.Var] -/
def a31 : AF :=
  .code [p0, p1] (.seq (.reg [.p p4 (.mv (.c (.int .i64 (.ofNat 0))))])
   (.seq (.seq (.reg [.p p6 (.mv (.t p0)),
   .p p7 (.lenSlc (.t p6)),
   .p p8 (.mv (.c (.int .i64 (.ofNat 0))))])
   (.block 0 (.loop (.seq (.reg [.p p9 (.bin .lss (.t p8) (.t p7))])
   (.seq (.cond (.t p9) .skip (.exit 0))
   (.seq (.block 1 (.seq (.reg [.p p10 (.mv (.t p8)),
   .p p5 (.mv (.t p10))])
   (.seq (.reg [.p p11 (.mv (.t p1)),
   .p p12 (.mv (.t p0)),
   .p p13 (.mv (.t p5)),
   .p p14 (.iaddrS 2 (.t p12) (.t p13)),
   .p p15 (.loadn 2 (.t p14)),
   .p p16 (.callv (.t p11) [(.t p15)])])
   (.cond (.t p16) (.seq (.reg [.p p17 (.mv (.t p5)),
   .p p4 (.mv (.t p17))])
   .ret) .skip))))
   (.reg [.p p18 (.bin .add (.t p8) (.c (.int .i64 (.ofNat 1)))),
   .p p8 (.mv (.t p18))])))))))
   (.seq (.reg [.p p4 (.mv (.c (.int .i64 (.negSucc 0))))])
   .ret)))
   [.t p4]
/- bastion/expand.set$1 -/
def a32 : AF :=
  .code [p0, p1] (.seq (.reg [.p p2 (.box 25 (.t p0)),
   .p p3 (.mv (.c (.bool false)))])
   (.seq (.reg [.p p4 (.faddr 0 (.t p2)),
   .p p5 (.load1 (.t p4)),
   .p p6 (.load1 (.t p1)),
   .p p7 (.bin .eql (.t p5) (.t p6)),
   .p p3 (.mv (.t p7))])
   .ret))
   [.t p3]
/- slices.ContainsFunc[[]bastion/desc.Item,bastion/desc.Item] -/
def a33 : AF :=
  .code [p0, p1] (.seq (.reg [.p p4 (.mv (.c (.bool false)))])
   (.seq (.reg [.p p5 (.mv (.t p0)),
   .p p6 (.mv (.t p1)),
   .p p7 (.call 42 [(.t p5), (.t p6)]),
   .p p8 (.bin .geq (.t p7) (.c (.int .i64 (.ofNat 0)))),
   .p p4 (.mv (.t p8))])
   .ret))
   [.t p4]
/- bastion/expand.merged$1 -/
def a34 : AF :=
  .code [p0, p1] (.seq (.reg [.p p2 (.box 49 (.t p0)),
   .p p3 (.mv (.c (.bool false)))])
   (.seq (.reg [.p p4 (.loadn 3 (.t p1)),
   .p p5 (.loadn 3 (.t p2)),
   .p p6 (.call 35 [(.t p4), (.t p5)]),
   .p p3 (.mv (.t p6))])
   .ret))
   [.t p3]
/- bastion/expand.once -/
def a35 : AF :=
  .code [p0, p1] (.seq (.reg [.p p2 (.box 49 (.t p0)),
   .p p3 (.box 49 (.t p1)),
   .p p4 (.mv (.c (.bool false)))])
   (.seq (.block 0 (.seq (.reg [.p p6 (.faddr 1 (.t p2)),
   .p p7 (.load1 (.t p6)),
   .p p8 (.faddr 1 (.t p3)),
   .p p9 (.load1 (.t p8)),
   .p p10 (.bin .neq (.t p7) (.t p9)),
   .p p5 (.mv (.t p10))])
   (.cond (.t p5) (.seq (.reg [.p p4 (.mv (.c (.bool false)))])
   .ret) (.seq (.reg [.p p12 (.faddr 1 (.t p2)),
   .p p13 (.load1 (.t p12)),
   .p p14 (.bin .eql (.t p13) (.c (.str 4 1936291937))),
   .p p11 (.mv (.t p14))])
   (.cond (.t p11) (.seq (.dreg [(.p p15 (.faddr 2 (.t p2)), 0), (.p p16 (.load1 (.t p15)), 1), (.p p17 (.iaddrS 1 (.t p16) (.c (.int .i64 (.ofNat 0)))), 3), (.p p18 (.load1 (.t p17)), 7), (.p p19 (.faddr 2 (.t p3)), 0), (.p p20 (.load1 (.t p19)), 16), (.p p21 (.iaddrS 1 (.t p20) (.c (.int .i64 (.ofNat 0)))), 48), (.p p22 (.load1 (.t p21)), 112), (.p p23 (.bin .eql (.t p18) (.t p22)), 255), (.p p4 (.mv (.t p23)), 511)])
   .ret) .skip)))))
   (.seq (.reg [.p p24 (.bslice 9 4 1 [([], 1, (.c (.str 4 1852139639))), ([], 1, (.c (.str 5 495622648436))), ([], 1, (.c (.str 5 499984984428))), ([], 1, (.c (.str 6 119165837795693)))] []),
   .p p25 (.faddr 1 (.t p2)),
   .p p26 (.load1 (.t p25)),
   .p p27 (.call 43 [(.t p24), (.t p26)]),
   .p p4 (.mv (.t p27))])
   .ret)))
   [.t p4]
/- bastion/expand.own -/
def a36 : AF :=
  .code [p0] (.seq (.reg [.p p1 (.box 49 (.t p0)),
   .p p2 (.alloc 49 [.int .i64 (.ofNat 0), .str 0 0, .nils])])
   (.seq (.reg [.p p3 (.faddr 2 (.t p1)),
   .p p4 (.load1 (.t p3)),
   .p p5 (.call 44 [(.t p4)]),
   .p p6 (.faddr 2 (.t p1)),
   .n (.store 1 (.t p6) (.t p5))])
   (.seq (.reg [.p p7 (.loadn 3 (.t p1)),
   .n (.store 3 (.t p2) (.t p7))])
   .ret)))
   [.cell p2 3]
/- internal/stringslite.Index -/
def a37 : AF :=
  .code [p0, p1] (.seq (.reg [.p p4 (.mv (.c (.int .i64 (.ofNat 0))))])
   (.seq (.reg [.p p14 (.mv (.t p1)),
   .p p15 (.lenStr (.t p14)),
   .p p5 (.mv (.t p15))])
   (.seq (.block 0 (.seq (.reg [.p p17 (.mv (.t p5)),
   .p p18 (.bin .eql (.t p17) (.c (.int .i64 (.ofNat 0)))),
   .p p19 (.mv (.t p18)),
   .g p20 (.mv (.t p1)) p19 false,
   .g p21 (.mv (.t p0)) p19 false,
   .g p22 (.bin .eql (.t p20) (.t p21)) p19 false,
   .p p23 (.pick (.t p19) (.c (.bool true)) (.t p22)),
   .p p16 (.mv (.t p23))])
   (.cond (.t p16) (.seq (.reg [.p p4 (.mv (.c (.int .i64 (.ofNat 0))))])
   .ret) (.seq (.reg [.p p25 (.mv (.t p5)),
   .p p26 (.bin .eql (.t p25) (.c (.int .i64 (.ofNat 1)))),
   .p p24 (.mv (.t p26))])
   (.cond (.t p24) (.seq (.reg [.p p27 (.mv (.t p0)),
   .p p28 (.mv (.t p1)),
   .p p29 (.idxStr (.t p28) (.c (.int .i64 (.ofNat 0)))),
   .p p30 (.call 45 [(.t p27), (.t p29)]),
   .p p4 (.mv (.t p30))])
   .ret) (.seq (.reg [.p p32 (.mv (.t p5)),
   .p p33 (.mv (.t p0)),
   .p p34 (.lenStr (.t p33)),
   .p p35 (.bin .geq (.t p32) (.t p34)),
   .p p31 (.mv (.t p35))])
   (.cond (.t p31) (.seq (.reg [.p p4 (.mv (.c (.int .i64 (.negSucc 0))))])
   .ret) (.seq (.reg [.p p37 (.mv (.t p5)),
   .p p38 (.load1 (.c (.ptr 0 0))),
   .p p39 (.bin .leq (.t p37) (.t p38)),
   .p p40 (.mv (.t p39)),
   .g p41 (.mv (.t p0)) p40 true,
   .g p42 (.lenStr (.t p41)) p40 true,
   .g p43 (.bin .leq (.t p42) (.c (.int .i64 (.ofNat 64)))) p40 true,
   .p p44 (.pick (.t p40) (.t p43) (.c (.bool false))),
   .p p36 (.mv (.t p44))])
   (.cond (.t p36) (.seq (.reg [.p p45 (.mv (.t p0)),
   .p p46 (.mv (.t p1)),
   .p p47 (.call 46 [(.t p45), (.t p46)]),
   .p p4 (.mv (.t p47))])
   .ret) .skip)))))))))
   (.seq (.reg [.p p48 (.mv (.t p1)),
   .p p49 (.idxStr (.t p48) (.c (.int .i64 (.ofNat 0)))),
   .p p6 (.mv (.t p49))])
   (.seq (.reg [.p p50 (.mv (.t p1)),
   .p p51 (.idxStr (.t p50) (.c (.int .i64 (.ofNat 1)))),
   .p p7 (.mv (.t p51))])
   (.seq (.reg [.p p8 (.mv (.c (.int .i64 (.ofNat 0))))])
   (.seq (.reg [.p p52 (.mv (.t p0)),
   .p p53 (.lenStr (.t p52)),
   .p p54 (.mv (.t p5)),
   .p p55 (.bin .sub (.t p53) (.t p54)),
   .p p56 (.bin .add (.t p55) (.c (.int .i64 (.ofNat 1)))),
   .p p9 (.mv (.t p56))])
   (.seq (.reg [.p p10 (.mv (.c (.int .i64 (.ofNat 0))))])
   (.seq (.block 1 (.loop (.seq (.seq (.reg [.p p57 (.mv (.t p8)),
   .p p58 (.mv (.t p9)),
   .p p59 (.bin .lss (.t p57) (.t p58))])
   (.cond (.t p59) .skip (.exit 1)))
   (.block 2 (.seq (.seq (.reg [.p p60 (.mv (.t p0)),
   .p p61 (.mv (.t p8)),
   .p p62 (.idxStr (.t p60) (.t p61)),
   .p p63 (.mv (.t p6)),
   .p p64 (.bin .neq (.t p62) (.t p63))])
   (.cond (.t p64) (.seq (.reg [.p p65 (.mv (.t p0)),
   .p p66 (.mv (.t p8)),
   .p p67 (.bin .add (.t p66) (.c (.int .i64 (.ofNat 1)))),
   .p p68 (.mv (.t p9)),
   .p p69 (.sliceStr (.t p65) (some (.t p67)) (some (.t p68))),
   .p p70 (.mv (.t p6)),
   .p p71 (.call 45 [(.t p69), (.t p70)]),
   .p p11 (.mv (.t p71))])
   (.seq (.seq (.reg [.p p72 (.mv (.t p11)),
   .p p73 (.bin .lss (.t p72) (.c (.int .i64 (.ofNat 0))))])
   (.cond (.t p73) (.seq (.reg [.p p4 (.mv (.c (.int .i64 (.negSucc 0))))])
   .ret) .skip))
   (.reg [.p p74 (.mv (.t p8)),
   .p p75 (.mv (.t p11)),
   .p p76 (.bin .add (.t p75) (.c (.int .i64 (.ofNat 1)))),
   .p p77 (.bin .add (.t p74) (.t p76)),
   .p p8 (.mv (.t p77))]))) .skip))
   (.seq (.seq (.reg [.p p78 (.mv (.t p0)),
   .p p79 (.mv (.t p8)),
   .p p80 (.bin .add (.t p79) (.c (.int .i64 (.ofNat 1)))),
   .p p81 (.idxStr (.t p78) (.t p80)),
   .p p82 (.mv (.t p7)),
   .p p83 (.bin .eql (.t p81) (.t p82)),
   .p p84 (.mv (.t p83)),
   .g p85 (.mv (.t p0)) p84 true,
   .g p86 (.mv (.t p8)) p84 true,
   .g p87 (.mv (.t p8)) p84 true,
   .g p88 (.mv (.t p5)) p84 true,
   .g p89 (.bin .add (.t p87) (.t p88)) p84 true,
   .g p90 (.sliceStr (.t p85) (some (.t p86)) (some (.t p89))) p84 true,
   .g p91 (.mv (.t p1)) p84 true,
   .g p92 (.bin .eql (.t p90) (.t p91)) p84 true,
   .p p93 (.pick (.t p84) (.t p92) (.c (.bool false)))])
   (.cond (.t p93) (.seq (.reg [.p p94 (.mv (.t p8)),
   .p p4 (.mv (.t p94))])
   .ret) .skip))
   (.seq (.reg [.p p95 (.mv (.t p8)),
   .p p96 (.bin .add (.t p95) (.c (.int .i64 (.ofNat 1)))),
   .p p8 (.mv (.t p96))])
   (.seq (.reg [.p p97 (.mv (.t p10)),
   .p p98 (.bin .add (.t p97) (.c (.int .i64 (.ofNat 1)))),
   .p p10 (.mv (.t p98))])
   (.seq (.reg [.p p99 (.mv (.t p5)),
   .p p100 (.load1 (.c (.ptr 0 0))),
   .p p101 (.bin .leq (.t p99) (.t p100)),
   .p p102 (.mv (.t p101)),
   .g p103 (.mv (.t p10)) p102 true,
   .g p104 (.mv (.t p8)) p102 true,
   .g p105 (.call 47 [(.t p104)]) p102 true,
   .g p106 (.bin .gtr (.t p103) (.t p105)) p102 true,
   .p p107 (.pick (.t p102) (.t p106) (.c (.bool false)))])
   (.cond (.t p107) (.seq (.reg [.p p108 (.mv (.t p0)),
   .p p109 (.mv (.t p8)),
   .p p110 (.sliceStr (.t p108) (some (.t p109)) none),
   .p p111 (.mv (.t p1)),
   .p p112 (.call 46 [(.t p110), (.t p111)]),
   .p p12 (.mv (.t p112))])
   (.seq (.seq (.reg [.p p113 (.mv (.t p12)),
   .p p114 (.bin .geq (.t p113) (.c (.int .i64 (.ofNat 0))))])
   (.cond (.t p114) (.seq (.reg [.p p115 (.mv (.t p12)),
   .p p116 (.mv (.t p8)),
   .p p117 (.bin .add (.t p115) (.t p116)),
   .p p4 (.mv (.t p117))])
   .ret) .skip))
   (.seq (.reg [.p p4 (.mv (.c (.int .i64 (.negSucc 0))))])
   .ret))) (.seq (.reg [.p p118 (.mv (.t p5)),
   .p p119 (.load1 (.c (.ptr 0 0))),
   .p p120 (.bin .gtr (.t p118) (.t p119)),
   .p p121 (.mv (.t p120)),
   .g p122 (.mv (.t p10)) p121 true,
   .g p123 (.mv (.t p8)) p121 true,
   .g p124 (.shf false (.t p123) (.c (.int .u64 (.ofNat 4)))) p121 true,
   .g p125 (.bin .add (.c (.int .i64 (.ofNat 4))) (.t p124)) p121 true,
   .g p126 (.bin .geq (.t p122) (.t p125)) p121 true,
   .p p127 (.pick (.t p121) (.t p126) (.c (.bool false))),
   .p p128 (.mv (.t p127)),
   .g p129 (.mv (.t p8)) p128 true,
   .g p130 (.mv (.t p9)) p128 true,
   .g p131 (.bin .lss (.t p129) (.t p130)) p128 true,
   .p p132 (.pick (.t p128) (.t p131) (.c (.bool false)))])
   (.cond (.t p132) (.seq (.reg [.p p133 (.mv (.t p0)),
   .p p134 (.mv (.t p8)),
   .p p135 (.sliceStr (.t p133) (some (.t p134)) none),
   .p p136 (.mv (.t p1)),
   .p p137 (.call 48 [(.t p135), (.t p136)]),
   .p p13 (.mv (.t p137))])
   (.seq (.seq (.reg [.p p138 (.mv (.t p13)),
   .p p139 (.bin .lss (.t p138) (.c (.int .i64 (.ofNat 0))))])
   (.cond (.t p139) (.seq (.reg [.p p4 (.mv (.c (.int .i64 (.negSucc 0))))])
   .ret) .skip))
   (.seq (.reg [.p p140 (.mv (.t p8)),
   .p p141 (.mv (.t p13)),
   .p p142 (.bin .add (.t p140) (.t p141)),
   .p p4 (.mv (.t p142))])
   .ret))) .skip))))))))))))
   (.seq (.reg [.p p4 (.mv (.c (.int .i64 (.negSucc 0))))])
   .ret))))))))))
   [.t p4]
/- internal/abi.NoEscape -/ def a38 : AF := .noEscape
/- slices.IndexFunc[[]bastion/api.File,bastion/api.File] -/
def a39 : AF :=
  .code [p0, p1] (.seq (.reg [.p p4 (.mv (.c (.int .i64 (.ofNat 0))))])
   (.seq (.seq (.reg [.p p6 (.mv (.t p0)),
   .p p7 (.lenSlc (.t p6)),
   .p p8 (.mv (.c (.int .i64 (.ofNat 0))))])
   (.block 0 (.loop (.seq (.reg [.p p9 (.bin .lss (.t p8) (.t p7))])
   (.seq (.cond (.t p9) .skip (.exit 0))
   (.seq (.block 1 (.seq (.reg [.p p10 (.mv (.t p8)),
   .p p5 (.mv (.t p10))])
   (.seq (.reg [.p p11 (.mv (.t p1)),
   .p p12 (.mv (.t p0)),
   .p p13 (.mv (.t p5)),
   .p p14 (.iaddrS 2 (.t p12) (.t p13)),
   .p p15 (.loadn 2 (.t p14)),
   .p p16 (.callv (.t p11) [(.t p15)])])
   (.cond (.t p16) (.seq (.reg [.p p17 (.mv (.t p5)),
   .p p4 (.mv (.t p17))])
   .ret) .skip))))
   (.reg [.p p18 (.bin .add (.t p8) (.c (.int .i64 (.ofNat 1)))),
   .p p8 (.mv (.t p18))])))))))
   (.seq (.reg [.p p4 (.mv (.c (.int .i64 (.negSucc 0))))])
   .ret)))
   [.t p4]
/- (*bastion/expand.all).take$1 -/
def a40 : AF :=
  .code [p0, p1] (.seq (.reg [.p p2 (.box 38 (.t p0)),
   .p p3 (.mv (.c (.bool false)))])
   (.seq (.reg [.p p4 (.faddr 0 (.t p2)),
   .p p5 (.load1 (.t p4)),
   .p p6 (.load1 (.t p1)),
   .p p7 (.bin .eql (.t p5) (.t p6)),
   .p p3 (.mv (.t p7))])
   .ret))
   [.t p3]
def b41_1 : AC := (.reg [.p p2 (.alloc 108 [.nils, .nils]),
   .p p3 (.mv (.c (.int .i64 (.ofNat 0)))),
   .p p4 (.mv (.c (.int .i64 (.ofNat 0))))])
def b41_3 : AC := (.reg [.p p5 (.alloc 108 [.nils, .nils])])
def b41_5 : AC := (.reg [.p p12 (.call 49 []),
   .p p6 (.mv (.t p12))])
def b41_8 : AC := (.reg [.p p13 (.mv (.t p0)),
   .p p14 (.call 50 [(.t p13), (.c (.str 1 10))]),
   .p p15 (.lenSlc (.t p14)),
   .p p16 (.mv (.c (.int .i64 (.ofNat 0))))])
def b41_11 : AC := (.seq (.reg [.p p17 (.bin .lss (.t p16) (.t p15))])
   (.seq (.cond (.t p17) .skip (.exit 0))
   (.seq (.block 1 (.seq (.reg [.p p18 (.mv (.t p16)),
   .p p19 (.iaddrS 1 (.t p14) (.t p16)),
   .p p20 (.load1 (.t p19)),
   .p p7 (.mv (.t p18)),
   .p p8 (.mv (.t p20))])
   (.seq (.reg [.p p22 (.mv (.t p8)),
   .p p23 (.call 51 [(.t p22)]),
   .p p21 (.mv (.t p23)),
   .p p24 (.extract 0 (.t p21)),
   .p p25 (.extract 1 (.t p21)),
   .p p9 (.mv (.t p24)),
   .p p10 (.mv (.t p25))])
   (.seq (.seq (.reg [.p p26 (.mv (.t p10)),
   .p p27 (.bin .eql (.t p26) (.c (.int .i64 (.ofNat 0)))),
   .p p28 (.mv (.t p27)),
   .g p29 (.mv (.t p9)) p28 true,
   .g p30 (.lenSlc (.t p29)) p28 true,
   .g p31 (.bin .gtr (.t p30) (.c (.int .i64 (.ofNat 0)))) p28 true,
   .p p32 (.pick (.t p28) (.t p31) (.c (.bool false)))])
   (.cond (.t p32) (.seq (.reg [.p p33 (.mv (.t p6)),
   .p p34 (.mv (.t p7)),
   .p p35 (.bin .add (.t p34) (.c (.int .i64 (.ofNat 1)))),
   .p p36 (.mv (.t p9)),
   .p p37 (.call 52 [(.t p5), (.t p33), (.t p35), (.t p36)]),
   .p p11 (.mv (.t p37))])
   (.seq (.reg [.p p38 (.mv (.t p11)),
   .p p39 (.eq true (.ifc true [27, 190]) (.t p38) (.c (.nili)))])
   (.cond (.t p39) (.reg [.p p40 (.mv (.t p11)),
   .p p41 (.call 53 [(.t p40)]),
   .p p10 (.mv (.t p41))]) .skip))) .skip))
   (.seq (.reg [.p p42 (.mv (.t p10)),
   .p p43 (.bin .neq (.t p42) (.c (.int .i64 (.ofNat 0))))])
   (.cond (.t p43) (.seq (.reg [.p p44 (.build [] [.nils, .nils]),
   .p p45 (.mv (.t p7)),
   .p p46 (.bin .add (.t p45) (.c (.int .i64 (.ofNat 1)))),
   .p p47 (.mv (.t p10)),
   .n (.store 2 (.t p2) (.t p44)),
   .p p3 (.mv (.t p46)),
   .p p4 (.mv (.t p47))])
   .ret) .skip))))))
   (.reg [.p p48 (.bin .add (.t p16) (.c (.int .i64 (.ofNat 1)))),
   .p p16 (.mv (.t p48))]))))
def b41_10 : AC := .loop b41_11
def b41_9 : AC := .block 0 b41_10
def b41_7 : AC := .seq b41_8 b41_9
def b41_12 : AC := (.seq (.reg [.p p49 (.loadn 2 (.t p5)),
   .n (.store 2 (.t p2) (.t p49)),
   .p p3 (.mv (.c (.int .i64 (.ofNat 0)))),
   .p p4 (.mv (.c (.int .i64 (.ofNat 0))))])
   .ret)
def b41_6 : AC := .seq b41_7 b41_12
def b41_4 : AC := .seq b41_5 b41_6
def b41_2 : AC := .seq b41_3 b41_4
def b41_0 : AC := .seq b41_1 b41_2
/- bastion/desc.Parse -/
def a41 : AF :=
  .code [p0] b41_0
   [.cell p2 2, .t p3, .t p4]
/- slices.IndexFunc[[]bastion/desc.Item,bastion/desc.Item] -/
def a42 : AF :=
  .code [p0, p1] (.seq (.reg [.p p4 (.mv (.c (.int .i64 (.ofNat 0))))])
   (.seq (.seq (.reg [.p p6 (.mv (.t p0)),
   .p p7 (.lenSlc (.t p6)),
   .p p8 (.mv (.c (.int .i64 (.ofNat 0))))])
   (.block 0 (.loop (.seq (.reg [.p p9 (.bin .lss (.t p8) (.t p7))])
   (.seq (.cond (.t p9) .skip (.exit 0))
   (.seq (.block 1 (.seq (.reg [.p p10 (.mv (.t p8)),
   .p p5 (.mv (.t p10))])
   (.seq (.reg [.p p11 (.mv (.t p1)),
   .p p12 (.mv (.t p0)),
   .p p13 (.mv (.t p5)),
   .p p14 (.iaddrS 3 (.t p12) (.t p13)),
   .p p15 (.loadn 3 (.t p14)),
   .p p16 (.callv (.t p11) [(.t p15)])])
   (.cond (.t p16) (.seq (.reg [.p p17 (.mv (.t p5)),
   .p p4 (.mv (.t p17))])
   .ret) .skip))))
   (.reg [.p p18 (.bin .add (.t p8) (.c (.int .i64 (.ofNat 1)))),
   .p p8 (.mv (.t p18))])))))))
   (.seq (.reg [.p p4 (.mv (.c (.int .i64 (.negSucc 0))))])
   .ret)))
   [.t p4]
/- slices.Contains[[]string,string] -/
def a43 : AF :=
  .code [p0, p1] (.seq (.reg [.p p4 (.mv (.c (.bool false)))])
   (.seq (.reg [.p p5 (.mv (.t p0)),
   .p p6 (.mv (.t p1)),
   .p p7 (.call 54 [(.t p5), (.t p6)]),
   .p p8 (.bin .geq (.t p7) (.c (.int .i64 (.ofNat 0)))),
   .p p4 (.mv (.t p8))])
   .ret))
   [.t p4]
/- slices.Clone[[]string,string] -/
def a44 : AF :=
  .code [p0] (.seq (.reg [.p p2 (.mv (.c (.nils)))])
   (.seq (.seq (.reg [.p p3 (.mv (.t p0)),
   .p p4 (.eq false .slc (.t p3) (.c (.nils)))])
   (.cond (.t p4) (.seq (.reg [.p p2 (.mv (.c (.nils)))])
   .ret) .skip))
   (.seq (.reg [.p p5 (.bslice 9 0 1 [] []),
   .p p6 (.mv (.t p0)),
   .p p7 (.append 9 1 16 (.t p5) (.t p6)),
   .p p2 (.mv (.t p7))])
   .ret)))
   [.t p2]
/- internal/stringslite.IndexByte -/
def a45 : AF :=
  .code [p0, p1] (.seq (.reg [.p p4 (.mv (.c (.int .i64 (.ofNat 0))))])
   (.seq (.reg [.p p5 (.mv (.t p0)),
   .p p6 (.mv (.t p1)),
   .p p7 (.call 55 [(.t p5), (.t p6)]),
   .p p4 (.mv (.t p7))])
   .ret))
   [.t p4]
/- internal/bytealg.IndexString -/ def a46 : AF := .index
/- internal/bytealg.Cutover -/
def a47 : AF :=
  .code [p0] (.seq (.reg [.p p2 (.mv (.c (.int .i64 (.ofNat 0))))])
   (.seq (.reg [.p p3 (.mv (.t p0)),
   .p p4 (.bin .add (.t p3) (.c (.int .i64 (.ofNat 16)))),
   .p p5 (.bin .quo (.t p4) (.c (.int .i64 (.ofNat 8)))),
   .p p2 (.mv (.t p5))])
   .ret))
   [.t p2]
/- internal/bytealg.IndexRabinKarp[string] -/
def a48 : AF :=
  .code [p0, p1] (.seq (.reg [.p p4 (.mv (.c (.int .i64 (.ofNat 0))))])
   (.seq (.reg [.p p12 (.mv (.t p1)),
   .p p13 (.call 56 [(.t p12)]),
   .p p11 (.mv (.t p13)),
   .p p14 (.extract 0 (.t p11)),
   .p p15 (.extract 1 (.t p11)),
   .p p5 (.mv (.t p14)),
   .p p6 (.mv (.t p15))])
   (.seq (.reg [.p p16 (.mv (.t p1)),
   .p p17 (.lenStr (.t p16)),
   .p p7 (.mv (.t p17))])
   (.seq (.reg [.p p8 (.mv (.c (.int .u32 (.ofNat 0))))])
   (.seq (.seq (.reg [.p p9 (.mv (.c (.int .i64 (.ofNat 0))))])
   (.block 0 (.loop (.seq (.seq (.reg [.p p18 (.mv (.t p9)),
   .p p19 (.mv (.t p7)),
   .p p20 (.bin .lss (.t p18) (.t p19))])
   (.cond (.t p20) .skip (.exit 0)))
   (.seq (.block 1 (.reg [.p p23 (.mv (.t p8)),
   .p p24 (.bin .mul (.t p23) (.c (.int .u32 (.ofNat 16777619)))),
   .p p25 (.mv (.t p0)),
   .p p26 (.mv (.t p9)),
   .p p27 (.idxStr (.t p25) (.t p26)),
   .p p28 (.convI .u32 (.t p27)),
   .p p29 (.bin .add (.t p24) (.t p28)),
   .p p8 (.mv (.t p29))]))
   (.reg [.p p21 (.mv (.t p9)),
   .p p22 (.bin .add (.t p21) (.c (.int .i64 (.ofNat 1)))),
   .p p9 (.mv (.t p22))]))))))
   (.seq (.seq (.reg [.p p30 (.mv (.t p8)),
   .p p31 (.mv (.t p5)),
   .p p32 (.bin .eql (.t p30) (.t p31)),
   .p p33 (.mv (.t p32)),
   .g p34 (.mv (.t p0)) p33 true,
   .g p35 (.mv (.t p7)) p33 true,
   .g p36 (.sliceStr (.t p34) none (some (.t p35))) p33 true,
   .g p37 (.mv (.t p1)) p33 true,
   .g p38 (.bin .eql (.t p36) (.t p37)) p33 true,
   .p p39 (.pick (.t p33) (.t p38) (.c (.bool false)))])
   (.cond (.t p39) (.seq (.reg [.p p4 (.mv (.c (.int .i64 (.ofNat 0))))])
   .ret) .skip))
   (.seq (.seq (.reg [.p p40 (.mv (.t p7)),
   .p p10 (.mv (.t p40))])
   (.block 2 (.loop (.seq (.seq (.reg [.p p41 (.mv (.t p10)),
   .p p42 (.mv (.t p0)),
   .p p43 (.lenStr (.t p42)),
   .p p44 (.bin .lss (.t p41) (.t p43))])
   (.cond (.t p44) .skip (.exit 2)))
   (.block 3 (.seq (.reg [.p p45 (.mv (.t p8)),
   .p p46 (.bin .mul (.t p45) (.c (.int .u32 (.ofNat 16777619)))),
   .p p8 (.mv (.t p46))])
   (.seq (.reg [.p p47 (.mv (.t p8)),
   .p p48 (.mv (.t p0)),
   .p p49 (.mv (.t p10)),
   .p p50 (.idxStr (.t p48) (.t p49)),
   .p p51 (.convI .u32 (.t p50)),
   .p p52 (.bin .add (.t p47) (.t p51)),
   .p p8 (.mv (.t p52))])
   (.seq (.reg [.p p53 (.mv (.t p8)),
   .p p54 (.mv (.t p6)),
   .p p55 (.mv (.t p0)),
   .p p56 (.mv (.t p10)),
   .p p57 (.mv (.t p7)),
   .p p58 (.bin .sub (.t p56) (.t p57)),
   .p p59 (.idxStr (.t p55) (.t p58)),
   .p p60 (.convI .u32 (.t p59)),
   .p p61 (.bin .mul (.t p54) (.t p60)),
   .p p62 (.bin .sub (.t p53) (.t p61)),
   .p p8 (.mv (.t p62))])
   (.seq (.reg [.p p63 (.mv (.t p10)),
   .p p64 (.bin .add (.t p63) (.c (.int .i64 (.ofNat 1)))),
   .p p10 (.mv (.t p64))])
   (.seq (.reg [.p p65 (.mv (.t p8)),
   .p p66 (.mv (.t p5)),
   .p p67 (.bin .eql (.t p65) (.t p66)),
   .p p68 (.mv (.t p67)),
   .g p69 (.mv (.t p0)) p68 true,
   .g p70 (.mv (.t p10)) p68 true,
   .g p71 (.mv (.t p7)) p68 true,
   .g p72 (.bin .sub (.t p70) (.t p71)) p68 true,
   .g p73 (.mv (.t p10)) p68 true,
   .g p74 (.sliceStr (.t p69) (some (.t p72)) (some (.t p73))) p68 true,
   .g p75 (.mv (.t p1)) p68 true,
   .g p76 (.bin .eql (.t p74) (.t p75)) p68 true,
   .p p77 (.pick (.t p68) (.t p76) (.c (.bool false)))])
   (.cond (.t p77) (.seq (.reg [.p p78 (.mv (.t p10)),
   .p p79 (.mv (.t p7)),
   .p p80 (.bin .sub (.t p78) (.t p79)),
   .p p4 (.mv (.t p80))])
   .ret) .skip)))))))))))
   (.seq (.reg [.p p4 (.mv (.c (.int .i64 (.negSucc 0))))])
   .ret))))))))
   [.t p4]
/- bastion/desc.rules -/
def a49 : AF :=
  .code [] (.seq (.reg [.p p0 (.mv (.c (.nilm)))])
   (.seq (.reg [.p p1 (.mv (.c (.fn 57 [] [])))])
   (.seq (.reg [.p p2 (.mv (.c (.fn 58 [] [])))])
   (.seq (.reg [.p p3 (.mv (.c (.fn 59 [] [])))])
   (.seq (.reg [.p p4 (.mv (.c (.fn 60 [] [])))])
   (.seq (.reg [.p p5 (.mv (.c (.fn 61 [] [])))])
   (.seq (.reg [.p p6 (.mkmap),
   .p p7 (.mv (.t p1)),
   .p p8 (.build [([], 1, (.t p7)), ([], 1, (.c (.int .i64 (.ofNat 1)))), ([], 1, (.c (.int .i64 (.ofNat 1)))), ([.int .i64 (.ofNat 0)], 1, (.c (.fn 63 [] [])))] [.int .i64 (.ofNat 0), .bool false]),
   .n (.insert .str (.t p6) (.c (.str 7 28539428140183145)) (.t p8)),
   .p p9 (.mv (.t p1)),
   .p p10 (.mv (.t p5)),
   .p p11 (.build [([], 1, (.t p9)), ([], 1, (.c (.int .i64 (.ofNat 1)))), ([], 1, (.c (.int .i64 (.ofNat 400)))), ([.int .i64 (.ofNat 0)], 1, (.t p10))] [.int .i64 (.ofNat 0), .bool false]),
   .n (.insert .str (.t p6) (.c (.str 2 28271)) (.t p11)),
   .p p12 (.mv (.t p1)),
   .p p13 (.mv (.t p5)),
   .p p14 (.build [([], 1, (.t p12)), ([], 1, (.c (.int .i64 (.ofNat 1)))), ([], 1, (.c (.int .i64 (.ofNat 400)))), ([.int .i64 (.ofNat 0)], 1, (.t p13))] [.int .i64 (.ofNat 0), .bool false]),
   .n (.insert .str (.t p6) (.c (.str 5 495673696624)) (.t p14)),
   .p p15 (.mv (.t p3)),
   .p p16 (.build [([], 1, (.t p15)), ([], 1, (.c (.int .i64 (.ofNat 2)))), ([], 1, (.c (.int .i64 (.ofNat 2)))), ([], 1, (.c (.int .i64 (.ofNat 1))))] [.nilf, .int .i64 (.ofNat 0), .bool false]),
   .n (.insert .str (.t p6) (.c (.str 3 7496054)) (.t p16)),
   .p p17 (.mv (.t p4)),
   .p p18 (.build [([], 1, (.t p17)), ([], 1, (.c (.int .i64 (.ofNat 1)))), ([], 1, (.c (.int .i64 (.ofNat 1)))), ([], 1, (.c (.int .i64 (.negSucc 0))))] [.nilf, .int .i64 (.ofNat 0), .bool false]),
   .n (.insert .str (.t p6) (.c (.str 3 6648693)) (.t p18)),
   .p p19 (.mv (.t p2)),
   .p p20 (.build [([], 1, (.t p19)), ([], 1, (.c (.int .i64 (.ofNat 1)))), ([], 1, (.c (.int .i64 (.ofNat 400)))), ([], 1, (.c (.int .i64 (.negSucc 0))))] [.nilf, .int .i64 (.ofNat 0), .bool false]),
   .n (.insert .str (.t p6) (.c (.str 5 495605605742)) (.t p20)),
   .p p21 (.mv (.t p2)),
   .p p22 (.build [([], 1, (.t p21)), ([], 1, (.c (.int .i64 (.ofNat 1)))), ([], 1, (.c (.int .i64 (.ofNat 400)))), ([], 1, (.c (.int .i64 (.negSucc 0))))] [.nilf, .int .i64 (.ofNat 0), .bool false]),
   .n (.insert .str (.t p6) (.c (.str 4 1936154996)) (.t p22)),
   .p p23 (.mv (.t p2)),
   .p p24 (.build [([], 1, (.t p23)), ([], 1, (.c (.int .i64 (.ofNat 2)))), ([], 1, (.c (.int .i64 (.ofNat 400)))), ([], 1, (.c (.int .i64 (.ofNat 1)))), ([], 1, (.c (.fn 64 [] []))), ([.int .i64 (.ofNat 0)], 1, (.c (.bool true)))] []),
   .n (.insert .str (.t p6) (.c (.str 4 1936291937)) (.t p24)),
   .p p25 (.mv (.t p2)),
   .p p26 (.build [([], 1, (.t p25)), ([], 1, (.c (.int .i64 (.ofNat 1)))), ([], 1, (.c (.int .i64 (.ofNat 400)))), ([.int .i64 (.ofNat 0), .nilf, .int .i64 (.ofNat 0)], 1, (.c (.bool true)))] []),
   .n (.insert .str (.t p6) (.c (.str 4 1852139639)) (.t p26)),
   .p p27 (.mv (.t p2)),
   .p p28 (.build [([], 1, (.t p27)), ([], 1, (.c (.int .i64 (.ofNat 1)))), ([], 1, (.c (.int .i64 (.ofNat 400))))] [.int .i64 (.ofNat 0), .nilf, .int .i64 (.ofNat 0), .bool false]),
   .n (.insert .str (.t p6) (.c (.str 2 28516)) (.t p28)),
   .p p29 (.mv (.t p2)),
   .p p30 (.build [([], 1, (.t p29)), ([], 1, (.c (.int .i64 (.ofNat 1)))), ([], 1, (.c (.int .i64 (.ofNat 1)))), ([.int .i64 (.ofNat 0), .nilf], 1, (.c (.int .i64 (.ofNat 5)))), ([], 1, (.c (.bool true)))] []),
   .n (.insert .str (.t p6) (.c (.str 5 495622648436)) (.t p30)),
   .p p31 (.mv (.t p2)),
   .p p32 (.build [([], 1, (.t p31)), ([], 1, (.c (.int .i64 (.ofNat 1)))), ([], 1, (.c (.int .i64 (.ofNat 1)))), ([.int .i64 (.ofNat 0), .nilf], 1, (.c (.int .i64 (.ofNat 1000)))), ([], 1, (.c (.bool true)))] []),
   .n (.insert .str (.t p6) (.c (.str 5 499984984428)) (.t p32)),
   .p p33 (.mv (.t p2)),
   .p p34 (.build [([], 1, (.t p33)), ([.int .i64 (.ofNat 0), .int .i64 (.ofNat 0), .int .i64 (.ofNat 0), .nilf, .int .i64 (.ofNat 0)], 1, (.c (.bool true)))] []),
   .n (.insert .str (.t p6) (.c (.str 6 119165837795693)) (.t p34)),
   .p p35 (.mv (.t p2)),
   .p p36 (.mv (.t p5)),
   .p p37 (.build [([], 1, (.t p35)), ([], 1, (.c (.int .i64 (.ofNat 1)))), ([], 1, (.c (.int .i64 (.ofNat 400)))), ([.int .i64 (.ofNat 0)], 1, (.t p36))] [.int .i64 (.ofNat 0), .bool false]),
   .n (.insert .str (.t p6) (.c (.str 4 1885693291)) (.t p37)),
   .p p38 (.mv (.t p6)),
   .p p0 (.mv (.t p38))])
   .ret)))))))
   [.t p0]
/- strings.Split -/
def a50 : AF :=
  .code [p0, p1] (.seq (.reg [.p p4 (.mv (.c (.nils)))])
   (.seq (.reg [.p p5 (.mv (.t p0)),
   .p p6 (.mv (.t p1)),
   .p p7 (.call 65 [(.t p5), (.t p6), (.c (.int .i64 (.ofNat 0))), (.c (.int .i64 (.negSucc 0)))]),
   .p p4 (.mv (.t p7))])
   .ret))
   [.t p4]
/- bastion/words.Split -/
def a51 : AF :=
  .code [p0] (.seq (.reg [.p p2 (.mv (.c (.nils))),
   .p p3 (.mv (.c (.int .i64 (.ofNat 0))))])
   (.seq (.seq (.reg [.p p10 (.mv (.t p0)),
   .p p11 (.lenStr (.t p10)),
   .p p12 (.bin .gtr (.t p11) (.c (.int .i64 (.ofNat 400))))])
   (.cond (.t p12) (.seq (.reg [.p p2 (.mv (.c (.nils))),
   .p p3 (.mv (.c (.int .i64 (.ofNat 40))))])
   .ret) .skip))
   (.seq (.reg [.p p4 (.mv (.c (.nils)))])
   (.seq (.reg [.p p13 (.mv (.t p0)),
   .p p5 (.mv (.t p13))])
   (.block 0 (.loop (.block 1 (.seq (.reg [.p p14 (.mv (.t p5)),
   .p p15 (.call 66 [(.t p14), (.c (.str 2 2336))]),
   .p p5 (.mv (.t p15))])
   (.block 2 (.seq (.reg [.p p49 (.mv (.t p5)),
   .p p50 (.bin .eql (.t p49) (.c (.str 0 0))),
   .p p48 (.mv (.t p50))])
   (.cond (.t p48) (.seq (.reg [.p p51 (.mv (.t p4)),
   .p p2 (.mv (.t p51)),
   .p p3 (.mv (.c (.int .i64 (.ofNat 0))))])
   .ret) (.seq (.reg [.p p53 (.mv (.t p5)),
   .p p54 (.idxStr (.t p53) (.c (.int .i64 (.ofNat 0)))),
   .p p55 (.bin .eql (.t p54) (.c (.int .u8 (.ofNat 35)))),
   .p p52 (.mv (.t p55))])
   (.cond (.t p52) (.seq (.seq (.reg [.p p56 (.mv (.t p5)),
   .p p57 (.call 67 [(.t p56), (.c (.str 1 10))])])
   (.cond (.t p57) (.seq (.reg [.p p2 (.mv (.c (.nils))),
   .p p3 (.mv (.c (.int .i64 (.ofNat 4))))])
   .ret) .skip))
   (.seq (.reg [.p p58 (.mv (.t p4)),
   .p p2 (.mv (.t p58)),
   .p p3 (.mv (.c (.int .i64 (.ofNat 0))))])
   .ret)) (.seq (.reg [.p p60 (.mv (.t p5)),
   .p p61 (.idxStr (.t p60) (.c (.int .i64 (.ofNat 0)))),
   .p p62 (.bin .eql (.t p61) (.c (.int .u8 (.ofNat 34)))),
   .p p59 (.mv (.t p62))])
   (.cond (.t p59) (.seq (.reg [.p p64 (.mv (.t p5)),
   .p p65 (.sliceStr (.t p64) (some (.c (.int .i64 (.ofNat 1)))) none),
   .p p66 (.call 68 [(.t p65)]),
   .p p63 (.mv (.t p66)),
   .p p67 (.extract 0 (.t p63)),
   .p p68 (.extract 1 (.t p63)),
   .p p69 (.extract 2 (.t p63)),
   .p p6 (.mv (.t p67)),
   .p p7 (.mv (.t p68)),
   .p p8 (.mv (.t p69))])
   (.seq (.seq (.reg [.p p70 (.mv (.t p8)),
   .p p71 (.not (.t p70)),
   .p p72 (.mv (.t p71)),
   .g p73 (.mv (.t p7)) p72 false,
   .g p74 (.bin .neq (.t p73) (.c (.str 0 0))) p72 false,
   .g p75 (.mv (.t p74)) p72 false,
   .g p76 (.mv (.t p7)) p75 true,
   .g p77 (.idxStr (.t p76) (.c (.int .i64 (.ofNat 0)))) p75 true,
   .g p78 (.bin .neq (.t p77) (.c (.int .u8 (.ofNat 32)))) p75 true,
   .g p79 (.pick (.t p75) (.t p78) (.c (.bool false))) p72 false,
   .g p80 (.mv (.t p79)) p72 false,
   .g p81 (.mv (.t p7)) p80 true,
   .g p82 (.idxStr (.t p81) (.c (.int .i64 (.ofNat 0)))) p80 true,
   .g p83 (.bin .neq (.t p82) (.c (.int .u8 (.ofNat 9)))) p80 true,
   .g p84 (.pick (.t p80) (.t p83) (.c (.bool false))) p72 false,
   .p p85 (.pick (.t p72) (.c (.bool true)) (.t p84))])
   (.cond (.t p85) (.seq (.reg [.p p2 (.mv (.c (.nils))),
   .p p3 (.mv (.c (.int .i64 (.ofNat 4))))])
   .ret) .skip))
   (.reg [.p p86 (.mv (.t p4)),
   .p p87 (.mv (.t p6)),
   .p p88 (.bslice 9 1 1 [([], 1, (.t p87))] []),
   .p p89 (.append 9 1 16 (.t p86) (.t p88)),
   .p p90 (.mv (.t p7)),
   .p p4 (.mv (.t p89)),
   .p p5 (.mv (.t p90))]))) (.seq (.reg [.p p9 (.mv (.c (.int .i64 (.ofNat 0))))])
   (.seq (.block 3 (.loop (.seq (.seq (.reg [.p p16 (.mv (.t p9)),
   .p p17 (.mv (.t p5)),
   .p p18 (.lenStr (.t p17)),
   .p p19 (.bin .lss (.t p16) (.t p18)),
   .p p20 (.mv (.t p19)),
   .g p21 (.mv (.t p5)) p20 true,
   .g p22 (.mv (.t p9)) p20 true,
   .g p23 (.idxStr (.t p21) (.t p22)) p20 true,
   .g p24 (.bin .neq (.t p23) (.c (.int .u8 (.ofNat 32)))) p20 true,
   .p p25 (.pick (.t p20) (.t p24) (.c (.bool false))),
   .p p26 (.mv (.t p25)),
   .g p27 (.mv (.t p5)) p26 true,
   .g p28 (.mv (.t p9)) p26 true,
   .g p29 (.idxStr (.t p27) (.t p28)) p26 true,
   .g p30 (.bin .neq (.t p29) (.c (.int .u8 (.ofNat 9)))) p26 true,
   .p p31 (.pick (.t p26) (.t p30) (.c (.bool false)))])
   (.cond (.t p31) .skip (.exit 3)))
   (.block 4 (.seq (.seq (.reg [.p p32 (.mv (.t p5)),
   .p p33 (.mv (.t p9)),
   .p p34 (.idxStr (.t p32) (.t p33)),
   .p p35 (.call 69 [(.t p34)]),
   .p p36 (.not (.t p35))])
   (.cond (.t p36) (.seq (.reg [.p p2 (.mv (.c (.nils))),
   .p p3 (.mv (.c (.int .i64 (.ofNat 4))))])
   .ret) .skip))
   (.reg [.p p37 (.mv (.t p9)),
   .p p38 (.bin .add (.t p37) (.c (.int .i64 (.ofNat 1)))),
   .p p9 (.mv (.t p38))]))))))
   (.dreg [(.p p39 (.mv (.t p4)), 0), (.p p40 (.mv (.t p5)), 0), (.p p41 (.mv (.t p9)), 0), (.p p42 (.sliceStr (.t p40) none (some (.t p41))), 6), (.p p43 (.bslice 9 1 1 [([], 1, (.t p42))] []), 14), (.p p44 (.append 9 1 16 (.t p39) (.t p43)), 31), (.p p45 (.mv (.t p5)), 0), (.p p46 (.mv (.t p9)), 0), (.p p47 (.sliceStr (.t p45) (some (.t p46)) none), 192), (.p p4 (.mv (.t p44)), 63), (.p p5 (.mv (.t p47)), 1023)]))))))))))))))))))
   [.t p2, .t p3]
/- (*bastion/desc.Doc).line -/
def a52 : AF :=
  .code [p0, p1, p2, p3] (.seq (.reg [.p p8 (.mv (.c (.nili)))])
   (.seq (.seq (.reg [.p p15 (.mv (.t p3)),
   .p p16 (.iaddrS 1 (.t p15) (.c (.int .i64 (.ofNat 0)))),
   .p p17 (.load1 (.t p16))])
   (.block 0 (.seq (.reg [.p p19 (.bin .eql (.t p17) (.c (.str 8 7310575213499737460))),
   .p p18 (.mv (.t p19))])
   (.cond (.t p18) (.seq (.reg [.p p20 (.mv (.t p0)),
   .p p21 (.mv (.t p2)),
   .p p22 (.mv (.t p3)),
   .p p23 (.sliceS 1 (.t p22) (some (.c (.int .i64 (.ofNat 1)))) none none),
   .p p24 (.call 70 [(.t p20), (.t p21), (.c (.int .u8 (.ofNat 1))), (.t p23)]),
   .p p8 (.mv (.t p24))])
   .ret) (.seq (.reg [.p p26 (.bin .eql (.t p17) (.c (.str 3 6451050))),
   .p p25 (.mv (.t p26))])
   (.cond (.t p25) (.seq (.reg [.p p27 (.mv (.t p0)),
   .p p28 (.mv (.t p2)),
   .p p29 (.mv (.t p3)),
   .p p30 (.sliceS 1 (.t p29) (some (.c (.int .i64 (.ofNat 1)))) none none),
   .p p31 (.call 70 [(.t p27), (.t p28), (.c (.int .u8 (.ofNat 2))), (.t p30)]),
   .p p8 (.mv (.t p31))])
   .ret) .skip))))))
   (.seq (.dreg [(.p p32 (.mv (.t p0)), 0), (.p p33 (.nilck (.t p32)), 1), (.p p34 (.faddr 0 (.t p33)), 3), (.p p9 (.mv (.c (.int .u8 (.ofNat 0)))), 0), (.p p10 (.mv (.t p34)), 15)])
   (.seq (.seq (.reg [.p p35 (.mv (.t p0)),
   .p p36 (.nilck (.t p35)),
   .p p37 (.faddr 1 (.t p36)),
   .p p38 (.load1 (.t p37)),
   .p p39 (.lenSlc (.t p38)),
   .p p11 (.mv (.t p39))])
   (.seq (.reg [.p p40 (.mv (.t p11)),
   .p p41 (.bin .gtr (.t p40) (.c (.int .i64 (.ofNat 0))))])
   (.cond (.t p41) (.seq (.reg [.p p42 (.mv (.t p0)),
   .p p43 (.nilck (.t p42)),
   .p p44 (.faddr 1 (.t p43)),
   .p p45 (.load1 (.t p44)),
   .p p46 (.mv (.t p11)),
   .p p47 (.bin .sub (.t p46) (.c (.int .i64 (.ofNat 1)))),
   .p p48 (.iaddrS 4 (.t p45) (.t p47)),
   .p p12 (.mv (.t p48))])
   (.dreg [(.p p49 (.mv (.t p12)), 0), (.p p50 (.nilck (.t p49)), 1), (.p p51 (.faddr 1 (.t p50)), 3), (.p p52 (.load1 (.t p51)), 7), (.p p53 (.mv (.t p12)), 0), (.p p54 (.nilck (.t p53)), 16), (.p p55 (.faddr 3 (.t p54)), 48), (.p p9 (.mv (.t p52)), 15), (.p p10 (.mv (.t p55)), 255)])) .skip)))
   (.seq (.dreg [(.p p56 (.mv (.t p2)), 0), (.p p57 (.mv (.t p3)), 0), (.p p58 (.iaddrS 1 (.t p57) (.c (.int .i64 (.ofNat 0)))), 2), (.p p59 (.load1 (.t p58)), 6), (.p p60 (.mv (.t p3)), 0), (.p p61 (.sliceS 1 (.t p60) (some (.c (.int .i64 (.ofNat 1)))) none none), 16), (.p p62 (.build [([], 1, (.t p56)), ([], 1, (.t p59)), ([], 1, (.t p61))] []), 63), (.p p13 (.alloc 49 [.int .i64 (.ofNat 0), .str 0 0, .nils]), 0), (.n (.store 3 (.t p13) (.t p62)), 255)])
   (.seq (.seq (.dreg [(.p p63 (.mv (.t p1)), 0), (.p p64 (.faddr 1 (.t p13)), 0), (.p p65 (.load1 (.t p64)), 2), (.p p66 (.lookup .str false (.agg [.nilf, .int .i64 (.ofNat 0), .int .i64 (.ofNat 0), .int .i64 (.ofNat 0), .nilf, .int .i64 (.ofNat 0), .bool false]) (.t p63) (.t p65)), 7), (.p p67 (.mv (.t p9)), 0), (.p p68 (.mv (.t p10)), 0), (.p p69 (.nilck (.t p68)), 32), (.p p70 (.load1 (.t p69)), 96), (.p p71 (.loadn 3 (.t p13)), 0), (.p p72 (.call 71 [(.t p66), (.t p67), (.t p70), (.t p71)]), 511), (.p p14 (.mv (.t p72)), 1023)])
   (.seq (.reg [.p p73 (.mv (.t p14)),
   .p p74 (.eq true (.ifc true [27, 190]) (.t p73) (.c (.nili)))])
   (.cond (.t p74) (.seq (.reg [.p p75 (.mv (.t p14)),
   .p p8 (.mv (.t p75))])
   .ret) .skip)))
   (.seq (.dreg [(.p p76 (.mv (.t p10)), 0), (.p p77 (.mv (.t p10)), 0), (.p p78 (.nilck (.t p77)), 2), (.p p79 (.load1 (.t p78)), 6), (.p p80 (.loadn 3 (.t p13)), 0), (.p p81 (.bslice 49 1 3 [([], 3, (.t p80))] []), 16), (.p p82 (.append 49 3 48 (.t p79) (.t p81)), 62), (.p p83 (.nilck (.t p76)), 127), (.n (.store 1 (.t p83) (.t p82)), 255)])
   (.seq (.reg [.p p8 (.mv (.c (.nili)))])
   .ret))))))))
   [.t p8]
/- bastion/desc.told -/
def a53 : AF :=
  .code [p0] (.seq (.reg [.p p2 (.mv (.c (.int .i64 (.ofNat 0))))])
   (.seq (.reg [.p p3 (.alloc 27 [.int .i64 (.ofNat 0)]),
   .n (.store 1 (.t p3) (.c (.int .i64 (.ofNat 0))))])
   (.seq (.reg [.p p4 (.mv (.t p0)),
   .p p5 (.mkif 143 (.t p3)),
   .p p6 (.call 72 [(.t p4), (.t p5)])])
   (.seq (.reg [.p p7 (.load1 (.t p3)),
   .p p2 (.mv (.t p7))])
   .ret))))
   [.t p2]
/- slices.Index[[]string,string] -/
def a54 : AF :=
  .code [p0, p1] (.seq (.reg [.p p4 (.mv (.c (.int .i64 (.ofNat 0))))])
   (.seq (.seq (.reg [.p p6 (.mv (.t p0)),
   .p p7 (.lenSlc (.t p6)),
   .p p8 (.mv (.c (.int .i64 (.ofNat 0))))])
   (.block 0 (.loop (.seq (.reg [.p p9 (.bin .lss (.t p8) (.t p7))])
   (.seq (.cond (.t p9) .skip (.exit 0))
   (.seq (.block 1 (.seq (.reg [.p p10 (.mv (.t p8)),
   .p p5 (.mv (.t p10))])
   (.seq (.reg [.p p11 (.mv (.t p1)),
   .p p12 (.mv (.t p0)),
   .p p13 (.mv (.t p5)),
   .p p14 (.iaddrS 1 (.t p12) (.t p13)),
   .p p15 (.load1 (.t p14)),
   .p p16 (.bin .eql (.t p11) (.t p15))])
   (.cond (.t p16) (.seq (.reg [.p p17 (.mv (.t p5)),
   .p p4 (.mv (.t p17))])
   .ret) .skip))))
   (.reg [.p p18 (.bin .add (.t p8) (.c (.int .i64 (.ofNat 1)))),
   .p p8 (.mv (.t p18))])))))))
   (.seq (.reg [.p p4 (.mv (.c (.int .i64 (.negSucc 0))))])
   .ret)))
   [.t p4]
/- internal/bytealg.IndexByteString -/ def a55 : AF := .indexByte
/- internal/bytealg.hashStr[string] -/
def a56 : AF :=
  .code [p0] (.seq (.reg [.p p2 (.mv (.c (.int .u32 (.ofNat 0)))),
   .p p3 (.mv (.c (.int .u32 (.ofNat 0))))])
   (.seq (.reg [.p p4 (.mv (.c (.int .u32 (.ofNat 0))))])
   (.seq (.seq (.reg [.p p5 (.mv (.c (.int .i64 (.ofNat 0))))])
   (.block 0 (.loop (.seq (.seq (.reg [.p p9 (.mv (.t p5)),
   .p p10 (.mv (.t p0)),
   .p p11 (.lenStr (.t p10)),
   .p p12 (.bin .lss (.t p9) (.t p11))])
   (.cond (.t p12) .skip (.exit 0)))
   (.seq (.block 1 (.reg [.p p15 (.mv (.t p4)),
   .p p16 (.bin .mul (.t p15) (.c (.int .u32 (.ofNat 16777619)))),
   .p p17 (.mv (.t p0)),
   .p p18 (.mv (.t p5)),
   .p p19 (.idxStr (.t p17) (.t p18)),
   .p p20 (.convI .u32 (.t p19)),
   .p p21 (.bin .add (.t p16) (.t p20)),
   .p p4 (.mv (.t p21))]))
   (.reg [.p p13 (.mv (.t p5)),
   .p p14 (.bin .add (.t p13) (.c (.int .i64 (.ofNat 1)))),
   .p p5 (.mv (.t p14))]))))))
   (.seq (.reg [.p p6 (.mv (.c (.int .u32 (.ofNat 1)))),
   .p p7 (.mv (.c (.int .u32 (.ofNat 16777619))))])
   (.seq (.seq (.reg [.p p22 (.mv (.t p0)),
   .p p23 (.lenStr (.t p22)),
   .p p8 (.mv (.t p23))])
   (.block 2 (.loop (.seq (.seq (.reg [.p p24 (.mv (.t p8)),
   .p p25 (.bin .gtr (.t p24) (.c (.int .i64 (.ofNat 0))))])
   (.cond (.t p25) .skip (.exit 2)))
   (.seq (.block 3 (.seq (.seq (.reg [.p p28 (.mv (.t p8)),
   .p p29 (.bin .and (.t p28) (.c (.int .i64 (.ofNat 1)))),
   .p p30 (.bin .neq (.t p29) (.c (.int .i64 (.ofNat 0))))])
   (.cond (.t p30) (.reg [.p p31 (.mv (.t p6)),
   .p p32 (.mv (.t p7)),
   .p p33 (.bin .mul (.t p31) (.t p32)),
   .p p6 (.mv (.t p33))]) .skip))
   (.reg [.p p34 (.mv (.t p7)),
   .p p35 (.mv (.t p7)),
   .p p36 (.bin .mul (.t p34) (.t p35)),
   .p p7 (.mv (.t p36))])))
   (.reg [.p p26 (.mv (.t p8)),
   .p p27 (.shf false (.t p26) (.c (.int .u64 (.ofNat 1)))),
   .p p8 (.mv (.t p27))]))))))
   (.seq (.reg [.p p37 (.mv (.t p4)),
   .p p38 (.mv (.t p6)),
   .p p2 (.mv (.t p37)),
   .p p3 (.mv (.t p38))])
   .ret))))))
   [.t p2, .t p3]
/- bastion/desc.rules$1 -/
def a57 : AF :=
  .code [p0, p1] (.seq (.reg [.p p4 (.mv (.c (.bool false)))])
   (.seq (.reg [.p p5 (.mv (.t p0)),
   .p p6 (.bin .eql (.t p5) (.c (.int .u8 (.ofNat 0)))),
   .p p4 (.mv (.t p6))])
   .ret))
   [.t p4]
/- bastion/desc.rules$2 -/
def a58 : AF :=
  .code [p0, p1] (.seq (.reg [.p p4 (.mv (.c (.bool false)))])
   (.seq (.reg [.p p5 (.mv (.t p0)),
   .p p6 (.bin .neq (.t p5) (.c (.int .u8 (.ofNat 0)))),
   .p p4 (.mv (.t p6))])
   .ret))
   [.t p4]
/- bastion/desc.rules$3 -/
def a59 : AF :=
  .code [p0, p1] (.seq (.reg [.p p4 (.mv (.c (.bool false)))])
   (.seq (.reg [.p p4 (.mv (.c (.bool true)))])
   .ret))
   [.t p4]
/- bastion/desc.rules$4 -/
def a60 : AF :=
  .code [p0, p1] (.seq (.reg [.p p4 (.mv (.c (.bool false)))])
   (.seq (.reg [.p p5 (.mv (.t p0)),
   .p p6 (.bin .eql (.t p5) (.c (.int .u8 (.ofNat 2)))),
   .p p7 (.mv (.t p6)),
   .g p8 (.mv (.t p1)) p7 true,
   .p p9 (.pick (.t p7) (.t p8) (.c (.bool false))),
   .p p4 (.mv (.t p9))])
   .ret))
   [.t p4]
/- bastion/desc.rules$5 -/
def a61 : AF :=
  .code [p0] (.seq (.reg [.p p2 (.mv (.c (.bool false)))])
   (.seq (.reg [.p p3 (.mv (.t p0)),
   .p p4 (.call 62 [(.t p3)]),
   .p p5 (.bin .eql (.t p4) (.c (.int .i64 (.ofNat 0)))),
   .p p2 (.mv (.t p5))])
   .ret))
   [.t p2]
/- bastion/glob.Check -/
def a62 : AF :=
  .code [p0] (.seq (.reg [.p p2 (.mv (.c (.int .i64 (.ofNat 0))))])
   (.seq (.block 0 (.seq (.reg [.p p4 (.mv (.t p0)),
   .p p5 (.lenStr (.t p4)),
   .p p6 (.bin .gtr (.t p5) (.c (.int .i64 (.ofNat 64)))),
   .p p3 (.mv (.t p6))])
   (.cond (.t p3) (.seq (.reg [.p p2 (.mv (.c (.int .i64 (.ofNat 40))))])
   .ret) (.seq (.reg [.p p8 (.mv (.t p0)),
   .p p9 (.bin .eql (.t p8) (.c (.str 0 0))),
   .p p10 (.mv (.t p9)),
   .g p11 (.mv (.t p0)) p10 false,
   .g p12 (.call 73 [(.t p11), (.c (.fn 74 [] []))]) p10 false,
   .p p13 (.pick (.t p10) (.c (.bool true)) (.t p12)),
   .p p7 (.mv (.t p13))])
   (.cond (.t p7) (.seq (.reg [.p p2 (.mv (.c (.int .i64 (.ofNat 4))))])
   .ret) .skip)))))
   (.seq (.reg [.p p2 (.mv (.c (.int .i64 (.ofNat 0))))])
   .ret)))
   [.t p2]
/- bastion/desc.Path -/
def a63 : AF :=
  .code [p0] (.seq (.reg [.p p2 (.mv (.c (.bool false)))])
   (.seq (.seq (.reg [.p p7 (.mv (.t p0)),
   .p p8 (.call 50 [(.t p7), (.c (.str 1 47))]),
   .p p9 (.lenSlc (.t p8)),
   .p p10 (.mv (.c (.int .i64 (.ofNat 0))))])
   (.block 0 (.loop (.seq (.reg [.p p11 (.bin .lss (.t p10) (.t p9))])
   (.seq (.cond (.t p11) .skip (.exit 0))
   (.seq (.block 1 (.seq (.reg [.p p12 (.iaddrS 1 (.t p8) (.t p10)),
   .p p13 (.load1 (.t p12)),
   .p p4 (.mv (.t p13))])
   (.seq (.seq (.reg [.p p14 (.mv (.t p4)),
   .p p15 (.bin .eql (.t p14) (.c (.str 0 0))),
   .p p16 (.mv (.t p15)),
   .g p17 (.mv (.t p4)) p16 false,
   .g p18 (.bin .eql (.t p17) (.c (.str 1 46))) p16 false,
   .p p19 (.pick (.t p16) (.c (.bool true)) (.t p18)),
   .p p20 (.mv (.t p19)),
   .g p21 (.mv (.t p4)) p20 false,
   .g p22 (.bin .eql (.t p21) (.c (.str 2 11822))) p20 false,
   .p p23 (.pick (.t p20) (.c (.bool true)) (.t p22))])
   (.cond (.t p23) (.seq (.reg [.p p2 (.mv (.c (.bool false)))])
   .ret) .skip))
   (.seq (.reg [.p p24 (.mv (.t p4)),
   .p p25 (.lenStr (.t p24)),
   .p p26 (.mv (.c (.int .i64 (.ofNat 0))))])
   (.block 2 (.loop (.seq (.reg [.p p27 (.bin .lss (.t p26) (.t p25))])
   (.seq (.cond (.t p27) .skip (.exit 2))
   (.seq (.block 3 (.seq (.reg [.p p28 (.mv (.t p26)),
   .p p5 (.mv (.t p28))])
   (.seq (.reg [.p p29 (.mv (.t p4)),
   .p p30 (.mv (.t p5)),
   .p p31 (.idxStr (.t p29) (.t p30)),
   .p p6 (.mv (.t p31))])
   (.seq (.reg [.p p32 (.mv (.t p6)),
   .p p33 (.bin .geq (.t p32) (.c (.int .u8 (.ofNat 97)))),
   .p p34 (.mv (.t p33)),
   .g p35 (.mv (.t p6)) p34 true,
   .g p36 (.bin .leq (.t p35) (.c (.int .u8 (.ofNat 122)))) p34 true,
   .p p37 (.pick (.t p34) (.t p36) (.c (.bool false))),
   .p p38 (.mv (.t p37)),
   .g p39 (.mv (.t p6)) p38 false,
   .g p40 (.bin .geq (.t p39) (.c (.int .u8 (.ofNat 65)))) p38 false,
   .g p41 (.mv (.t p40)) p38 false,
   .g p42 (.mv (.t p6)) p41 true,
   .g p43 (.bin .leq (.t p42) (.c (.int .u8 (.ofNat 90)))) p41 true,
   .g p44 (.pick (.t p41) (.t p43) (.c (.bool false))) p38 false,
   .p p45 (.pick (.t p38) (.c (.bool true)) (.t p44)),
   .p p46 (.mv (.t p45)),
   .g p47 (.mv (.t p6)) p46 false,
   .g p48 (.bin .geq (.t p47) (.c (.int .u8 (.ofNat 48)))) p46 false,
   .g p49 (.mv (.t p48)) p46 false,
   .g p50 (.mv (.t p6)) p49 true,
   .g p51 (.bin .leq (.t p50) (.c (.int .u8 (.ofNat 57)))) p49 true,
   .g p52 (.pick (.t p49) (.t p51) (.c (.bool false))) p46 false,
   .p p53 (.pick (.t p46) (.c (.bool true)) (.t p52)),
   .p p54 (.mv (.t p53)),
   .g p55 (.mv (.t p6)) p54 false,
   .g p56 (.bin .eql (.t p55) (.c (.int .u8 (.ofNat 45)))) p54 false,
   .p p57 (.pick (.t p54) (.c (.bool true)) (.t p56)),
   .p p58 (.mv (.t p57)),
   .g p59 (.mv (.t p6)) p58 false,
   .g p60 (.bin .eql (.t p59) (.c (.int .u8 (.ofNat 95)))) p58 false,
   .p p61 (.pick (.t p58) (.c (.bool true)) (.t p60)),
   .p p62 (.mv (.t p61)),
   .g p63 (.mv (.t p6)) p62 false,
   .g p64 (.bin .eql (.t p63) (.c (.int .u8 (.ofNat 46)))) p62 false,
   .p p65 (.pick (.t p62) (.c (.bool true)) (.t p64)),
   .p p66 (.not (.t p65))])
   (.cond (.t p66) (.seq (.reg [.p p2 (.mv (.c (.bool false)))])
   .ret) .skip)))))
   (.reg [.p p67 (.bin .add (.t p26) (.c (.int .i64 (.ofNat 1)))),
   .p p26 (.mv (.t p67))]))))))))))
   (.reg [.p p68 (.bin .add (.t p10) (.c (.int .i64 (.ofNat 1)))),
   .p p10 (.mv (.t p68))])))))))
   (.seq (.reg [.p p69 (.mv (.t p0)),
   .p p70 (.lenStr (.t p69)),
   .p p71 (.bin .leq (.t p70) (.c (.int .i64 (.ofNat 48)))),
   .p p2 (.mv (.t p71))])
   .ret)))
   [.t p2]
/- bastion/desc.plain -/
def a64 : AF :=
  .code [p0] (.seq (.reg [.p p2 (.mv (.c (.bool false)))])
   (.seq (.reg [.p p5 (.mv (.t p0)),
   .p p6 (.bin .neq (.t p5) (.c (.str 0 0))),
   .p p7 (.mv (.t p6)),
   .g p8 (.mv (.t p0)) p7 true,
   .g p9 (.lenStr (.t p8)) p7 true,
   .g p10 (.bin .leq (.t p9) (.c (.int .i64 (.ofNat 64)))) p7 true,
   .p p11 (.pick (.t p7) (.t p10) (.c (.bool false))),
   .p p3 (.mv (.t p11))])
   (.seq (.seq (.reg [.p p12 (.mv (.t p0)),
   .p p13 (.lenStr (.t p12)),
   .p p14 (.mv (.c (.int .i64 (.ofNat 0))))])
   (.block 0 (.loop (.seq (.reg [.p p15 (.bin .lss (.t p14) (.t p13))])
   (.seq (.cond (.t p15) .skip (.exit 0))
   (.seq (.block 1 (.seq (.reg [.p p16 (.mv (.t p14)),
   .p p4 (.mv (.t p16))])
   (.reg [.p p17 (.mv (.t p3)),
   .p p18 (.mv (.t p17)),
   .g p19 (.mv (.t p0)) p18 true,
   .g p20 (.mv (.t p4)) p18 true,
   .g p21 (.idxStr (.t p19) (.t p20)) p18 true,
   .g p22 (.bin .geq (.t p21) (.c (.int .u8 (.ofNat 33)))) p18 true,
   .p p23 (.pick (.t p18) (.t p22) (.c (.bool false))),
   .p p24 (.mv (.t p23)),
   .g p25 (.mv (.t p0)) p24 true,
   .g p26 (.mv (.t p4)) p24 true,
   .g p27 (.idxStr (.t p25) (.t p26)) p24 true,
   .g p28 (.bin .leq (.t p27) (.c (.int .u8 (.ofNat 126)))) p24 true,
   .p p29 (.pick (.t p24) (.t p28) (.c (.bool false))),
   .p p3 (.mv (.t p29))])))
   (.reg [.p p30 (.bin .add (.t p14) (.c (.int .i64 (.ofNat 1)))),
   .p p14 (.mv (.t p30))])))))))
   (.seq (.reg [.p p31 (.mv (.t p3)),
   .p p2 (.mv (.t p31))])
   .ret))))
   [.t p2]
/- strings.genSplit -/
def a65 : AF :=
  .code [p0, p1, p2, p3] (.seq (.reg [.p p8 (.mv (.c (.nils)))])
   (.seq (.seq (.reg [.p p12 (.mv (.t p3)),
   .p p13 (.bin .eql (.t p12) (.c (.int .i64 (.ofNat 0))))])
   (.cond (.t p13) (.seq (.reg [.p p8 (.mv (.c (.nils)))])
   .ret) .skip))
   (.seq (.seq (.reg [.p p14 (.mv (.t p1)),
   .p p15 (.bin .eql (.t p14) (.c (.str 0 0)))])
   (.cond (.t p15) (.seq (.reg [.p p16 (.mv (.t p0)),
   .p p17 (.mv (.t p3)),
   .p p18 (.call 75 [(.t p16), (.t p17)]),
   .p p8 (.mv (.t p18))])
   .ret) .skip))
   (.seq (.seq (.reg [.p p19 (.mv (.t p3)),
   .p p20 (.bin .lss (.t p19) (.c (.int .i64 (.ofNat 0))))])
   (.cond (.t p20) (.reg [.p p21 (.mv (.t p0)),
   .p p22 (.mv (.t p1)),
   .p p23 (.call 76 [(.t p21), (.t p22)]),
   .p p24 (.bin .add (.t p23) (.c (.int .i64 (.ofNat 1)))),
   .p p3 (.mv (.t p24))]) .skip))
   (.seq (.reg [.p p25 (.mv (.t p3)),
   .p p26 (.mv (.t p0)),
   .p p27 (.lenStr (.t p26)),
   .p p28 (.bin .add (.t p27) (.c (.int .i64 (.ofNat 1)))),
   .p p29 (.min (.t p25) (.t p28)),
   .p p3 (.mv (.t p29))])
   (.seq (.reg [.p p30 (.mv (.t p3)),
   .p p31 (.mkslice 9 1 16 [.str 0 0] (.t p30) (.t p30)),
   .p p9 (.mv (.t p31))])
   (.seq (.reg [.p p32 (.mv (.t p3)),
   .p p33 (.bin .sub (.t p32) (.c (.int .i64 (.ofNat 1)))),
   .p p3 (.mv (.t p33))])
   (.seq (.reg [.p p10 (.mv (.c (.int .i64 (.ofNat 0))))])
   (.seq (.block 0 (.loop (.seq (.seq (.reg [.p p34 (.mv (.t p10)),
   .p p35 (.mv (.t p3)),
   .p p36 (.bin .lss (.t p34) (.t p35))])
   (.cond (.t p36) .skip (.exit 0)))
   (.block 1 (.seq (.reg [.p p37 (.mv (.t p0)),
   .p p38 (.mv (.t p1)),
   .p p39 (.call 77 [(.t p37), (.t p38)]),
   .p p11 (.mv (.t p39))])
   (.seq (.seq (.reg [.p p40 (.mv (.t p11)),
   .p p41 (.bin .lss (.t p40) (.c (.int .i64 (.ofNat 0))))])
   (.cond (.t p41) (.exit 0) .skip))
   (.seq (.reg [.p p42 (.mv (.t p9)),
   .p p43 (.mv (.t p10)),
   .p p44 (.mv (.t p0)),
   .p p45 (.mv (.t p11)),
   .p p46 (.mv (.t p2)),
   .p p47 (.bin .add (.t p45) (.t p46)),
   .p p48 (.sliceStr (.t p44) none (some (.t p47))),
   .p p49 (.iaddrS 1 (.t p42) (.t p43)),
   .n (.store 1 (.t p49) (.t p48))])
   (.seq (.reg [.p p50 (.mv (.t p0)),
   .p p51 (.mv (.t p11)),
   .p p52 (.mv (.t p1)),
   .p p53 (.lenStr (.t p52)),
   .p p54 (.bin .add (.t p51) (.t p53)),
   .p p55 (.sliceStr (.t p50) (some (.t p54)) none),
   .p p0 (.mv (.t p55))])
   (.reg [.p p56 (.mv (.t p10)),
   .p p57 (.bin .add (.t p56) (.c (.int .i64 (.ofNat 1)))),
   .p p10 (.mv (.t p57))])))))))))
   (.seq (.reg [.p p58 (.mv (.t p9)),
   .p p59 (.mv (.t p10)),
   .p p60 (.mv (.t p0)),
   .p p61 (.iaddrS 1 (.t p58) (.t p59)),
   .n (.store 1 (.t p61) (.t p60))])
   (.seq (.reg [.p p62 (.mv (.t p9)),
   .p p63 (.mv (.t p10)),
   .p p64 (.bin .add (.t p63) (.c (.int .i64 (.ofNat 1)))),
   .p p65 (.sliceS 1 (.t p62) none (some (.t p64)) none),
   .p p8 (.mv (.t p65))])
   .ret)))))))))))
   [.t p8]
/- strings.TrimLeft -/
def a66 : AF :=
  .code [p0, p1] (.seq (.reg [.p p4 (.mv (.c (.str 0 0)))])
   (.seq (.seq (.reg [.p p7 (.mv (.t p0)),
   .p p8 (.bin .eql (.t p7) (.c (.str 0 0))),
   .p p9 (.mv (.t p8)),
   .g p10 (.mv (.t p1)) p9 false,
   .g p11 (.bin .eql (.t p10) (.c (.str 0 0))) p9 false,
   .p p12 (.pick (.t p9) (.c (.bool true)) (.t p11))])
   (.cond (.t p12) (.seq (.reg [.p p13 (.mv (.t p0)),
   .p p4 (.mv (.t p13))])
   .ret) .skip))
   (.seq (.seq (.reg [.p p14 (.mv (.t p1)),
   .p p15 (.lenStr (.t p14)),
   .p p16 (.bin .eql (.t p15) (.c (.int .i64 (.ofNat 1)))),
   .p p17 (.mv (.t p16)),
   .g p18 (.mv (.t p1)) p17 true,
   .g p19 (.idxStr (.t p18) (.c (.int .i64 (.ofNat 0)))) p17 true,
   .g p20 (.bin .lss (.t p19) (.c (.int .u8 (.ofNat 128)))) p17 true,
   .p p21 (.pick (.t p17) (.t p20) (.c (.bool false)))])
   (.cond (.t p21) (.seq (.reg [.p p22 (.mv (.t p0)),
   .p p23 (.mv (.t p1)),
   .p p24 (.idxStr (.t p23) (.c (.int .i64 (.ofNat 0)))),
   .p p25 (.call 78 [(.t p22), (.t p24)]),
   .p p4 (.mv (.t p25))])
   .ret) .skip))
   (.seq (.seq (.reg [.p p27 (.mv (.t p1)),
   .p p28 (.call 79 [(.t p27)]),
   .p p26 (.mv (.t p28)),
   .p p29 (.extract 0 (.t p26)),
   .p p30 (.extract 1 (.t p26)),
   .p p5 (.alloc 149 [.bool false, .bool false, .bool false, .bool false, .bool false, .bool false, .bool false, .bool false, .bool false, .bool false, .bool false, .bool false, .bool false, .bool false, .bool false, .bool false, .bool false, .bool false, .bool false, .bool false, .bool false, .bool false, .bool false, .bool false, .bool false, .bool false, .bool false, .bool false, .bool false, .bool false, .bool false, .bool false, .bool false, .bool false, .bool false, .bool false, .bool false, .bool false, .bool false, .bool false, .bool false, .bool false, .bool false, .bool false, .bool false, .bool false, .bool false, .bool false, .bool false, .bool false, .bool false, .bool false, .bool false, .bool false, .bool false, .bool false, .bool false, .bool false, .bool false, .bool false, .bool false, .bool false, .bool false, .bool false, .bool false, .bool false, .bool false, .bool false, .bool false, .bool false, .bool false, .bool false, .bool false, .bool false, .bool false, .bool false, .bool false, .bool false, .bool false, .bool false, .bool false, .bool false, .bool false, .bool false, .bool false, .bool false, .bool false, .bool false, .bool false, .bool false, .bool false, .bool false, .bool false, .bool false, .bool false, .bool false, .bool false, .bool false, .bool false, .bool false, .bool false, .bool false, .bool false, .bool false, .bool false, .bool false, .bool false, .bool false, .bool false, .bool false, .bool false, .bool false, .bool false, .bool false, .bool false, .bool false, .bool false, .bool false, .bool false, .bool false, .bool false, .bool false, .bool false, .bool false, .bool false, .bool false, .bool false, .bool false, .bool false, .bool false, .bool false, .bool false, .bool false, .bool false, .bool false, .bool false, .bool false, .bool false, .bool false, .bool false, .bool false, .bool false, .bool false, .bool false, .bool false, .bool false, .bool false, .bool false, .bool false, .bool false, .bool false, .bool false, .bool false, .bool false, .bool false, .bool false, .bool false, .bool false, .bool false, .bool false, .bool false, .bool false, .bool false, .bool false, .bool false, .bool false, .bool false, .bool false, .bool false, .bool false, .bool false, .bool false, .bool false, .bool false, .bool false, .bool false, .bool false, .bool false, .bool false, .bool false, .bool false, .bool false, .bool false, .bool false, .bool false, .bool false, .bool false, .bool false, .bool false, .bool false, .bool false, .bool false, .bool false, .bool false, .bool false, .bool false, .bool false, .bool false, .bool false, .bool false, .bool false, .bool false, .bool false, .bool false, .bool false, .bool false, .bool false, .bool false, .bool false, .bool false, .bool false, .bool false, .bool false, .bool false, .bool false, .bool false, .bool false, .bool false, .bool false, .bool false, .bool false, .bool false, .bool false, .bool false, .bool false, .bool false, .bool false, .bool false, .bool false, .bool false, .bool false, .bool false, .bool false, .bool false, .bool false, .bool false, .bool false, .bool false, .bool false, .bool false, .bool false, .bool false, .bool false, .bool false, .bool false, .bool false, .bool false, .bool false, .bool false, .bool false, .bool false, .bool false, .bool false, .bool false, .bool false, .bool false]),
   .n (.store 256 (.t p5) (.t p29)),
   .p p6 (.mv (.t p30))])
   (.seq (.reg [.p p31 (.mv (.t p6))])
   (.cond (.t p31) (.seq (.reg [.p p32 (.mv (.t p0)),
   .p p33 (.call 80 [(.t p32), (.t p5)]),
   .p p4 (.mv (.t p33))])
   .ret) .skip)))
   (.seq (.reg [.p p34 (.mv (.t p0)),
   .p p35 (.mv (.t p1)),
   .p p36 (.call 81 [(.t p34), (.t p35)]),
   .p p4 (.mv (.t p36))])
   .ret)))))
   [.t p4]
/- strings.Contains -/
def a67 : AF :=
  .code [p0, p1] (.seq (.reg [.p p4 (.mv (.c (.bool false)))])
   (.seq (.reg [.p p5 (.mv (.t p0)),
   .p p6 (.mv (.t p1)),
   .p p7 (.call 77 [(.t p5), (.t p6)]),
   .p p8 (.bin .geq (.t p7) (.c (.int .i64 (.ofNat 0)))),
   .p p4 (.mv (.t p8))])
   .ret))
   [.t p4]
/- bastion/words.quoted -/
def a68 : AF :=
  .code [p0] (.seq (.reg [.p p2 (.mv (.c (.str 0 0))),
   .p p3 (.mv (.c (.str 0 0))),
   .p p4 (.mv (.c (.bool false)))])
   (.seq (.reg [.p p5 (.alloc 54 [.nilp, .nils])])
   (.seq (.reg [.p p12 (.call 82 []),
   .p p6 (.mv (.t p12))])
   (.seq (.block 0 (.loop (.seq (.seq (.reg [.p p13 (.mv (.t p0)),
   .p p14 (.bin .neq (.t p13) (.c (.str 0 0)))])
   (.cond (.t p14) .skip (.exit 0)))
   (.block 1 (.seq (.reg [.p p15 (.mv (.t p0)),
   .p p16 (.idxStr (.t p15) (.c (.int .i64 (.ofNat 0)))),
   .p p7 (.mv (.t p16))])
   (.seq (.reg [.p p17 (.mv (.t p0)),
   .p p18 (.sliceStr (.t p17) (some (.c (.int .i64 (.ofNat 1)))) none),
   .p p0 (.mv (.t p18))])
   (.block 2 (.seq (.reg [.p p22 (.mv (.t p7)),
   .p p23 (.bin .eql (.t p22) (.c (.int .u8 (.ofNat 34)))),
   .p p21 (.mv (.t p23))])
   (.cond (.t p21) (.seq (.reg [.p p24 (.call 19 [(.t p5)]),
   .p p25 (.mv (.t p0)),
   .p p2 (.mv (.t p24)),
   .p p3 (.mv (.t p25)),
   .p p4 (.mv (.c (.bool true)))])
   .ret) (.seq (.reg [.p p27 (.mv (.t p7)),
   .p p28 (.bin .eql (.t p27) (.c (.int .u8 (.ofNat 92)))),
   .p p26 (.mv (.t p28))])
   (.cond (.t p26) (.seq (.seq (.reg [.p p29 (.mv (.t p0)),
   .p p30 (.bin .eql (.t p29) (.c (.str 0 0)))])
   (.cond (.t p30) (.seq (.reg [.p p2 (.mv (.c (.str 0 0))),
   .p p3 (.mv (.c (.str 0 0))),
   .p p4 (.mv (.c (.bool false)))])
   .ret) .skip))
   (.seq (.dreg [(.p p31 (.mv (.t p0)), 0), (.p p32 (.idxStr (.t p31) (.c (.int .i64 (.ofNat 0)))), 1), (.p p33 (.mv (.t p0)), 0), (.p p34 (.sliceStr (.t p33) (some (.c (.int .i64 (.ofNat 1)))) none), 4), (.p p7 (.mv (.t p32)), 3), (.p p0 (.mv (.t p34)), 31)])
   (.seq (.seq (.reg [.p p35 (.mv (.t p7)),
   .p p36 (.bin .eql (.t p35) (.c (.int .u8 (.ofNat 120))))])
   (.cond (.t p36) (.seq (.seq (.reg [.p p37 (.mv (.t p0)),
   .p p38 (.lenStr (.t p37)),
   .p p39 (.bin .lss (.t p38) (.c (.int .i64 (.ofNat 2))))])
   (.cond (.t p39) (.seq (.reg [.p p2 (.mv (.c (.str 0 0))),
   .p p3 (.mv (.c (.str 0 0))),
   .p p4 (.mv (.c (.bool false)))])
   .ret) .skip))
   (.seq (.dreg [(.p p40 (.mv (.t p0)), 0), (.p p41 (.idxStr (.t p40) (.c (.int .i64 (.ofNat 0)))), 1), (.p p42 (.call 83 [(.c (.str 16 136107713667768957684761770045455085872)), (.t p41)]), 3), (.p p43 (.mv (.t p0)), 0), (.p p44 (.idxStr (.t p43) (.c (.int .i64 (.ofNat 1)))), 8), (.p p45 (.call 83 [(.c (.str 16 136107713667768957684761770045455085872)), (.t p44)]), 31), (.p p8 (.mv (.t p42)), 63), (.p p9 (.mv (.t p45)), 127)])
   (.seq (.seq (.reg [.p p46 (.mv (.t p8)),
   .p p47 (.bin .lss (.t p46) (.c (.int .i64 (.ofNat 0)))),
   .p p48 (.mv (.t p47)),
   .g p49 (.mv (.t p9)) p48 false,
   .g p50 (.bin .lss (.t p49) (.c (.int .i64 (.ofNat 0)))) p48 false,
   .p p51 (.pick (.t p48) (.c (.bool true)) (.t p50))])
   (.cond (.t p51) (.seq (.reg [.p p2 (.mv (.c (.str 0 0))),
   .p p3 (.mv (.c (.str 0 0))),
   .p p4 (.mv (.c (.bool false)))])
   .ret) .skip))
   (.seq (.reg [.p p52 (.mv (.t p8)),
   .p p53 (.shf true (.t p52) (.c (.int .u64 (.ofNat 4)))),
   .p p54 (.mv (.t p9)),
   .p p55 (.bin .or (.t p53) (.t p54)),
   .p p56 (.convI .u8 (.t p55)),
   .p p57 (.call 16 [(.t p5), (.t p56)])])
   (.seq (.reg [.p p58 (.mv (.t p0)),
   .p p59 (.sliceStr (.t p58) (some (.c (.int .i64 (.ofNat 2)))) none),
   .p p0 (.mv (.t p59))])
   (.exit 1)))))) .skip))
   (.seq (.reg [.p p61 (.mv (.t p6)),
   .p p62 (.mv (.t p7)),
   .p p63 (.lookup .int true (.int .u8 (.ofNat 0)) (.t p61) (.t p62)),
   .p p60 (.mv (.t p63)),
   .p p64 (.extract 0 (.t p60)),
   .p p65 (.extract 1 (.t p60)),
   .p p10 (.mv (.t p64)),
   .p p11 (.mv (.t p65))])
   (.seq (.seq (.reg [.p p66 (.mv (.t p11)),
   .p p67 (.not (.t p66))])
   (.cond (.t p67) (.seq (.reg [.p p2 (.mv (.c (.str 0 0))),
   .p p3 (.mv (.c (.str 0 0))),
   .p p4 (.mv (.c (.bool false)))])
   .ret) .skip))
   (.reg [.p p68 (.mv (.t p10)),
   .p p69 (.call 16 [(.t p5), (.t p68)])])))))) (.seq (.reg [.p p71 (.mv (.t p7)),
   .p p72 (.bin .lss (.t p71) (.c (.int .u8 (.ofNat 32)))),
   .p p73 (.mv (.t p72)),
   .g p74 (.mv (.t p7)) p73 false,
   .g p75 (.bin .gtr (.t p74) (.c (.int .u8 (.ofNat 126)))) p73 false,
   .p p76 (.pick (.t p73) (.c (.bool true)) (.t p75)),
   .p p70 (.mv (.t p76))])
   (.cond (.t p70) (.seq (.reg [.p p2 (.mv (.c (.str 0 0))),
   .p p3 (.mv (.c (.str 0 0))),
   .p p4 (.mv (.c (.bool false)))])
   .ret) (.reg [.p p19 (.mv (.t p7)),
   .p p20 (.call 16 [(.t p5), (.t p19)])]))))))))))))))
   (.seq (.reg [.p p2 (.mv (.c (.str 0 0))),
   .p p3 (.mv (.c (.str 0 0))),
   .p p4 (.mv (.c (.bool false)))])
   .ret)))))
   [.t p2, .t p3, .t p4]
/- bastion/words.plain -/
def a69 : AF :=
  .code [p0] (.seq (.reg [.p p2 (.mv (.c (.bool false)))])
   (.seq (.reg [.p p3 (.mv (.t p0)),
   .p p4 (.bin .geq (.t p3) (.c (.int .u8 (.ofNat 33)))),
   .p p5 (.mv (.t p4)),
   .g p6 (.mv (.t p0)) p5 true,
   .g p7 (.bin .leq (.t p6) (.c (.int .u8 (.ofNat 126)))) p5 true,
   .p p8 (.pick (.t p5) (.t p7) (.c (.bool false))),
   .p p9 (.mv (.t p8)),
   .g p10 (.mv (.t p0)) p9 true,
   .g p11 (.bin .neq (.t p10) (.c (.int .u8 (.ofNat 34)))) p9 true,
   .p p12 (.pick (.t p9) (.t p11) (.c (.bool false))),
   .p p2 (.mv (.t p12))])
   .ret))
   [.t p2]
/- (*bastion/desc.Doc).section -/
def a70 : AF :=
  .code [p0, p1, p2, p3] (.seq (.reg [.p p8 (.mv (.c (.nili)))])
   (.seq (.seq (.reg [.p p12 (.mv (.t p3)),
   .p p13 (.lenSlc (.t p12)),
   .p p14 (.bin .neq (.t p13) (.c (.int .i64 (.ofNat 1))))])
   (.cond (.t p14) (.seq (.reg [.p p15 (.mkif 27 (.c (.int .i64 (.ofNat 4)))),
   .p p8 (.mv (.t p15))])
   .ret) .skip))
   (.seq (.seq (.reg [.p p16 (.mv (.t p3)),
   .p p17 (.iaddrS 1 (.t p16) (.c (.int .i64 (.ofNat 0)))),
   .p p18 (.load1 (.t p17)),
   .p p19 (.call 84 [(.t p18)]),
   .p p20 (.not (.t p19))])
   (.cond (.t p20) (.seq (.reg [.p p21 (.mkif 27 (.c (.int .i64 (.ofNat 63)))),
   .p p8 (.mv (.t p21))])
   .ret) .skip))
   (.seq (.reg [.p p9 (.mv (.c (.int .i64 (.ofNat 0))))])
   (.seq (.seq (.reg [.p p22 (.mv (.t p0)),
   .p p23 (.nilck (.t p22)),
   .p p24 (.faddr 1 (.t p23)),
   .p p25 (.load1 (.t p24)),
   .p p26 (.lenSlc (.t p25)),
   .p p27 (.mv (.c (.int .i64 (.ofNat 0))))])
   (.block 0 (.loop (.seq (.reg [.p p28 (.bin .lss (.t p27) (.t p26))])
   (.seq (.cond (.t p28) .skip (.exit 0))
   (.seq (.block 1 (.seq (.reg [.p p29 (.iaddrS 4 (.t p25) (.t p27)),
   .p p30 (.loadn 4 (.t p29)),
   .p p11 (.alloc 85 [.int .i64 (.ofNat 0), .int .u8 (.ofNat 0), .str 0 0, .nils]),
   .n (.store 4 (.t p11) (.t p30))])
   (.seq (.reg [.p p31 (.faddr 1 (.t p11)),
   .p p32 (.load1 (.t p31)),
   .p p33 (.mv (.t p2)),
   .p p34 (.bin .eql (.t p32) (.t p33))])
   (.cond (.t p34) (.seq (.reg [.p p35 (.mv (.t p9)),
   .p p36 (.bin .add (.t p35) (.c (.int .i64 (.ofNat 1)))),
   .p p9 (.mv (.t p36))])
   (.seq (.dreg [(.p p37 (.faddr 2 (.t p11)), 0), (.p p38 (.load1 (.t p37)), 1), (.p p39 (.mv (.t p3)), 0), (.p p40 (.iaddrS 1 (.t p39) (.c (.int .i64 (.ofNat 0)))), 4), (.p p41 (.load1 (.t p40)), 12), (.p p42 (.bin .eql (.t p38) (.t p41)), 31)])
   (.cond (.t p42) (.seq (.reg [.p p43 (.mkif 27 (.c (.int .i64 (.ofNat 6)))),
   .p p8 (.mv (.t p43))])
   .ret) .skip))) .skip))))
   (.reg [.p p44 (.bin .add (.t p27) (.c (.int .i64 (.ofNat 1)))),
   .p p27 (.mv (.t p44))])))))))
   (.seq (.seq (.reg [.p p45 (.mv (.t p9)),
   .p p46 (.bin .geq (.t p45) (.c (.int .i64 (.ofNat 24))))])
   (.cond (.t p46) (.seq (.reg [.p p47 (.mkif 27 (.c (.int .i64 (.ofNat 3)))),
   .p p8 (.mv (.t p47))])
   .ret) .skip))
   (.seq (.dreg [(.p p48 (.mv (.t p0)), 0), (.p p49 (.mv (.t p0)), 0), (.p p50 (.nilck (.t p49)), 2), (.p p51 (.faddr 1 (.t p50)), 6), (.p p52 (.load1 (.t p51)), 14), (.p p53 (.mv (.t p1)), 0), (.p p54 (.mv (.t p2)), 0), (.p p55 (.mv (.t p3)), 0), (.p p56 (.iaddrS 1 (.t p55) (.c (.int .i64 (.ofNat 0)))), 128), (.p p57 (.load1 (.t p56)), 384), (.p p58 (.build [([], 1, (.t p53)), ([], 1, (.t p54)), ([], 1, (.t p57))] [.nils]), 992), (.p p59 (.bslice 85 1 4 [([], 4, (.t p58))] []), 2016), (.p p60 (.append 85 4 56 (.t p52) (.t p59)), 4094), (.p p61 (.nilck (.t p48)), 8191), (.p p62 (.faddr 1 (.t p61)), 16383), (.n (.store 1 (.t p62) (.t p60)), 32767)])
   (.seq (.reg [.p p8 (.mv (.c (.nili)))])
   .ret))))))))
   [.t p8]
/- (bastion/desc.rule).check -/
def a71 : AF :=
  .code [p0, p1, p2, p3] (.seq (.reg [.p p4 (.box 132 (.t p0)),
   .p p7 (.box 49 (.t p3)),
   .p p8 (.mv (.c (.nili)))])
   (.seq (.reg [.p p18 (.faddr 2 (.t p7)),
   .p p19 (.load1 (.t p18)),
   .p p20 (.lenSlc (.t p19)),
   .p p9 (.mv (.t p20))])
   (.seq (.seq (.reg [.p p21 (.faddr 0 (.t p4)),
   .p p22 (.load1 (.t p21)),
   .p p23 (.eq false .fn (.t p22) (.c (.nilf))),
   .p p24 (.mv (.t p23)),
   .g p25 (.faddr 0 (.t p4)) p24 false,
   .g p26 (.load1 (.t p25)) p24 false,
   .g p27 (.mv (.t p1)) p24 false,
   .g p28 (.mv (.t p2)) p24 false,
   .g p29 (.lenSlc (.t p28)) p24 false,
   .g p30 (.bin .eql (.t p29) (.c (.int .i64 (.ofNat 0)))) p24 false,
   .g p31 (.callv (.t p26) [(.t p27), (.t p30)]) p24 false,
   .g p32 (.not (.t p31)) p24 false,
   .p p33 (.pick (.t p24) (.c (.bool true)) (.t p32)),
   .p p34 (.mv (.t p33)),
   .g p35 (.mv (.t p9)) p34 false,
   .g p36 (.faddr 1 (.t p4)) p34 false,
   .g p37 (.load1 (.t p36)) p34 false,
   .g p38 (.bin .lss (.t p35) (.t p37)) p34 false,
   .p p39 (.pick (.t p34) (.c (.bool true)) (.t p38)),
   .p p40 (.mv (.t p39)),
   .g p41 (.mv (.t p9)) p40 false,
   .g p42 (.faddr 2 (.t p4)) p40 false,
   .g p43 (.load1 (.t p42)) p40 false,
   .g p44 (.bin .gtr (.t p41) (.t p43)) p40 false,
   .p p45 (.pick (.t p40) (.c (.bool true)) (.t p44))])
   (.cond (.t p45) (.seq (.reg [.p p46 (.mkif 27 (.c (.int .i64 (.ofNat 4)))),
   .p p8 (.mv (.t p46))])
   .ret) .skip))
   (.seq (.seq (.reg [.p p47 (.faddr 2 (.t p7)),
   .p p48 (.load1 (.t p47)),
   .p p49 (.lenSlc (.t p48)),
   .p p50 (.mv (.c (.int .i64 (.ofNat 0))))])
   (.block 0 (.loop (.seq (.reg [.p p51 (.bin .lss (.t p50) (.t p49))])
   (.seq (.cond (.t p51) .skip (.exit 0))
   (.seq (.block 1 (.seq (.reg [.p p52 (.mv (.t p50)),
   .p p53 (.iaddrS 1 (.t p48) (.t p50)),
   .p p54 (.load1 (.t p53)),
   .p p10 (.mv (.t p52)),
   .p p11 (.mv (.t p54))])
   (.seq (.reg [.p p55 (.faddr 3 (.t p4)),
   .p p56 (.load1 (.t p55)),
   .p p57 (.bin .lss (.t p56) (.c (.int .i64 (.ofNat 0)))),
   .p p58 (.mv (.t p57)),
   .g p59 (.mv (.t p10)) p58 false,
   .g p60 (.faddr 3 (.t p4)) p58 false,
   .g p61 (.load1 (.t p60)) p58 false,
   .g p62 (.bin .lss (.t p59) (.t p61)) p58 false,
   .p p63 (.pick (.t p58) (.c (.bool true)) (.t p62)),
   .p p64 (.mv (.t p63)),
   .g p65 (.mv (.t p11)) p64 true,
   .g p66 (.call 84 [(.t p65)]) p64 true,
   .g p67 (.not (.t p66)) p64 true,
   .p p68 (.pick (.t p64) (.t p67) (.c (.bool false)))])
   (.cond (.t p68) (.seq (.reg [.p p69 (.mkif 27 (.c (.int .i64 (.ofNat 63)))),
   .p p8 (.mv (.t p69))])
   .ret) .skip))))
   (.reg [.p p70 (.bin .add (.t p50) (.c (.int .i64 (.ofNat 1)))),
   .p p50 (.mv (.t p70))])))))))
   (.seq (.seq (.reg [.p p71 (.faddr 4 (.t p4)),
   .p p72 (.load1 (.t p71)),
   .p p73 (.eq true .fn (.t p72) (.c (.nilf)))])
   (.cond (.t p73) (.seq (.reg [.p p74 (.faddr 2 (.t p7)),
   .p p75 (.load1 (.t p74)),
   .p p76 (.faddr 3 (.t p4)),
   .p p77 (.load1 (.t p76)),
   .p p78 (.max (.c (.int .i64 (.ofNat 0))) (.t p77)),
   .p p79 (.sliceS 1 (.t p75) (some (.t p78)) none none),
   .p p80 (.lenSlc (.t p79)),
   .p p81 (.mv (.c (.int .i64 (.ofNat 0))))])
   (.block 2 (.loop (.seq (.reg [.p p82 (.bin .lss (.t p81) (.t p80))])
   (.seq (.cond (.t p82) .skip (.exit 2))
   (.seq (.block 3 (.seq (.reg [.p p83 (.iaddrS 1 (.t p79) (.t p81)),
   .p p84 (.load1 (.t p83)),
   .p p13 (.mv (.t p84))])
   (.seq (.reg [.p p85 (.faddr 4 (.t p4)),
   .p p86 (.load1 (.t p85)),
   .p p87 (.mv (.t p13)),
   .p p88 (.callv (.t p86) [(.t p87)]),
   .p p89 (.not (.t p88))])
   (.cond (.t p89) (.seq (.reg [.p p90 (.mkif 27 (.c (.int .i64 (.ofNat 4)))),
   .p p8 (.mv (.t p90))])
   .ret) .skip))))
   (.reg [.p p91 (.bin .add (.t p81) (.c (.int .i64 (.ofNat 1)))),
   .p p81 (.mv (.t p91))]))))))) .skip))
   (.seq (.seq (.reg [.p p92 (.faddr 5 (.t p4)),
   .p p93 (.load1 (.t p92)),
   .p p94 (.bin .gtr (.t p93) (.c (.int .i64 (.ofNat 0))))])
   (.cond (.t p94) (.seq (.reg [.p p96 (.faddr 2 (.t p7)),
   .p p97 (.load1 (.t p96)),
   .p p98 (.iaddrS 1 (.t p97) (.c (.int .i64 (.ofNat 0)))),
   .p p99 (.load1 (.t p98)),
   .p p100 (.call 85 [(.t p99)]),
   .p p95 (.mv (.t p100)),
   .p p101 (.extract 0 (.t p95)),
   .p p102 (.extract 1 (.t p95)),
   .p p14 (.mv (.t p101)),
   .p p15 (.mv (.t p102))])
   (.seq (.dreg [(.p p103 (.mv (.t p15)), 0), (.p p104 (.eq true (.ifc true [27, 190]) (.t p103) (.c (.nili))), 1), (.p p105 (.mv (.t p104)), 3), (.g p106 (.mv (.t p14)) p105 false, 7), (.g p107 (.call 86 [(.t p106)]) p105 false, 15), (.g p108 (.faddr 2 (.t p7)) p105 false, 7), (.g p109 (.load1 (.t p108)) p105 false, 39), (.g p110 (.iaddrS 1 (.t p109) (.c (.int .i64 (.ofNat 0)))) p105 false, 103), (.g p111 (.load1 (.t p110)) p105 false, 231), (.g p112 (.bin .neq (.t p107) (.t p111)) p105 false, 511), (.p p113 (.pick (.t p105) (.c (.bool true)) (.t p112)), 1023), (.p p114 (.mv (.t p113)), 2047), (.g p115 (.mv (.t p14)) p114 false, 4095), (.g p116 (.bin .lss (.t p115) (.c (.int .i64 (.ofNat 1)))) p114 false, 8191), (.p p117 (.pick (.t p114) (.c (.bool true)) (.t p116)), 16383), (.p p118 (.mv (.t p117)), 32767), (.g p119 (.mv (.t p14)) p118 false, 65535), (.g p120 (.faddr 5 (.t p4)) p118 false, 65535), (.g p121 (.load1 (.t p120)) p118 false, 196607), (.g p122 (.bin .gtr (.t p119) (.t p121)) p118 false, 524287), (.p p123 (.pick (.t p118) (.c (.bool true)) (.t p122)), 1048575)])
   (.cond (.t p123) (.seq (.reg [.p p124 (.mkif 27 (.c (.int .i64 (.ofNat 1)))),
   .p p8 (.mv (.t p124))])
   .ret) .skip))) .skip))
   (.seq (.seq (.reg [.p p125 (.mv (.t p2)),
   .p p126 (.lenSlc (.t p125)),
   .p p127 (.mv (.c (.int .i64 (.ofNat 0))))])
   (.block 4 (.loop (.seq (.reg [.p p128 (.bin .lss (.t p127) (.t p126))])
   (.seq (.cond (.t p128) .skip (.exit 4))
   (.seq (.block 5 (.seq (.reg [.p p129 (.iaddrS 3 (.t p125) (.t p127)),
   .p p130 (.loadn 3 (.t p129)),
   .p p17 (.alloc 49 [.int .i64 (.ofNat 0), .str 0 0, .nils]),
   .n (.store 3 (.t p17) (.t p130))])
   (.seq (.dreg [(.p p131 (.faddr 6 (.t p4)), 0), (.p p132 (.load1 (.t p131)), 1), (.p p133 (.mv (.t p132)), 3), (.g p134 (.faddr 1 (.t p17)) p133 true, 7), (.g p135 (.load1 (.t p134)) p133 true, 15), (.g p136 (.faddr 1 (.t p7)) p133 true, 7), (.g p137 (.load1 (.t p136)) p133 true, 39), (.g p138 (.bin .eql (.t p135) (.t p137)) p133 true, 127), (.p p139 (.pick (.t p133) (.t p138) (.c (.bool false))), 255), (.p p140 (.mv (.t p139)), 511), (.g p141 (.faddr 1 (.t p7)) p140 true, 1023), (.g p142 (.load1 (.t p141)) p140 true, 2047), (.g p143 (.bin .neq (.t p142) (.c (.str 4 1936291937))) p140 true, 4095), (.g p144 (.mv (.t p143)) p140 true, 8191), (.g p145 (.faddr 2 (.t p17)) p144 false, 16383), (.g p146 (.load1 (.t p145)) p144 false, 32767), (.g p147 (.iaddrS 1 (.t p146) (.c (.int .i64 (.ofNat 0)))) p144 false, 65535), (.g p148 (.load1 (.t p147)) p144 false, 131071), (.g p149 (.faddr 2 (.t p7)) p144 false, 16383), (.g p150 (.load1 (.t p149)) p144 false, 278527), (.g p151 (.iaddrS 1 (.t p150) (.c (.int .i64 (.ofNat 0)))) p144 false, 802815), (.g p152 (.load1 (.t p151)) p144 false, 1851391), (.g p153 (.bin .eql (.t p148) (.t p152)) p144 false, 4194303), (.g p154 (.pick (.t p144) (.c (.bool true)) (.t p153)) p140 true, 8388607), (.p p155 (.pick (.t p140) (.t p154) (.c (.bool false))), 16777215)])
   (.cond (.t p155) (.seq (.reg [.p p156 (.mkif 27 (.c (.int .i64 (.ofNat 6)))),
   .p p8 (.mv (.t p156))])
   .ret) .skip))))
   (.reg [.p p157 (.bin .add (.t p127) (.c (.int .i64 (.ofNat 1)))),
   .p p127 (.mv (.t p157))])))))))
   (.seq (.seq (.reg [.p p158 (.mv (.t p2)),
   .p p159 (.lenSlc (.t p158)),
   .p p160 (.bin .geq (.t p159) (.c (.int .i64 (.ofNat 40))))])
   (.cond (.t p160) (.seq (.reg [.p p161 (.mkif 27 (.c (.int .i64 (.ofNat 3)))),
   .p p8 (.mv (.t p161))])
   .ret) .skip))
   (.seq (.reg [.p p8 (.mv (.c (.nili)))])
   .ret)))))))))
   [.t p8]
/- errors.As -/ def a72 : AF := .asErr 27 143
/- strings.ContainsFunc -/
def a73 : AF :=
  .code [p0, p1] (.seq (.reg [.p p4 (.mv (.c (.bool false)))])
   (.seq (.reg [.p p5 (.mv (.t p0)),
   .p p6 (.mv (.t p1)),
   .p p7 (.call 91 [(.t p5), (.t p6)]),
   .p p8 (.bin .geq (.t p7) (.c (.int .i64 (.ofNat 0)))),
   .p p4 (.mv (.t p8))])
   .ret))
   [.t p4]
/- bastion/glob.Check$1 -/
def a74 : AF :=
  .code [p0] (.seq (.reg [.p p2 (.mv (.c (.bool false)))])
   (.seq (.reg [.p p3 (.mv (.t p0)),
   .p p4 (.bin .lss (.t p3) (.c (.int .i32 (.ofNat 33)))),
   .p p5 (.mv (.t p4)),
   .g p6 (.mv (.t p0)) p5 false,
   .g p7 (.bin .gtr (.t p6) (.c (.int .i32 (.ofNat 126)))) p5 false,
   .p p8 (.pick (.t p5) (.c (.bool true)) (.t p7)),
   .p p2 (.mv (.t p8))])
   .ret))
   [.t p2]
/- strings.explode -/
def a75 : AF :=
  .code [p0, p1] (.seq (.reg [.p p4 (.mv (.c (.nils)))])
   (.seq (.reg [.p p10 (.mv (.t p0)),
   .p p11 (.call 92 [(.t p10)]),
   .p p5 (.mv (.t p11))])
   (.seq (.seq (.reg [.p p12 (.mv (.t p1)),
   .p p13 (.bin .lss (.t p12) (.c (.int .i64 (.ofNat 0)))),
   .p p14 (.mv (.t p13)),
   .g p15 (.mv (.t p1)) p14 false,
   .g p16 (.mv (.t p5)) p14 false,
   .g p17 (.bin .gtr (.t p15) (.t p16)) p14 false,
   .p p18 (.pick (.t p14) (.c (.bool true)) (.t p17))])
   (.cond (.t p18) (.reg [.p p19 (.mv (.t p5)),
   .p p1 (.mv (.t p19))]) .skip))
   (.seq (.reg [.p p20 (.mv (.t p1)),
   .p p21 (.mkslice 9 1 16 [.str 0 0] (.t p20) (.t p20)),
   .p p6 (.mv (.t p21))])
   (.seq (.seq (.reg [.p p7 (.mv (.c (.int .i64 (.ofNat 0))))])
   (.block 0 (.loop (.seq (.seq (.reg [.p p22 (.mv (.t p7)),
   .p p23 (.mv (.t p1)),
   .p p24 (.bin .sub (.t p23) (.c (.int .i64 (.ofNat 1)))),
   .p p25 (.bin .lss (.t p22) (.t p24))])
   (.cond (.t p25) .skip (.exit 0)))
   (.seq (.block 1 (.seq (.reg [.p p29 (.mv (.t p0)),
   .p p30 (.call 93 [(.t p29)]),
   .p p28 (.mv (.t p30)),
   .p p31 (.extract 0 (.t p28)),
   .p p32 (.extract 1 (.t p28)),
   .p p8 (.mv (.t p31)),
   .p p9 (.mv (.t p32))])
   (.seq (.reg [.p p33 (.mv (.t p6)),
   .p p34 (.mv (.t p7)),
   .p p35 (.mv (.t p0)),
   .p p36 (.mv (.t p9)),
   .p p37 (.sliceStr (.t p35) none (some (.t p36))),
   .p p38 (.iaddrS 1 (.t p33) (.t p34)),
   .n (.store 1 (.t p38) (.t p37))])
   (.reg [.p p39 (.mv (.t p0)),
   .p p40 (.mv (.t p9)),
   .p p41 (.sliceStr (.t p39) (some (.t p40)) none),
   .p p0 (.mv (.t p41))]))))
   (.reg [.p p26 (.mv (.t p7)),
   .p p27 (.bin .add (.t p26) (.c (.int .i64 (.ofNat 1)))),
   .p p7 (.mv (.t p27))]))))))
   (.seq (.seq (.reg [.p p42 (.mv (.t p1)),
   .p p43 (.bin .gtr (.t p42) (.c (.int .i64 (.ofNat 0))))])
   (.cond (.t p43) (.reg [.p p44 (.mv (.t p6)),
   .p p45 (.mv (.t p1)),
   .p p46 (.bin .sub (.t p45) (.c (.int .i64 (.ofNat 1)))),
   .p p47 (.mv (.t p0)),
   .p p48 (.iaddrS 1 (.t p44) (.t p46)),
   .n (.store 1 (.t p48) (.t p47))]) .skip))
   (.seq (.reg [.p p49 (.mv (.t p6)),
   .p p4 (.mv (.t p49))])
   .ret)))))))
   [.t p4]
/- strings.Count -/
def a76 : AF :=
  .code [p0, p1] (.seq (.reg [.p p4 (.mv (.c (.int .i64 (.ofNat 0))))])
   (.seq (.seq (.reg [.p p7 (.mv (.t p1)),
   .p p8 (.lenStr (.t p7)),
   .p p9 (.bin .eql (.t p8) (.c (.int .i64 (.ofNat 0))))])
   (.cond (.t p9) (.seq (.reg [.p p10 (.mv (.t p0)),
   .p p11 (.call 92 [(.t p10)]),
   .p p12 (.bin .add (.t p11) (.c (.int .i64 (.ofNat 1)))),
   .p p4 (.mv (.t p12))])
   .ret) .skip))
   (.seq (.seq (.reg [.p p13 (.mv (.t p1)),
   .p p14 (.lenStr (.t p13)),
   .p p15 (.bin .eql (.t p14) (.c (.int .i64 (.ofNat 1))))])
   (.cond (.t p15) (.seq (.reg [.p p16 (.mv (.t p0)),
   .p p17 (.mv (.t p1)),
   .p p18 (.idxStr (.t p17) (.c (.int .i64 (.ofNat 0)))),
   .p p19 (.call 94 [(.t p16), (.t p18)]),
   .p p4 (.mv (.t p19))])
   .ret) .skip))
   (.seq (.reg [.p p5 (.mv (.c (.int .i64 (.ofNat 0))))])
   (.block 0 (.loop (.block 1 (.seq (.reg [.p p20 (.mv (.t p0)),
   .p p21 (.mv (.t p1)),
   .p p22 (.call 77 [(.t p20), (.t p21)]),
   .p p6 (.mv (.t p22))])
   (.seq (.seq (.reg [.p p23 (.mv (.t p6)),
   .p p24 (.bin .eql (.t p23) (.c (.int .i64 (.negSucc 0))))])
   (.cond (.t p24) (.seq (.reg [.p p25 (.mv (.t p5)),
   .p p4 (.mv (.t p25))])
   .ret) .skip))
   (.seq (.reg [.p p26 (.mv (.t p5)),
   .p p27 (.bin .add (.t p26) (.c (.int .i64 (.ofNat 1)))),
   .p p5 (.mv (.t p27))])
   (.reg [.p p28 (.mv (.t p0)),
   .p p29 (.mv (.t p6)),
   .p p30 (.mv (.t p1)),
   .p p31 (.lenStr (.t p30)),
   .p p32 (.bin .add (.t p29) (.t p31)),
   .p p33 (.sliceStr (.t p28) (some (.t p32)) none),
   .p p0 (.mv (.t p33))])))))))))))
   [.t p4]
/- strings.Index -/
def a77 : AF :=
  .code [p0, p1] (.seq (.reg [.p p4 (.mv (.c (.int .i64 (.ofNat 0))))])
   (.seq (.reg [.p p5 (.mv (.t p0)),
   .p p6 (.mv (.t p1)),
   .p p7 (.call 37 [(.t p5), (.t p6)]),
   .p p4 (.mv (.t p7))])
   .ret))
   [.t p4]
/- strings.trimLeftByte -/
def a78 : AF :=
  .code [p0, p1] (.seq (.reg [.p p4 (.mv (.c (.str 0 0)))])
   (.seq (.block 0 (.loop (.seq (.seq (.reg [.p p5 (.mv (.t p0)),
   .p p6 (.lenStr (.t p5)),
   .p p7 (.bin .gtr (.t p6) (.c (.int .i64 (.ofNat 0)))),
   .p p8 (.mv (.t p7)),
   .g p9 (.mv (.t p0)) p8 true,
   .g p10 (.idxStr (.t p9) (.c (.int .i64 (.ofNat 0)))) p8 true,
   .g p11 (.mv (.t p1)) p8 true,
   .g p12 (.bin .eql (.t p10) (.t p11)) p8 true,
   .p p13 (.pick (.t p8) (.t p12) (.c (.bool false)))])
   (.cond (.t p13) .skip (.exit 0)))
   (.block 1 (.reg [.p p14 (.mv (.t p0)),
   .p p15 (.sliceStr (.t p14) (some (.c (.int .i64 (.ofNat 1)))) none),
   .p p0 (.mv (.t p15))])))))
   (.seq (.reg [.p p16 (.mv (.t p0)),
   .p p4 (.mv (.t p16))])
   .ret)))
   [.t p4]
/- strings.makeASCIISet -/
def a79 : AF :=
  .code [p0] (.seq (.reg [.p p2 (.alloc 149 [.bool false, .bool false, .bool false, .bool false, .bool false, .bool false, .bool false, .bool false, .bool false, .bool false, .bool false, .bool false, .bool false, .bool false, .bool false, .bool false, .bool false, .bool false, .bool false, .bool false, .bool false, .bool false, .bool false, .bool false, .bool false, .bool false, .bool false, .bool false, .bool false, .bool false, .bool false, .bool false, .bool false, .bool false, .bool false, .bool false, .bool false, .bool false, .bool false, .bool false, .bool false, .bool false, .bool false, .bool false, .bool false, .bool false, .bool false, .bool false, .bool false, .bool false, .bool false, .bool false, .bool false, .bool false, .bool false, .bool false, .bool false, .bool false, .bool false, .bool false, .bool false, .bool false, .bool false, .bool false, .bool false, .bool false, .bool false, .bool false, .bool false, .bool false, .bool false, .bool false, .bool false, .bool false, .bool false, .bool false, .bool false, .bool false, .bool false, .bool false, .bool false, .bool false, .bool false, .bool false, .bool false, .bool false, .bool false, .bool false, .bool false, .bool false, .bool false, .bool false, .bool false, .bool false, .bool false, .bool false, .bool false, .bool false, .bool false, .bool false, .bool false, .bool false, .bool false, .bool false, .bool false, .bool false, .bool false, .bool false, .bool false, .bool false, .bool false, .bool false, .bool false, .bool false, .bool false, .bool false, .bool false, .bool false, .bool false, .bool false, .bool false, .bool false, .bool false, .bool false, .bool false, .bool false, .bool false, .bool false, .bool false, .bool false, .bool false, .bool false, .bool false, .bool false, .bool false, .bool false, .bool false, .bool false, .bool false, .bool false, .bool false, .bool false, .bool false, .bool false, .bool false, .bool false, .bool false, .bool false, .bool false, .bool false, .bool false, .bool false, .bool false, .bool false, .bool false, .bool false, .bool false, .bool false, .bool false, .bool false, .bool false, .bool false, .bool false, .bool false, .bool false, .bool false, .bool false, .bool false, .bool false, .bool false, .bool false, .bool false, .bool false, .bool false, .bool false, .bool false, .bool false, .bool false, .bool false, .bool false, .bool false, .bool false, .bool false, .bool false, .bool false, .bool false, .bool false, .bool false, .bool false, .bool false, .bool false, .bool false, .bool false, .bool false, .bool false, .bool false, .bool false, .bool false, .bool false, .bool false, .bool false, .bool false, .bool false, .bool false, .bool false, .bool false, .bool false, .bool false, .bool false, .bool false, .bool false, .bool false, .bool false, .bool false, .bool false, .bool false, .bool false, .bool false, .bool false, .bool false, .bool false, .bool false, .bool false, .bool false, .bool false, .bool false, .bool false, .bool false, .bool false, .bool false, .bool false, .bool false, .bool false, .bool false, .bool false, .bool false, .bool false, .bool false, .bool false, .bool false, .bool false, .bool false, .bool false, .bool false, .bool false, .bool false, .bool false, .bool false, .bool false, .bool false, .bool false, .bool false, .bool false, .bool false, .bool false, .bool false]),
   .p p3 (.mv (.c (.bool false)))])
   (.seq (.seq (.reg [.p p4 (.mv (.c (.int .i64 (.ofNat 0))))])
   (.block 0 (.loop (.seq (.seq (.reg [.p p6 (.mv (.t p4)),
   .p p7 (.mv (.t p0)),
   .p p8 (.lenStr (.t p7)),
   .p p9 (.bin .lss (.t p6) (.t p8))])
   (.cond (.t p9) .skip (.exit 0)))
   (.seq (.block 1 (.seq (.reg [.p p12 (.mv (.t p0)),
   .p p13 (.mv (.t p4)),
   .p p14 (.idxStr (.t p12) (.t p13)),
   .p p5 (.mv (.t p14))])
   (.seq (.seq (.reg [.p p15 (.mv (.t p5)),
   .p p16 (.bin .geq (.t p15) (.c (.int .u8 (.ofNat 128))))])
   (.cond (.t p16) (.seq (.reg [.p p17 (.loadn 256 (.t p2)),
   .n (.store 256 (.t p2) (.t p17)),
   .p p3 (.mv (.c (.bool false)))])
   .ret) .skip))
   (.reg [.p p18 (.mv (.t p5)),
   .p p19 (.iaddrA 256 1 (.t p2) (.t p18)),
   .n (.store 1 (.t p19) (.c (.bool true)))]))))
   (.reg [.p p10 (.mv (.t p4)),
   .p p11 (.bin .add (.t p10) (.c (.int .i64 (.ofNat 1)))),
   .p p4 (.mv (.t p11))]))))))
   (.seq (.reg [.p p20 (.loadn 256 (.t p2)),
   .n (.store 256 (.t p2) (.t p20)),
   .p p3 (.mv (.c (.bool true)))])
   .ret)))
   [.cell p2 256, .t p3]
/- strings.trimLeftASCII -/
def a80 : AF :=
  .code [p0, p1] (.seq (.reg [.p p4 (.mv (.c (.str 0 0)))])
   (.seq (.block 0 (.loop (.seq (.seq (.reg [.p p5 (.mv (.t p0)),
   .p p6 (.lenStr (.t p5)),
   .p p7 (.bin .gtr (.t p6) (.c (.int .i64 (.ofNat 0))))])
   (.cond (.t p7) .skip (.exit 0)))
   (.block 1 (.seq (.seq (.reg [.p p8 (.mv (.t p1)),
   .p p9 (.mv (.t p0)),
   .p p10 (.idxStr (.t p9) (.c (.int .i64 (.ofNat 0)))),
   .p p11 (.call 95 [(.t p8), (.t p10)]),
   .p p12 (.not (.t p11))])
   (.cond (.t p12) (.exit 0) .skip))
   (.reg [.p p13 (.mv (.t p0)),
   .p p14 (.sliceStr (.t p13) (some (.c (.int .i64 (.ofNat 1)))) none),
   .p p0 (.mv (.t p14))]))))))
   (.seq (.reg [.p p15 (.mv (.t p0)),
   .p p4 (.mv (.t p15))])
   .ret)))
   [.t p4]
/- strings.trimLeftUnicode -/
def a81 : AF :=
  .code [p0, p1] (.seq (.reg [.p p4 (.mv (.c (.str 0 0)))])
   (.seq (.block 0 (.loop (.seq (.seq (.reg [.p p7 (.mv (.t p0)),
   .p p8 (.lenStr (.t p7)),
   .p p9 (.bin .gtr (.t p8) (.c (.int .i64 (.ofNat 0))))])
   (.cond (.t p9) .skip (.exit 0)))
   (.block 1 (.seq (.reg [.p p11 (.mv (.t p0)),
   .p p12 (.call 93 [(.t p11)]),
   .p p10 (.mv (.t p12)),
   .p p13 (.extract 0 (.t p10)),
   .p p14 (.extract 1 (.t p10)),
   .p p5 (.mv (.t p13)),
   .p p6 (.mv (.t p14))])
   (.seq (.seq (.reg [.p p15 (.mv (.t p1)),
   .p p16 (.mv (.t p5)),
   .p p17 (.call 96 [(.t p15), (.t p16)]),
   .p p18 (.not (.t p17))])
   (.cond (.t p18) (.exit 0) .skip))
   (.reg [.p p19 (.mv (.t p0)),
   .p p20 (.mv (.t p6)),
   .p p21 (.sliceStr (.t p19) (some (.t p20)) none),
   .p p0 (.mv (.t p21))])))))))
   (.seq (.reg [.p p22 (.mv (.t p0)),
   .p p4 (.mv (.t p22))])
   .ret)))
   [.t p4]
/- bastion/words.marks -/
def a82 : AF :=
  .code [] (.seq (.reg [.p p0 (.mv (.c (.nilm)))])
   (.seq (.reg [.p p1 (.mkmap),
   .n (.insert .int (.t p1) (.c (.int .u8 (.ofNat 34))) (.c (.int .u8 (.ofNat 34)))),
   .n (.insert .int (.t p1) (.c (.int .u8 (.ofNat 92))) (.c (.int .u8 (.ofNat 92)))),
   .n (.insert .int (.t p1) (.c (.int .u8 (.ofNat 110))) (.c (.int .u8 (.ofNat 10)))),
   .n (.insert .int (.t p1) (.c (.int .u8 (.ofNat 116))) (.c (.int .u8 (.ofNat 9)))),
   .p p2 (.mv (.t p1)),
   .p p0 (.mv (.t p2))])
   .ret))
   [.t p0]
/- strings.IndexByte -/
def a83 : AF :=
  .code [p0, p1] (.seq (.reg [.p p4 (.mv (.c (.int .i64 (.ofNat 0))))])
   (.seq (.reg [.p p5 (.mv (.t p0)),
   .p p6 (.mv (.t p1)),
   .p p7 (.call 45 [(.t p5), (.t p6)]),
   .p p4 (.mv (.t p7))])
   .ret))
   [.t p4]
/- bastion/desc.Name -/
def a84 : AF :=
  .code [p0] (.seq (.reg [.p p2 (.mv (.c (.bool false)))])
   (.seq (.seq (.reg [.p p3 (.mv (.t p0)),
   .p p4 (.bin .eql (.t p3) (.c (.str 0 0))),
   .p p5 (.mv (.t p4)),
   .g p6 (.mv (.t p0)) p5 false,
   .g p7 (.lenStr (.t p6)) p5 false,
   .g p8 (.bin .gtr (.t p7) (.c (.int .i64 (.ofNat 24)))) p5 false,
   .p p9 (.pick (.t p5) (.c (.bool true)) (.t p8)),
   .p p10 (.mv (.t p9)),
   .g p11 (.mv (.t p0)) p10 false,
   .g p12 (.idxStr (.t p11) (.c (.int .i64 (.ofNat 0)))) p10 false,
   .g p13 (.bin .lss (.t p12) (.c (.int .u8 (.ofNat 97)))) p10 false,
   .p p14 (.pick (.t p10) (.c (.bool true)) (.t p13)),
   .p p15 (.mv (.t p14)),
   .g p16 (.mv (.t p0)) p15 false,
   .g p17 (.idxStr (.t p16) (.c (.int .i64 (.ofNat 0)))) p15 false,
   .g p18 (.bin .gtr (.t p17) (.c (.int .u8 (.ofNat 122)))) p15 false,
   .p p19 (.pick (.t p15) (.c (.bool true)) (.t p18))])
   (.cond (.t p19) (.seq (.reg [.p p2 (.mv (.c (.bool false)))])
   .ret) .skip))
   (.seq (.reg [.p p20 (.mv (.t p0)),
   .p p21 (.call 97 [(.t p20), (.c (.str 38 12117391813846758031141756778034423710743608522770212737987117973555293213725218199772029537))]),
   .p p22 (.bin .eql (.t p21) (.c (.str 0 0))),
   .p p2 (.mv (.t p22))])
   .ret)))
   [.t p2]
/- strconv.Atoi -/
def a85 : AF :=
  .code [p0] (.seq (.reg [.p p2 (.mv (.c (.int .i64 (.ofNat 0)))),
   .p p3 (.mv (.c (.nili)))])
   (.seq (.reg [.p p7 (.mv (.t p0)),
   .p p8 (.call 98 [(.t p7)]),
   .p p6 (.mv (.t p8)),
   .p p9 (.extract 0 (.t p6)),
   .p p10 (.extract 1 (.t p6)),
   .p p4 (.mv (.t p9)),
   .p p5 (.mv (.t p10))])
   (.seq (.seq (.reg [.p p11 (.mv (.t p5)),
   .p p12 (.eq true (.ifc true [27, 190]) (.t p11) (.c (.nili)))])
   (.cond (.t p12) (.seq (.reg [.p p13 (.mv (.t p4)),
   .p p14 (.mv (.t p0)),
   .p p15 (.mv (.t p5)),
   .p p16 (.call 99 [(.c (.str 4 1768911937)), (.t p14), (.c (.int .i64 (.ofNat 0))), (.c (.int .i64 (.ofNat 0))), (.t p15)]),
   .p p2 (.mv (.t p13)),
   .p p3 (.mv (.t p16))])
   .ret) .skip))
   (.seq (.reg [.p p17 (.mv (.t p4)),
   .p p2 (.mv (.t p17)),
   .p p3 (.mv (.c (.nili)))])
   .ret))))
   [.t p2, .t p3]
/- strconv.Itoa -/
def a86 : AF :=
  .code [p0] (.seq (.reg [.p p2 (.mv (.c (.str 0 0)))])
   (.seq (.reg [.p p3 (.mv (.t p0)),
   .p p4 (.call 100 [(.t p3)]),
   .p p2 (.mv (.t p4))])
   .ret))
   [.t p2]
/- strings.IndexFunc -/
def a91 : AF :=
  .code [p0, p1] (.seq (.reg [.p p4 (.mv (.c (.int .i64 (.ofNat 0))))])
   (.seq (.reg [.p p5 (.mv (.t p0)),
   .p p6 (.mv (.t p1)),
   .p p7 (.call 104 [(.t p5), (.t p6), (.c (.bool true))]),
   .p p4 (.mv (.t p7))])
   .ret))
   [.t p4]
/- unicode/utf8.RuneCountInString -/
def a92 : AF :=
  .code [p0] (.seq (.reg [.p p2 (.mv (.c (.int .i64 (.ofNat 0))))])
   (.seq (.seq (.reg [.p p3 (.mv (.t p0)),
   .p p4 (.range (.t p3))])
   (.block 0 (.loop (.seq (.reg [.p p5 (.next (.t p4)),
   .p p6 (.extract 0 (.t p5))])
   (.seq (.cond (.t p6) .skip (.exit 0))
   (.block 1 (.reg [.p p7 (.mv (.t p2)),
   .p p8 (.bin .add (.t p7) (.c (.int .i64 (.ofNat 1)))),
   .p p2 (.mv (.t p8))])))))))
   (.seq (.reg [.p p9 (.mv (.t p2)),
   .p p2 (.mv (.t p9))])
   .ret)))
   [.t p2]
/- unicode/utf8.DecodeRuneInString -/
def a93 : AF :=
  .code [p0] (.seq (.reg [.p p2 (.mv (.c (.int .i32 (.ofNat 0)))),
   .p p3 (.mv (.c (.int .i64 (.ofNat 0))))])
   (.seq (.seq (.reg [.p p4 (.mv (.t p0)),
   .p p5 (.bin .neq (.t p4) (.c (.str 0 0))),
   .p p6 (.mv (.t p5)),
   .g p7 (.mv (.t p0)) p6 true,
   .g p8 (.idxStr (.t p7) (.c (.int .i64 (.ofNat 0)))) p6 true,
   .g p9 (.bin .lss (.t p8) (.c (.int .u8 (.ofNat 128)))) p6 true,
   .p p10 (.pick (.t p6) (.t p9) (.c (.bool false)))])
   (.cond (.t p10) (.seq (.reg [.p p11 (.mv (.t p0)),
   .p p12 (.idxStr (.t p11) (.c (.int .i64 (.ofNat 0)))),
   .p p13 (.convI .i32 (.t p12)),
   .p p2 (.mv (.t p13)),
   .p p3 (.mv (.c (.int .i64 (.ofNat 1))))])
   .ret) (.reg [.p p15 (.mv (.t p0)),
   .p p16 (.call 105 [(.t p15)]),
   .p p14 (.mv (.t p16)),
   .p p17 (.extract 0 (.t p14)),
   .p p18 (.extract 1 (.t p14)),
   .p p2 (.mv (.t p17)),
   .p p3 (.mv (.t p18))])))
   .ret))
   [.t p2, .t p3]
/- internal/bytealg.CountString -/ def a94 : AF := .countStr
/- (*strings.asciiSet).contains -/
def a95 : AF :=
  .code [p0, p1] (.seq (.reg [.p p4 (.mv (.c (.bool false)))])
   (.seq (.reg [.p p5 (.mv (.t p0)),
   .p p6 (.mv (.t p1)),
   .p p7 (.nilck (.t p5)),
   .p p8 (.iaddrA 256 1 (.t p7) (.t p6)),
   .p p9 (.load1 (.t p8)),
   .p p4 (.mv (.t p9))])
   .ret))
   [.t p4]
/- strings.ContainsRune -/
def a96 : AF :=
  .code [p0, p1] (.seq (.reg [.p p4 (.mv (.c (.bool false)))])
   (.seq (.reg [.p p5 (.mv (.t p0)),
   .p p6 (.mv (.t p1)),
   .p p7 (.call 106 [(.t p5), (.t p6)]),
   .p p8 (.bin .geq (.t p7) (.c (.int .i64 (.ofNat 0)))),
   .p p4 (.mv (.t p8))])
   .ret))
   [.t p4]
/- strings.Trim -/
def a97 : AF :=
  .code [p0, p1] (.seq (.reg [.p p4 (.mv (.c (.str 0 0)))])
   (.seq (.seq (.reg [.p p7 (.mv (.t p0)),
   .p p8 (.bin .eql (.t p7) (.c (.str 0 0))),
   .p p9 (.mv (.t p8)),
   .g p10 (.mv (.t p1)) p9 false,
   .g p11 (.bin .eql (.t p10) (.c (.str 0 0))) p9 false,
   .p p12 (.pick (.t p9) (.c (.bool true)) (.t p11))])
   (.cond (.t p12) (.seq (.reg [.p p13 (.mv (.t p0)),
   .p p4 (.mv (.t p13))])
   .ret) .skip))
   (.seq (.seq (.reg [.p p14 (.mv (.t p1)),
   .p p15 (.lenStr (.t p14)),
   .p p16 (.bin .eql (.t p15) (.c (.int .i64 (.ofNat 1)))),
   .p p17 (.mv (.t p16)),
   .g p18 (.mv (.t p1)) p17 true,
   .g p19 (.idxStr (.t p18) (.c (.int .i64 (.ofNat 0)))) p17 true,
   .g p20 (.bin .lss (.t p19) (.c (.int .u8 (.ofNat 128)))) p17 true,
   .p p21 (.pick (.t p17) (.t p20) (.c (.bool false)))])
   (.cond (.t p21) (.seq (.dreg [(.p p22 (.mv (.t p0)), 0), (.p p23 (.mv (.t p1)), 0), (.p p24 (.idxStr (.t p23) (.c (.int .i64 (.ofNat 0)))), 2), (.p p25 (.call 107 [(.t p22), (.t p24)]), 7), (.p p26 (.mv (.t p1)), 0), (.p p27 (.idxStr (.t p26) (.c (.int .i64 (.ofNat 0)))), 16), (.p p28 (.call 78 [(.t p25), (.t p27)]), 63), (.p p4 (.mv (.t p28)), 127)])
   .ret) .skip))
   (.seq (.seq (.reg [.p p30 (.mv (.t p1)),
   .p p31 (.call 79 [(.t p30)]),
   .p p29 (.mv (.t p31)),
   .p p32 (.extract 0 (.t p29)),
   .p p33 (.extract 1 (.t p29)),
   .p p5 (.alloc 149 [.bool false, .bool false, .bool false, .bool false, .bool false, .bool false, .bool false, .bool false, .bool false, .bool false, .bool false, .bool false, .bool false, .bool false, .bool false, .bool false, .bool false, .bool false, .bool false, .bool false, .bool false, .bool false, .bool false, .bool false, .bool false, .bool false, .bool false, .bool false, .bool false, .bool false, .bool false, .bool false, .bool false, .bool false, .bool false, .bool false, .bool false, .bool false, .bool false, .bool false, .bool false, .bool false, .bool false, .bool false, .bool false, .bool false, .bool false, .bool false, .bool false, .bool false, .bool false, .bool false, .bool false, .bool false, .bool false, .bool false, .bool false, .bool false, .bool false, .bool false, .bool false, .bool false, .bool false, .bool false, .bool false, .bool false, .bool false, .bool false, .bool false, .bool false, .bool false, .bool false, .bool false, .bool false, .bool false, .bool false, .bool false, .bool false, .bool false, .bool false, .bool false, .bool false, .bool false, .bool false, .bool false, .bool false, .bool false, .bool false, .bool false, .bool false, .bool false, .bool false, .bool false, .bool false, .bool false, .bool false, .bool false, .bool false, .bool false, .bool false, .bool false, .bool false, .bool false, .bool false, .bool false, .bool false, .bool false, .bool false, .bool false, .bool false, .bool false, .bool false, .bool false, .bool false, .bool false, .bool false, .bool false, .bool false, .bool false, .bool false, .bool false, .bool false, .bool false, .bool false, .bool false, .bool false, .bool false, .bool false, .bool false, .bool false, .bool false, .bool false, .bool false, .bool false, .bool false, .bool false, .bool false, .bool false, .bool false, .bool false, .bool false, .bool false, .bool false, .bool false, .bool false, .bool false, .bool false, .bool false, .bool false, .bool false, .bool false, .bool false, .bool false, .bool false, .bool false, .bool false, .bool false, .bool false, .bool false, .bool false, .bool false, .bool false, .bool false, .bool false, .bool false, .bool false, .bool false, .bool false, .bool false, .bool false, .bool false, .bool false, .bool false, .bool false, .bool false, .bool false, .bool false, .bool false, .bool false, .bool false, .bool false, .bool false, .bool false, .bool false, .bool false, .bool false, .bool false, .bool false, .bool false, .bool false, .bool false, .bool false, .bool false, .bool false, .bool false, .bool false, .bool false, .bool false, .bool false, .bool false, .bool false, .bool false, .bool false, .bool false, .bool false, .bool false, .bool false, .bool false, .bool false, .bool false, .bool false, .bool false, .bool false, .bool false, .bool false, .bool false, .bool false, .bool false, .bool false, .bool false, .bool false, .bool false, .bool false, .bool false, .bool false, .bool false, .bool false, .bool false, .bool false, .bool false, .bool false, .bool false, .bool false, .bool false, .bool false, .bool false, .bool false, .bool false, .bool false, .bool false, .bool false, .bool false, .bool false, .bool false, .bool false, .bool false, .bool false, .bool false, .bool false, .bool false, .bool false, .bool false, .bool false, .bool false, .bool false, .bool false]),
   .n (.store 256 (.t p5) (.t p32)),
   .p p6 (.mv (.t p33))])
   (.seq (.reg [.p p34 (.mv (.t p6))])
   (.cond (.t p34) (.seq (.reg [.p p35 (.mv (.t p0)),
   .p p36 (.call 108 [(.t p35), (.t p5)]),
   .p p37 (.call 80 [(.t p36), (.t p5)]),
   .p p4 (.mv (.t p37))])
   .ret) .skip)))
   (.seq (.reg [.p p38 (.mv (.t p0)),
   .p p39 (.mv (.t p1)),
   .p p40 (.call 109 [(.t p38), (.t p39)]),
   .p p41 (.mv (.t p1)),
   .p p42 (.call 81 [(.t p40), (.t p41)]),
   .p p4 (.mv (.t p42))])
   .ret)))))
   [.t p4]
/- internal/strconv.Atoi -/
def a98 : AF :=
  .code [p0] (.seq (.reg [.p p2 (.mv (.c (.int .i64 (.ofNat 0)))),
   .p p3 (.mv (.c (.nili)))])
   (.seq (.reg [.p p11 (.mv (.t p0)),
   .p p12 (.lenStr (.t p11)),
   .p p4 (.mv (.t p12))])
   (.seq (.seq (.reg [.p p13 (.mv (.c (.bool false))),
   .g p14 (.mv (.t p4)) p13 true,
   .g p15 (.bin .lss (.c (.int .i64 (.ofNat 0))) (.t p14)) p13 true,
   .g p16 (.mv (.t p15)) p13 true,
   .g p17 (.mv (.t p4)) p16 true,
   .g p18 (.bin .lss (.t p17) (.c (.int .i64 (.ofNat 10)))) p16 true,
   .g p19 (.pick (.t p16) (.t p18) (.c (.bool false))) p13 true,
   .p p20 (.pick (.t p13) (.t p19) (.c (.bool false))),
   .p p21 (.mv (.t p20)),
   .g p22 (.mv (.c (.bool true))) p21 false,
   .g p23 (.mv (.t p4)) p22 true,
   .g p24 (.bin .lss (.c (.int .i64 (.ofNat 0))) (.t p23)) p22 true,
   .g p25 (.mv (.t p24)) p22 true,
   .g p26 (.mv (.t p4)) p25 true,
   .g p27 (.bin .lss (.t p26) (.c (.int .i64 (.ofNat 19)))) p25 true,
   .g p28 (.pick (.t p25) (.t p27) (.c (.bool false))) p22 true,
   .g p29 (.pick (.t p22) (.t p28) (.c (.bool false))) p21 false,
   .p p30 (.pick (.t p21) (.c (.bool true)) (.t p29))])
   (.cond (.t p30) (.seq (.reg [.p p31 (.mv (.t p0)),
   .p p5 (.mv (.t p31))])
   (.seq (.seq (.reg [.p p32 (.mv (.t p0)),
   .p p33 (.idxStr (.t p32) (.c (.int .i64 (.ofNat 0)))),
   .p p34 (.bin .eql (.t p33) (.c (.int .u8 (.ofNat 45)))),
   .p p35 (.mv (.t p34)),
   .g p36 (.mv (.t p0)) p35 false,
   .g p37 (.idxStr (.t p36) (.c (.int .i64 (.ofNat 0)))) p35 false,
   .g p38 (.bin .eql (.t p37) (.c (.int .u8 (.ofNat 43)))) p35 false,
   .p p39 (.pick (.t p35) (.c (.bool true)) (.t p38))])
   (.cond (.t p39) (.seq (.reg [.p p40 (.mv (.t p0)),
   .p p41 (.sliceStr (.t p40) (some (.c (.int .i64 (.ofNat 1)))) none),
   .p p0 (.mv (.t p41))])
   (.seq (.reg [.p p42 (.mv (.t p0)),
   .p p43 (.lenStr (.t p42)),
   .p p44 (.bin .lss (.t p43) (.c (.int .i64 (.ofNat 1))))])
   (.cond (.t p44) (.seq (.reg [.p p45 (.mkif 190 (.c (.int .i64 (.ofNat 2)))),
   .p p2 (.mv (.c (.int .i64 (.ofNat 0)))),
   .p p3 (.mv (.t p45))])
   .ret) .skip))) .skip))
   (.seq (.reg [.p p6 (.mv (.c (.int .i64 (.ofNat 0))))])
   (.seq (.seq (.reg [.p p46 (.mv (.t p0)),
   .p p47 (.convSB 5 (.t p46)),
   .p p48 (.lenSlc (.t p47)),
   .p p49 (.mv (.c (.int .i64 (.ofNat 0))))])
   (.block 0 (.loop (.seq (.reg [.p p50 (.bin .lss (.t p49) (.t p48))])
   (.seq (.cond (.t p50) .skip (.exit 0))
   (.seq (.block 1 (.seq (.reg [.p p51 (.iaddrS 1 (.t p47) (.t p49)),
   .p p52 (.load1 (.t p51)),
   .p p8 (.mv (.t p52))])
   (.seq (.reg [.p p53 (.mv (.t p8)),
   .p p54 (.bin .sub (.t p53) (.c (.int .u8 (.ofNat 48)))),
   .p p8 (.mv (.t p54))])
   (.seq (.seq (.reg [.p p55 (.mv (.t p8)),
   .p p56 (.bin .gtr (.t p55) (.c (.int .u8 (.ofNat 9))))])
   (.cond (.t p56) (.seq (.reg [.p p57 (.mkif 190 (.c (.int .i64 (.ofNat 2)))),
   .p p2 (.mv (.c (.int .i64 (.ofNat 0)))),
   .p p3 (.mv (.t p57))])
   .ret) .skip))
   (.reg [.p p58 (.mv (.t p6)),
   .p p59 (.bin .mul (.t p58) (.c (.int .i64 (.ofNat 10)))),
   .p p60 (.mv (.t p8)),
   .p p61 (.convI .i64 (.t p60)),
   .p p62 (.bin .add (.t p59) (.t p61)),
   .p p6 (.mv (.t p62))])))))
   (.reg [.p p63 (.bin .add (.t p49) (.c (.int .i64 (.ofNat 1)))),
   .p p49 (.mv (.t p63))])))))))
   (.seq (.seq (.reg [.p p64 (.mv (.t p5)),
   .p p65 (.idxStr (.t p64) (.c (.int .i64 (.ofNat 0)))),
   .p p66 (.bin .eql (.t p65) (.c (.int .u8 (.ofNat 45))))])
   (.cond (.t p66) (.reg [.p p67 (.mv (.t p6)),
   .p p68 (.neg (.t p67)),
   .p p6 (.mv (.t p68))]) .skip))
   (.seq (.reg [.p p69 (.mv (.t p6)),
   .p p2 (.mv (.t p69)),
   .p p3 (.mv (.c (.nili)))])
   .ret)))))) .skip))
   (.seq (.reg [.p p71 (.mv (.t p0)),
   .p p72 (.call 110 [(.t p71), (.c (.int .i64 (.ofNat 10))), (.c (.int .i64 (.ofNat 0)))]),
   .p p70 (.mv (.t p72)),
   .p p73 (.extract 0 (.t p70)),
   .p p74 (.extract 1 (.t p70)),
   .p p9 (.mv (.t p73)),
   .p p10 (.mv (.t p74))])
   (.seq (.reg [.p p75 (.mv (.t p9)),
   .p p76 (.mv (.t p10)),
   .p p2 (.mv (.t p75)),
   .p p3 (.mv (.t p76))])
   .ret)))))
   [.t p2, .t p3]
/- strconv.toError -/
def a99 : AF :=
  .code [p0, p1, p2, p3, p4] (.seq (.reg [.p p10 (.mv (.c (.nili)))])
   (.seq (.seq (.reg [.p p11 (.mv (.t p4))])
   (.block 0 (.seq (.reg [.p p13 (.mkif 190 (.c (.int .i64 (.ofNat 2)))),
   .p p14 (.eq false (.ifc false [27, 190]) (.t p11) (.t p13)),
   .p p12 (.mv (.t p14))])
   (.cond (.t p12) (.seq (.reg [.p p15 (.mv (.t p0)),
   .p p16 (.mv (.t p1)),
   .p p17 (.call 111 [(.t p15), (.t p16)]),
   .p p18 (.mkif 193 (.t p17)),
   .p p10 (.mv (.t p18))])
   .ret) (.seq (.reg [.p p20 (.mkif 190 (.c (.int .i64 (.ofNat 1)))),
   .p p21 (.eq false (.ifc false [27, 190]) (.t p11) (.t p20)),
   .p p19 (.mv (.t p21))])
   (.cond (.t p19) (.seq (.reg [.p p22 (.mv (.t p0)),
   .p p23 (.mv (.t p1)),
   .p p24 (.call 112 [(.t p22), (.t p23)]),
   .p p25 (.mkif 193 (.t p24)),
   .p p10 (.mv (.t p25))])
   .ret) (.seq (.reg [.p p27 (.mkif 190 (.c (.int .i64 (.ofNat 3)))),
   .p p28 (.eq false (.ifc false [27, 190]) (.t p11) (.t p27)),
   .p p26 (.mv (.t p28))])
   (.cond (.t p26) (.seq (.reg [.p p29 (.mv (.t p0)),
   .p p30 (.mv (.t p1)),
   .p p31 (.mv (.t p2)),
   .p p32 (.call 113 [(.t p29), (.t p30), (.t p31)]),
   .p p33 (.mkif 193 (.t p32)),
   .p p10 (.mv (.t p33))])
   .ret) (.seq (.reg [.p p35 (.mkif 190 (.c (.int .i64 (.ofNat 4)))),
   .p p36 (.eq false (.ifc false [27, 190]) (.t p11) (.t p35)),
   .p p34 (.mv (.t p36))])
   (.cond (.t p34) (.seq (.reg [.p p37 (.mv (.t p0)),
   .p p38 (.mv (.t p1)),
   .p p39 (.mv (.t p3)),
   .p p40 (.call 114 [(.t p37), (.t p38), (.t p39)]),
   .p p41 (.mkif 193 (.t p40)),
   .p p10 (.mv (.t p41))])
   .ret) .skip))))))))))
   (.seq (.reg [.p p42 (.mv (.t p4)),
   .p p10 (.mv (.t p42))])
   .ret)))
   [.t p10]
/- internal/strconv.Itoa -/
def a100 : AF :=
  .code [p0] (.seq (.reg [.p p2 (.mv (.c (.str 0 0)))])
   (.seq (.reg [.p p3 (.mv (.t p0)),
   .p p4 (.call 115 [(.t p3), (.c (.int .i64 (.ofNat 10)))]),
   .p p2 (.mv (.t p4))])
   .ret))
   [.t p2]
/- strings.indexFunc -/
def a104 : AF :=
  .code [p0, p1, p2] (.seq (.reg [.p p6 (.mv (.c (.int .i64 (.ofNat 0))))])
   (.seq (.seq (.reg [.p p9 (.mv (.t p0)),
   .p p10 (.range (.t p9))])
   (.block 0 (.loop (.seq (.reg [.p p11 (.next (.t p10)),
   .p p12 (.extract 0 (.t p11))])
   (.seq (.cond (.t p12) .skip (.exit 0))
   (.block 1 (.seq (.reg [.p p13 (.extract 1 (.t p11)),
   .p p14 (.extract 2 (.t p11)),
   .p p7 (.mv (.t p13)),
   .p p8 (.mv (.t p14))])
   (.seq (.reg [.p p15 (.mv (.t p1)),
   .p p16 (.mv (.t p8)),
   .p p17 (.callv (.t p15) [(.t p16)]),
   .p p18 (.mv (.t p2)),
   .p p19 (.eq false .bool (.t p17) (.t p18))])
   (.cond (.t p19) (.seq (.reg [.p p20 (.mv (.t p7)),
   .p p6 (.mv (.t p20))])
   .ret) .skip)))))))))
   (.seq (.reg [.p p6 (.mv (.c (.int .i64 (.negSucc 0))))])
   .ret)))
   [.t p6]
/- unicode/utf8.decodeRuneInStringSlow -/
def a105 : AF :=
  .code [p0] (.seq (.reg [.p p2 (.mv (.c (.int .i32 (.ofNat 0)))),
   .p p3 (.mv (.c (.int .i64 (.ofNat 0))))])
   (.seq (.reg [.p p13 (.mv (.t p0)),
   .p p14 (.lenStr (.t p13)),
   .p p4 (.mv (.t p14))])
   (.seq (.seq (.reg [.p p15 (.mv (.t p4)),
   .p p16 (.bin .lss (.t p15) (.c (.int .i64 (.ofNat 1))))])
   (.cond (.t p16) (.seq (.reg [.p p2 (.mv (.c (.int .i32 (.ofNat 65533)))),
   .p p3 (.mv (.c (.int .i64 (.ofNat 0))))])
   .ret) .skip))
   (.seq (.reg [.p p17 (.mv (.t p0)),
   .p p18 (.idxStr (.t p17) (.c (.int .i64 (.ofNat 0)))),
   .p p5 (.mv (.t p18))])
   (.seq (.reg [.p p19 (.mv (.t p5)),
   .p p20 (.iaddrA 256 1 (.c (.ptr 2 0)) (.t p19)),
   .p p21 (.load1 (.t p20)),
   .p p6 (.mv (.t p21))])
   (.seq (.seq (.reg [.p p22 (.mv (.t p6)),
   .p p23 (.bin .geq (.t p22) (.c (.int .u8 (.ofNat 240))))])
   (.cond (.t p23) (.seq (.reg [.p p24 (.mv (.t p6)),
   .p p25 (.convI .i32 (.t p24)),
   .p p26 (.shf true (.t p25) (.c (.int .u64 (.ofNat 31)))),
   .p p27 (.shf false (.t p26) (.c (.int .u64 (.ofNat 31)))),
   .p p7 (.mv (.t p27))])
   (.seq (.reg [.p p28 (.mv (.t p0)),
   .p p29 (.idxStr (.t p28) (.c (.int .i64 (.ofNat 0)))),
   .p p30 (.convI .i32 (.t p29)),
   .p p31 (.mv (.t p7)),
   .p p32 (.bin .andNot (.t p30) (.t p31)),
   .p p33 (.mv (.t p7)),
   .p p34 (.bin .and (.c (.int .i32 (.ofNat 65533))) (.t p33)),
   .p p35 (.bin .or (.t p32) (.t p34)),
   .p p2 (.mv (.t p35)),
   .p p3 (.mv (.c (.int .i64 (.ofNat 1))))])
   .ret)) .skip))
   (.seq (.reg [.p p36 (.mv (.t p6)),
   .p p37 (.bin .and (.t p36) (.c (.int .u8 (.ofNat 7)))),
   .p p38 (.convI .i64 (.t p37)),
   .p p8 (.mv (.t p38))])
   (.seq (.reg [.p p39 (.mv (.t p6)),
   .p p40 (.shf false (.t p39) (.c (.int .u64 (.ofNat 4)))),
   .p p41 (.iaddrA 16 2 (.c (.ptr 3 0)) (.t p40)),
   .p p42 (.loadn 2 (.t p41)),
   .p p9 (.alloc 199 [.int .u8 (.ofNat 0), .int .u8 (.ofNat 0)]),
   .n (.store 2 (.t p9) (.t p42))])
   (.seq (.seq (.reg [.p p43 (.mv (.t p4)),
   .p p44 (.mv (.t p8)),
   .p p45 (.bin .lss (.t p43) (.t p44))])
   (.cond (.t p45) (.seq (.reg [.p p2 (.mv (.c (.int .i32 (.ofNat 65533)))),
   .p p3 (.mv (.c (.int .i64 (.ofNat 1))))])
   .ret) .skip))
   (.seq (.reg [.p p46 (.mv (.t p0)),
   .p p47 (.idxStr (.t p46) (.c (.int .i64 (.ofNat 1)))),
   .p p10 (.mv (.t p47))])
   (.seq (.seq (.reg [.p p48 (.mv (.t p10)),
   .p p49 (.faddr 0 (.t p9)),
   .p p50 (.load1 (.t p49)),
   .p p51 (.bin .lss (.t p48) (.t p50)),
   .p p52 (.mv (.t p51)),
   .g p53 (.faddr 1 (.t p9)) p52 false,
   .g p54 (.load1 (.t p53)) p52 false,
   .g p55 (.mv (.t p10)) p52 false,
   .g p56 (.bin .lss (.t p54) (.t p55)) p52 false,
   .p p57 (.pick (.t p52) (.c (.bool true)) (.t p56))])
   (.cond (.t p57) (.seq (.reg [.p p2 (.mv (.c (.int .i32 (.ofNat 65533)))),
   .p p3 (.mv (.c (.int .i64 (.ofNat 1))))])
   .ret) .skip))
   (.seq (.seq (.reg [.p p58 (.mv (.t p8)),
   .p p59 (.bin .leq (.t p58) (.c (.int .i64 (.ofNat 2))))])
   (.cond (.t p59) (.seq (.reg [.p p60 (.mv (.t p5)),
   .p p61 (.bin .and (.t p60) (.c (.int .u8 (.ofNat 31)))),
   .p p62 (.convI .i32 (.t p61)),
   .p p63 (.shf true (.t p62) (.c (.int .u64 (.ofNat 6)))),
   .p p64 (.mv (.t p10)),
   .p p65 (.bin .and (.t p64) (.c (.int .u8 (.ofNat 63)))),
   .p p66 (.convI .i32 (.t p65)),
   .p p67 (.bin .or (.t p63) (.t p66)),
   .p p2 (.mv (.t p67)),
   .p p3 (.mv (.c (.int .i64 (.ofNat 2))))])
   .ret) .skip))
   (.seq (.reg [.p p68 (.mv (.t p0)),
   .p p69 (.idxStr (.t p68) (.c (.int .i64 (.ofNat 2)))),
   .p p11 (.mv (.t p69))])
   (.seq (.seq (.reg [.p p70 (.mv (.t p11)),
   .p p71 (.bin .lss (.t p70) (.c (.int .u8 (.ofNat 128)))),
   .p p72 (.mv (.t p71)),
   .g p73 (.mv (.t p11)) p72 false,
   .g p74 (.bin .lss (.c (.int .u8 (.ofNat 191))) (.t p73)) p72 false,
   .p p75 (.pick (.t p72) (.c (.bool true)) (.t p74))])
   (.cond (.t p75) (.seq (.reg [.p p2 (.mv (.c (.int .i32 (.ofNat 65533)))),
   .p p3 (.mv (.c (.int .i64 (.ofNat 1))))])
   .ret) .skip))
   (.seq (.seq (.reg [.p p76 (.mv (.t p8)),
   .p p77 (.bin .leq (.t p76) (.c (.int .i64 (.ofNat 3))))])
   (.cond (.t p77) (.seq (.reg [.p p78 (.mv (.t p5)),
   .p p79 (.bin .and (.t p78) (.c (.int .u8 (.ofNat 15)))),
   .p p80 (.convI .i32 (.t p79)),
   .p p81 (.shf true (.t p80) (.c (.int .u64 (.ofNat 12)))),
   .p p82 (.mv (.t p10)),
   .p p83 (.bin .and (.t p82) (.c (.int .u8 (.ofNat 63)))),
   .p p84 (.convI .i32 (.t p83)),
   .p p85 (.shf true (.t p84) (.c (.int .u64 (.ofNat 6)))),
   .p p86 (.bin .or (.t p81) (.t p85)),
   .p p87 (.mv (.t p11)),
   .p p88 (.bin .and (.t p87) (.c (.int .u8 (.ofNat 63)))),
   .p p89 (.convI .i32 (.t p88)),
   .p p90 (.bin .or (.t p86) (.t p89)),
   .p p2 (.mv (.t p90)),
   .p p3 (.mv (.c (.int .i64 (.ofNat 3))))])
   .ret) .skip))
   (.seq (.reg [.p p91 (.mv (.t p0)),
   .p p92 (.idxStr (.t p91) (.c (.int .i64 (.ofNat 3)))),
   .p p12 (.mv (.t p92))])
   (.seq (.seq (.reg [.p p93 (.mv (.t p12)),
   .p p94 (.bin .lss (.t p93) (.c (.int .u8 (.ofNat 128)))),
   .p p95 (.mv (.t p94)),
   .g p96 (.mv (.t p12)) p95 false,
   .g p97 (.bin .lss (.c (.int .u8 (.ofNat 191))) (.t p96)) p95 false,
   .p p98 (.pick (.t p95) (.c (.bool true)) (.t p97))])
   (.cond (.t p98) (.seq (.reg [.p p2 (.mv (.c (.int .i32 (.ofNat 65533)))),
   .p p3 (.mv (.c (.int .i64 (.ofNat 1))))])
   .ret) .skip))
   (.seq (.reg [.p p99 (.mv (.t p5)),
   .p p100 (.bin .and (.t p99) (.c (.int .u8 (.ofNat 7)))),
   .p p101 (.convI .i32 (.t p100)),
   .p p102 (.shf true (.t p101) (.c (.int .u64 (.ofNat 18)))),
   .p p103 (.mv (.t p10)),
   .p p104 (.bin .and (.t p103) (.c (.int .u8 (.ofNat 63)))),
   .p p105 (.convI .i32 (.t p104)),
   .p p106 (.shf true (.t p105) (.c (.int .u64 (.ofNat 12)))),
   .p p107 (.bin .or (.t p102) (.t p106)),
   .p p108 (.mv (.t p11)),
   .p p109 (.bin .and (.t p108) (.c (.int .u8 (.ofNat 63)))),
   .p p110 (.convI .i32 (.t p109)),
   .p p111 (.shf true (.t p110) (.c (.int .u64 (.ofNat 6)))),
   .p p112 (.bin .or (.t p107) (.t p111)),
   .p p113 (.mv (.t p12)),
   .p p114 (.bin .and (.t p113) (.c (.int .u8 (.ofNat 63)))),
   .p p115 (.convI .i32 (.t p114)),
   .p p116 (.bin .or (.t p112) (.t p115)),
   .p p2 (.mv (.t p116)),
   .p p3 (.mv (.c (.int .i64 (.ofNat 4))))])
   .ret))))))))))))))))))
   [.t p2, .t p3]
/- strings.IndexRune -/
def a106 : AF :=
  .code [p0, p1] (.seq (.reg [.p p4 (.mv (.c (.int .i64 (.ofNat 0))))])
   (.block 0 (.seq (.reg [.p p161 (.mv (.t p1)),
   .p p162 (.bin .leq (.c (.int .i32 (.ofNat 0))) (.t p161)),
   .p p163 (.mv (.t p162)),
   .g p164 (.mv (.t p1)) p163 true,
   .g p165 (.bin .lss (.t p164) (.c (.int .i32 (.ofNat 128)))) p163 true,
   .p p166 (.pick (.t p163) (.t p165) (.c (.bool false))),
   .p p160 (.mv (.t p166))])
   (.cond (.t p160) (.seq (.reg [.p p167 (.mv (.t p0)),
   .p p168 (.mv (.t p1)),
   .p p169 (.convI .u8 (.t p168)),
   .p p170 (.call 83 [(.t p167), (.t p169)]),
   .p p4 (.mv (.t p170))])
   .ret) (.seq (.reg [.p p172 (.mv (.t p1)),
   .p p173 (.bin .eql (.t p172) (.c (.int .i32 (.ofNat 65533)))),
   .p p171 (.mv (.t p173))])
   (.cond (.t p171) (.seq (.seq (.reg [.p p174 (.mv (.t p0)),
   .p p175 (.range (.t p174))])
   (.block 9 (.loop (.seq (.reg [.p p176 (.next (.t p175)),
   .p p177 (.extract 0 (.t p176))])
   (.seq (.cond (.t p177) .skip (.exit 9))
   (.block 10 (.seq (.reg [.p p178 (.extract 1 (.t p176)),
   .p p179 (.extract 2 (.t p176)),
   .p p5 (.mv (.t p178)),
   .p p6 (.mv (.t p179))])
   (.seq (.reg [.p p180 (.mv (.t p6)),
   .p p181 (.bin .eql (.t p180) (.c (.int .i32 (.ofNat 65533))))])
   (.cond (.t p181) (.seq (.reg [.p p182 (.mv (.t p5)),
   .p p4 (.mv (.t p182))])
   .ret) .skip)))))))))
   (.seq (.reg [.p p4 (.mv (.c (.int .i64 (.negSucc 0))))])
   .ret)) (.seq (.reg [.p p184 (.mv (.t p1)),
   .p p185 (.call 116 [(.t p184)]),
   .p p186 (.not (.t p185)),
   .p p183 (.mv (.t p186))])
   (.cond (.t p183) (.seq (.reg [.p p4 (.mv (.c (.int .i64 (.negSucc 0))))])
   .ret) (.seq (.reg [.p p17 (.mv (.t p1)),
   .p p18 (.convRS (.t p17)),
   .p p7 (.mv (.t p18))])
   (.seq (.reg [.p p19 (.mv (.t p7)),
   .p p20 (.lenStr (.t p19)),
   .p p21 (.bin .sub (.t p20) (.c (.int .i64 (.ofNat 1)))),
   .p p8 (.mv (.t p21))])
   (.seq (.reg [.p p22 (.mv (.t p8)),
   .p p9 (.mv (.t p22))])
   (.seq (.reg [.p p10 (.mv (.c (.int .i64 (.ofNat 0))))])
   (.seq (.block 1 (.loop (.seq (.seq (.reg [.p p23 (.mv (.t p9)),
   .p p24 (.mv (.t p0)),
   .p p25 (.lenStr (.t p24)),
   .p p26 (.bin .lss (.t p23) (.t p25))])
   (.cond (.t p26) .skip (.exit 1)))
   (.block 2 (.seq (.seq (.dreg [(.p p27 (.mv (.t p0)), 0), (.p p28 (.mv (.t p9)), 0), (.p p29 (.idxStr (.t p27) (.t p28)), 3), (.p p30 (.mv (.t p7)), 0), (.p p31 (.mv (.t p8)), 0), (.p p32 (.idxStr (.t p30) (.t p31)), 24), (.p p33 (.bin .neq (.t p29) (.t p32)), 63)])
   (.cond (.t p33) (.seq (.dreg [(.p p34 (.mv (.t p0)), 0), (.p p35 (.mv (.t p9)), 0), (.p p36 (.bin .add (.t p35) (.c (.int .i64 (.ofNat 1)))), 2), (.p p37 (.sliceStr (.t p34) (some (.t p36)) none), 7), (.p p38 (.mv (.t p7)), 0), (.p p39 (.mv (.t p8)), 0), (.p p40 (.idxStr (.t p38) (.t p39)), 48), (.p p41 (.call 83 [(.t p37), (.t p40)]), 127), (.p p11 (.mv (.t p41)), 255)])
   (.seq (.seq (.reg [.p p42 (.mv (.t p11)),
   .p p43 (.bin .lss (.t p42) (.c (.int .i64 (.ofNat 0))))])
   (.cond (.t p43) (.seq (.reg [.p p4 (.mv (.c (.int .i64 (.negSucc 0))))])
   .ret) .skip))
   (.reg [.p p44 (.mv (.t p9)),
   .p p45 (.mv (.t p11)),
   .p p46 (.bin .add (.t p45) (.c (.int .i64 (.ofNat 1)))),
   .p p47 (.bin .add (.t p44) (.t p46)),
   .p p9 (.mv (.t p47))]))) .skip))
   (.seq (.seq (.reg [.p p12 (.mv (.c (.int .i64 (.ofNat 1))))])
   (.block 3 (.loop (.seq (.seq (.reg [.p p48 (.mv (.t p12)),
   .p p49 (.mv (.t p7)),
   .p p50 (.lenStr (.t p49)),
   .p p51 (.bin .lss (.t p48) (.t p50))])
   (.cond (.t p51) .skip (.exit 3)))
   (.seq (.block 4 (.seq (.dreg [(.p p54 (.mv (.t p0)), 0), (.p p55 (.mv (.t p9)), 0), (.p p56 (.mv (.t p12)), 0), (.p p57 (.bin .sub (.t p55) (.t p56)), 6), (.p p58 (.idxStr (.t p54) (.t p57)), 15), (.p p59 (.mv (.t p7)), 0), (.p p60 (.mv (.t p8)), 0), (.p p61 (.mv (.t p12)), 0), (.p p62 (.bin .sub (.t p60) (.t p61)), 192), (.p p63 (.idxStr (.t p59) (.t p62)), 480), (.p p64 (.bin .neq (.t p58) (.t p63)), 1023)])
   (.cond (.t p64) .stop .skip)))
   (.reg [.p p52 (.mv (.t p12)),
   .p p53 (.bin .add (.t p52) (.c (.int .i64 (.ofNat 1)))),
   .p p12 (.mv (.t p53))]))))))
   (.seq (.seq (.reg [.p p65 (.mv (.t p9)),
   .p p66 (.mv (.t p8)),
   .p p67 (.bin .sub (.t p65) (.t p66)),
   .p p4 (.mv (.t p67))])
   .ret)
   (.seq .skip
   (.seq (.reg [.p p68 (.mv (.t p10)),
   .p p69 (.bin .add (.t p68) (.c (.int .i64 (.ofNat 1)))),
   .p p10 (.mv (.t p69))])
   (.seq (.reg [.p p70 (.mv (.t p9)),
   .p p71 (.bin .add (.t p70) (.c (.int .i64 (.ofNat 1)))),
   .p p9 (.mv (.t p71))])
   (.seq (.reg [.p p72 (.mv (.c (.bool true))),
   .g p73 (.mv (.t p10)) p72 true,
   .g p74 (.mv (.t p9)) p72 true,
   .g p75 (.call 47 [(.t p74)]) p72 true,
   .g p76 (.bin .gtr (.t p73) (.t p75)) p72 true,
   .p p77 (.pick (.t p72) (.t p76) (.c (.bool false))),
   .p p78 (.mv (.t p77)),
   .g p79 (.mv (.t p9)) p78 true,
   .g p80 (.mv (.t p0)) p78 true,
   .g p81 (.lenStr (.t p80)) p78 true,
   .g p82 (.bin .lss (.t p79) (.t p81)) p78 true,
   .p p83 (.pick (.t p78) (.t p82) (.c (.bool false))),
   .p p84 (.mv (.t p83)),
   .g p85 (.mv (.c (.bool false))) p84 false,
   .g p86 (.mv (.t p10)) p85 true,
   .g p87 (.mv (.t p9)) p85 true,
   .g p88 (.shf false (.t p87) (.c (.int .u64 (.ofNat 4)))) p85 true,
   .g p89 (.bin .add (.c (.int .i64 (.ofNat 4))) (.t p88)) p85 true,
   .g p90 (.bin .geq (.t p86) (.t p89)) p85 true,
   .g p91 (.pick (.t p85) (.t p90) (.c (.bool false))) p84 false,
   .g p92 (.mv (.t p91)) p84 false,
   .g p93 (.mv (.t p9)) p92 true,
   .g p94 (.mv (.t p0)) p92 true,
   .g p95 (.lenStr (.t p94)) p92 true,
   .g p96 (.bin .lss (.t p93) (.t p95)) p92 true,
   .g p97 (.pick (.t p92) (.t p96) (.c (.bool false))) p84 false,
   .p p98 (.pick (.t p84) (.c (.bool true)) (.t p97))])
   (.cond (.t p98) .stop .skip))))))))))))
   (.seq (.seq (.reg [.p p4 (.mv (.c (.int .i64 (.negSucc 0))))])
   .ret)
   (.seq .skip
   (.seq (.cond (.c (.bool true)) (.seq (.reg [.p p99 (.mv (.t p0)),
   .p p100 (.mv (.t p9)),
   .p p101 (.mv (.t p8)),
   .p p102 (.bin .sub (.t p100) (.t p101)),
   .p p103 (.sliceStr (.t p99) (some (.t p102)) none),
   .p p104 (.mv (.t p1)),
   .p p105 (.convRS (.t p104)),
   .p p106 (.call 46 [(.t p103), (.t p105)]),
   .p p13 (.mv (.t p106))])
   (.seq (.reg [.p p107 (.mv (.t p13)),
   .p p108 (.bin .geq (.t p107) (.c (.int .i64 (.ofNat 0))))])
   (.cond (.t p108) (.seq (.reg [.p p109 (.mv (.t p9)),
   .p p110 (.mv (.t p13)),
   .p p111 (.bin .add (.t p109) (.t p110)),
   .p p112 (.mv (.t p8)),
   .p p113 (.bin .sub (.t p111) (.t p112)),
   .p p4 (.mv (.t p113))])
   .ret) .skip))) (.seq (.reg [.p p114 (.mv (.t p7)),
   .p p115 (.mv (.t p8)),
   .p p116 (.idxStr (.t p114) (.t p115)),
   .p p14 (.mv (.t p116))])
   (.seq (.reg [.p p117 (.mv (.t p7)),
   .p p118 (.mv (.t p8)),
   .p p119 (.bin .sub (.t p118) (.c (.int .i64 (.ofNat 1)))),
   .p p120 (.idxStr (.t p117) (.t p119)),
   .p p15 (.mv (.t p120))])
   (.seq .skip
   (.block 5 (.loop (.seq (.seq (.reg [.p p121 (.mv (.t p9)),
   .p p122 (.mv (.t p0)),
   .p p123 (.lenStr (.t p122)),
   .p p124 (.bin .lss (.t p121) (.t p123))])
   (.cond (.t p124) .skip (.exit 5)))
   (.seq (.block 6 (.seq (.reg [.p p127 (.mv (.t p0)),
   .p p128 (.mv (.t p9)),
   .p p129 (.idxStr (.t p127) (.t p128)),
   .p p130 (.mv (.t p14)),
   .p p131 (.bin .eql (.t p129) (.t p130)),
   .p p132 (.mv (.t p131)),
   .g p133 (.mv (.t p0)) p132 true,
   .g p134 (.mv (.t p9)) p132 true,
   .g p135 (.bin .sub (.t p134) (.c (.int .i64 (.ofNat 1)))) p132 true,
   .g p136 (.idxStr (.t p133) (.t p135)) p132 true,
   .g p137 (.mv (.t p15)) p132 true,
   .g p138 (.bin .eql (.t p136) (.t p137)) p132 true,
   .p p139 (.pick (.t p132) (.t p138) (.c (.bool false)))])
   (.cond (.t p139) (.seq (.seq (.reg [.p p16 (.mv (.c (.int .i64 (.ofNat 2))))])
   (.block 7 (.loop (.seq (.seq (.reg [.p p140 (.mv (.t p16)),
   .p p141 (.mv (.t p7)),
   .p p142 (.lenStr (.t p141)),
   .p p143 (.bin .lss (.t p140) (.t p142))])
   (.cond (.t p143) .skip (.exit 7)))
   (.seq (.block 8 (.seq (.dreg [(.p p146 (.mv (.t p0)), 0), (.p p147 (.mv (.t p9)), 0), (.p p148 (.mv (.t p16)), 0), (.p p149 (.bin .sub (.t p147) (.t p148)), 6), (.p p150 (.idxStr (.t p146) (.t p149)), 15), (.p p151 (.mv (.t p7)), 0), (.p p152 (.mv (.t p8)), 0), (.p p153 (.mv (.t p16)), 0), (.p p154 (.bin .sub (.t p152) (.t p153)), 192), (.p p155 (.idxStr (.t p151) (.t p154)), 480), (.p p156 (.bin .neq (.t p150) (.t p155)), 1023)])
   (.cond (.t p156) (.exit 6) .skip)))
   (.reg [.p p144 (.mv (.t p16)),
   .p p145 (.bin .add (.t p144) (.c (.int .i64 (.ofNat 1)))),
   .p p16 (.mv (.t p145))]))))))
   (.seq (.reg [.p p157 (.mv (.t p9)),
   .p p158 (.mv (.t p8)),
   .p p159 (.bin .sub (.t p157) (.t p158)),
   .p p4 (.mv (.t p159))])
   .ret)) .skip)))
   (.reg [.p p125 (.mv (.t p9)),
   .p p126 (.bin .add (.t p125) (.c (.int .i64 (.ofNat 1)))),
   .p p9 (.mv (.t p126))])))))))))
   (.seq (.reg [.p p4 (.mv (.c (.int .i64 (.negSucc 0))))])
   .ret)))))))))))))))))
   [.t p4]
/- strings.trimRightByte -/
def a107 : AF :=
  .code [p0, p1] (.seq (.reg [.p p4 (.mv (.c (.str 0 0)))])
   (.seq (.block 0 (.loop (.seq (.seq (.reg [.p p5 (.mv (.t p0)),
   .p p6 (.lenStr (.t p5)),
   .p p7 (.bin .gtr (.t p6) (.c (.int .i64 (.ofNat 0)))),
   .p p8 (.mv (.t p7)),
   .g p9 (.mv (.t p0)) p8 true,
   .g p10 (.mv (.t p0)) p8 true,
   .g p11 (.lenStr (.t p10)) p8 true,
   .g p12 (.bin .sub (.t p11) (.c (.int .i64 (.ofNat 1)))) p8 true,
   .g p13 (.idxStr (.t p9) (.t p12)) p8 true,
   .g p14 (.mv (.t p1)) p8 true,
   .g p15 (.bin .eql (.t p13) (.t p14)) p8 true,
   .p p16 (.pick (.t p8) (.t p15) (.c (.bool false)))])
   (.cond (.t p16) .skip (.exit 0)))
   (.block 1 (.reg [.p p17 (.mv (.t p0)),
   .p p18 (.mv (.t p0)),
   .p p19 (.lenStr (.t p18)),
   .p p20 (.bin .sub (.t p19) (.c (.int .i64 (.ofNat 1)))),
   .p p21 (.sliceStr (.t p17) none (some (.t p20))),
   .p p0 (.mv (.t p21))])))))
   (.seq (.reg [.p p22 (.mv (.t p0)),
   .p p4 (.mv (.t p22))])
   .ret)))
   [.t p4]
/- strings.trimRightASCII -/
def a108 : AF :=
  .code [p0, p1] (.seq (.reg [.p p4 (.mv (.c (.str 0 0)))])
   (.seq (.block 0 (.loop (.seq (.seq (.reg [.p p5 (.mv (.t p0)),
   .p p6 (.lenStr (.t p5)),
   .p p7 (.bin .gtr (.t p6) (.c (.int .i64 (.ofNat 0))))])
   (.cond (.t p7) .skip (.exit 0)))
   (.block 1 (.seq (.seq (.reg [.p p8 (.mv (.t p1)),
   .p p9 (.mv (.t p0)),
   .p p10 (.mv (.t p0)),
   .p p11 (.lenStr (.t p10)),
   .p p12 (.bin .sub (.t p11) (.c (.int .i64 (.ofNat 1)))),
   .p p13 (.idxStr (.t p9) (.t p12)),
   .p p14 (.call 95 [(.t p8), (.t p13)]),
   .p p15 (.not (.t p14))])
   (.cond (.t p15) (.exit 0) .skip))
   (.reg [.p p16 (.mv (.t p0)),
   .p p17 (.mv (.t p0)),
   .p p18 (.lenStr (.t p17)),
   .p p19 (.bin .sub (.t p18) (.c (.int .i64 (.ofNat 1)))),
   .p p20 (.sliceStr (.t p16) none (some (.t p19))),
   .p p0 (.mv (.t p20))]))))))
   (.seq (.reg [.p p21 (.mv (.t p0)),
   .p p4 (.mv (.t p21))])
   .ret)))
   [.t p4]
/- strings.trimRightUnicode -/
def a109 : AF :=
  .code [p0, p1] (.seq (.reg [.p p4 (.mv (.c (.str 0 0)))])
   (.seq (.block 0 (.loop (.seq (.seq (.reg [.p p7 (.mv (.t p0)),
   .p p8 (.lenStr (.t p7)),
   .p p9 (.bin .gtr (.t p8) (.c (.int .i64 (.ofNat 0))))])
   (.cond (.t p9) .skip (.exit 0)))
   (.block 1 (.seq (.reg [.p p10 (.mv (.t p0)),
   .p p11 (.mv (.t p0)),
   .p p12 (.lenStr (.t p11)),
   .p p13 (.bin .sub (.t p12) (.c (.int .i64 (.ofNat 1)))),
   .p p14 (.idxStr (.t p10) (.t p13)),
   .p p15 (.convI .i32 (.t p14)),
   .p p5 (.mv (.t p15)),
   .p p6 (.mv (.c (.int .i64 (.ofNat 1))))])
   (.seq (.seq (.reg [.p p16 (.mv (.t p5)),
   .p p17 (.bin .geq (.t p16) (.c (.int .i32 (.ofNat 128))))])
   (.cond (.t p17) (.reg [.p p19 (.mv (.t p0)),
   .p p20 (.call 117 [(.t p19)]),
   .p p18 (.mv (.t p20)),
   .p p21 (.extract 0 (.t p18)),
   .p p22 (.extract 1 (.t p18)),
   .p p5 (.mv (.t p21)),
   .p p6 (.mv (.t p22))]) .skip))
   (.seq (.seq (.reg [.p p23 (.mv (.t p1)),
   .p p24 (.mv (.t p5)),
   .p p25 (.call 96 [(.t p23), (.t p24)]),
   .p p26 (.not (.t p25))])
   (.cond (.t p26) (.exit 0) .skip))
   (.reg [.p p27 (.mv (.t p0)),
   .p p28 (.mv (.t p0)),
   .p p29 (.lenStr (.t p28)),
   .p p30 (.mv (.t p6)),
   .p p31 (.bin .sub (.t p29) (.t p30)),
   .p p32 (.sliceStr (.t p27) none (some (.t p31))),
   .p p0 (.mv (.t p32))]))))))))
   (.seq (.reg [.p p33 (.mv (.t p0)),
   .p p4 (.mv (.t p33))])
   .ret)))
   [.t p4]
/- internal/strconv.ParseInt -/
def a110 : AF :=
  .code [p0, p1, p2] (.seq (.reg [.p p6 (.mv (.c (.int .i64 (.ofNat 0)))),
   .p p7 (.mv (.c (.nili)))])
   (.seq (.seq (.reg [.p p12 (.mv (.t p0)),
   .p p13 (.bin .eql (.t p12) (.c (.str 0 0)))])
   (.cond (.t p13) (.seq (.reg [.p p14 (.mkif 190 (.c (.int .i64 (.ofNat 2)))),
   .p p6 (.mv (.c (.int .i64 (.ofNat 0)))),
   .p p7 (.mv (.t p14))])
   .ret) .skip))
   (.seq (.reg [.p p8 (.mv (.c (.bool false)))])
   (.seq (.seq (.reg [.p p15 (.mv (.t p0)),
   .p p16 (.idxStr (.t p15) (.c (.int .i64 (.ofNat 0))))])
   (.block 0 (.seq (.reg [.p p18 (.bin .eql (.t p16) (.c (.int .u8 (.ofNat 43)))),
   .p p17 (.mv (.t p18))])
   (.cond (.t p17) (.reg [.p p19 (.mv (.t p0)),
   .p p20 (.sliceStr (.t p19) (some (.c (.int .i64 (.ofNat 1)))) none),
   .p p0 (.mv (.t p20))]) (.seq (.reg [.p p22 (.bin .eql (.t p16) (.c (.int .u8 (.ofNat 45)))),
   .p p21 (.mv (.t p22))])
   (.cond (.t p21) (.seq (.reg [.p p23 (.mv (.t p0)),
   .p p24 (.sliceStr (.t p23) (some (.c (.int .i64 (.ofNat 1)))) none),
   .p p0 (.mv (.t p24))])
   (.reg [.p p8 (.mv (.c (.bool true)))])) .skip))))))
   (.seq (.reg [.p p9 (.mv (.c (.int .u64 (.ofNat 0))))])
   (.seq (.reg [.p p26 (.mv (.t p0)),
   .p p27 (.mv (.t p1)),
   .p p28 (.mv (.t p2)),
   .p p29 (.call 118 [(.t p26), (.t p27), (.t p28)]),
   .p p25 (.mv (.t p29)),
   .p p30 (.extract 0 (.t p25)),
   .p p31 (.extract 1 (.t p25)),
   .p p9 (.mv (.t p30)),
   .p p7 (.mv (.t p31))])
   (.seq (.seq (.reg [.p p32 (.mv (.t p7)),
   .p p33 (.eq true (.ifc true [27, 190]) (.t p32) (.c (.nili))),
   .p p34 (.mv (.t p33)),
   .g p35 (.mv (.t p7)) p34 true,
   .g p36 (.mkif 190 (.c (.int .i64 (.ofNat 1)))) p34 true,
   .g p37 (.eq true (.ifc false [27, 190]) (.t p35) (.t p36)) p34 true,
   .p p38 (.pick (.t p34) (.t p37) (.c (.bool false)))])
   (.cond (.t p38) (.seq (.reg [.p p39 (.mv (.t p7)),
   .p p6 (.mv (.c (.int .i64 (.ofNat 0)))),
   .p p7 (.mv (.t p39))])
   .ret) .skip))
   (.seq (.seq (.reg [.p p40 (.mv (.t p2)),
   .p p41 (.bin .eql (.t p40) (.c (.int .i64 (.ofNat 0))))])
   (.cond (.t p41) (.reg [.p p2 (.mv (.c (.int .i64 (.ofNat 64))))]) .skip))
   (.seq (.reg [.p p42 (.mv (.t p2)),
   .p p43 (.bin .sub (.t p42) (.c (.int .i64 (.ofNat 1)))),
   .p p44 (.convI .u64 (.t p43)),
   .p p45 (.shf true (.c (.int .u64 (.ofNat 1))) (.t p44)),
   .p p10 (.mv (.t p45))])
   (.seq (.seq (.reg [.p p46 (.mv (.t p8)),
   .p p47 (.not (.t p46)),
   .p p48 (.mv (.t p47)),
   .g p49 (.mv (.t p9)) p48 true,
   .g p50 (.mv (.t p10)) p48 true,
   .g p51 (.bin .geq (.t p49) (.t p50)) p48 true,
   .p p52 (.pick (.t p48) (.t p51) (.c (.bool false)))])
   (.cond (.t p52) (.seq (.reg [.p p53 (.mv (.t p10)),
   .p p54 (.bin .sub (.t p53) (.c (.int .u64 (.ofNat 1)))),
   .p p55 (.convI .i64 (.t p54)),
   .p p56 (.mkif 190 (.c (.int .i64 (.ofNat 1)))),
   .p p6 (.mv (.t p55)),
   .p p7 (.mv (.t p56))])
   .ret) .skip))
   (.seq (.seq (.reg [.p p57 (.mv (.t p8)),
   .p p58 (.mv (.t p57)),
   .g p59 (.mv (.t p9)) p58 true,
   .g p60 (.mv (.t p10)) p58 true,
   .g p61 (.bin .gtr (.t p59) (.t p60)) p58 true,
   .p p62 (.pick (.t p58) (.t p61) (.c (.bool false)))])
   (.cond (.t p62) (.seq (.reg [.p p63 (.mv (.t p10)),
   .p p64 (.convI .i64 (.t p63)),
   .p p65 (.neg (.t p64)),
   .p p66 (.mkif 190 (.c (.int .i64 (.ofNat 1)))),
   .p p6 (.mv (.t p65)),
   .p p7 (.mv (.t p66))])
   .ret) .skip))
   (.seq (.reg [.p p67 (.mv (.t p9)),
   .p p68 (.convI .i64 (.t p67)),
   .p p11 (.mv (.t p68))])
   (.seq (.seq (.reg [.p p69 (.mv (.t p8))])
   (.cond (.t p69) (.reg [.p p70 (.mv (.t p11)),
   .p p71 (.neg (.t p70)),
   .p p11 (.mv (.t p71))]) .skip))
   (.seq (.reg [.p p72 (.mv (.t p11)),
   .p p6 (.mv (.t p72)),
   .p p7 (.mv (.c (.nili)))])
   .ret))))))))))))))
   [.t p6, .t p7]
/- strconv.syntaxError -/
def a111 : AF :=
  .code [p0, p1] (.seq (.reg [.p p4 (.mv (.c (.nilp)))])
   (.seq (.dreg [(.p p5 (.mv (.t p0)), 0), (.p p6 (.mv (.t p1)), 0), (.p p7 (.call 119 [(.t p6)]), 2), (.p p8 (.load1 (.c (.ptr 4 0))), 0), (.p p9 (.build [([], 1, (.t p5)), ([], 1, (.t p7)), ([], 1, (.t p8))] []), 15), (.p p10 (.box 206 (.t p9)), 31), (.p p4 (.mv (.t p10)), 63)])
   .ret))
   [.t p4]
/- strconv.rangeError -/
def a112 : AF :=
  .code [p0, p1] (.seq (.reg [.p p4 (.mv (.c (.nilp)))])
   (.seq (.dreg [(.p p5 (.mv (.t p0)), 0), (.p p6 (.mv (.t p1)), 0), (.p p7 (.call 119 [(.t p6)]), 2), (.p p8 (.load1 (.c (.ptr 5 0))), 0), (.p p9 (.build [([], 1, (.t p5)), ([], 1, (.t p7)), ([], 1, (.t p8))] []), 15), (.p p10 (.box 206 (.t p9)), 31), (.p p4 (.mv (.t p10)), 63)])
   .ret))
   [.t p4]
/- strconv.baseError -/
def a113 : AF :=
  .code [p0, p1, p2] (.seq (.reg [.p p6 (.mv (.c (.nilp)))])
   (.seq (.reg [.p p7 (.mv (.t p0)),
   .p p8 (.mv (.t p1)),
   .p p9 (.call 119 [(.t p8)]),
   .p p10 (.mv (.t p2)),
   .p p11 (.call 86 [(.t p10)]),
   .p p12 (.bin .add (.c (.str 13 2566698672797334201289919589993)) (.t p11)),
   .p p13 (.call 120 [(.t p12)]),
   .p p14 (.build [([], 1, (.t p7)), ([], 1, (.t p9)), ([], 1, (.t p13))] []),
   .p p15 (.box 206 (.t p14)),
   .p p6 (.mv (.t p15))])
   .ret))
   [.t p6]
/- strconv.bitSizeError -/
def a114 : AF :=
  .code [p0, p1, p2] (.seq (.reg [.p p6 (.mv (.c (.nilp)))])
   (.seq (.reg [.p p7 (.mv (.t p0)),
   .p p8 (.mv (.t p1)),
   .p p9 (.call 119 [(.t p8)]),
   .p p10 (.mv (.t p2)),
   .p p11 (.call 86 [(.t p10)]),
   .p p12 (.bin .add (.c (.str 17 11023923368035339908895700075316841442921)) (.t p11)),
   .p p13 (.call 120 [(.t p12)]),
   .p p14 (.build [([], 1, (.t p7)), ([], 1, (.t p9)), ([], 1, (.t p13))] []),
   .p p15 (.box 206 (.t p14)),
   .p p6 (.mv (.t p15))])
   .ret))
   [.t p6]
/- internal/strconv.FormatInt -/
def a115 : AF :=
  .code [p0, p1] (.seq (.reg [.p p4 (.mv (.c (.str 0 0)))])
   (.seq (.seq (.reg [.p p10 (.mv (.t p1)),
   .p p11 (.bin .eql (.t p10) (.c (.int .i64 (.ofNat 10))))])
   (.cond (.t p11) (.seq (.seq (.reg [.p p12 (.mv (.t p0)),
   .p p13 (.bin .leq (.c (.int .i64 (.ofNat 0))) (.t p12)),
   .p p14 (.mv (.t p13)),
   .g p15 (.mv (.t p0)) p14 true,
   .g p16 (.bin .lss (.t p15) (.c (.int .i64 (.ofNat 100)))) p14 true,
   .p p17 (.pick (.t p14) (.t p16) (.c (.bool false)))])
   (.cond (.t p17) (.seq (.reg [.p p18 (.mv (.t p0)),
   .p p19 (.call 121 [(.t p18)]),
   .p p4 (.mv (.t p19))])
   .ret) .skip))
   (.seq (.reg [.p p5 (.alloc 208 [.int .u8 (.ofNat 0), .int .u8 (.ofNat 0), .int .u8 (.ofNat 0), .int .u8 (.ofNat 0), .int .u8 (.ofNat 0), .int .u8 (.ofNat 0), .int .u8 (.ofNat 0), .int .u8 (.ofNat 0), .int .u8 (.ofNat 0), .int .u8 (.ofNat 0), .int .u8 (.ofNat 0), .int .u8 (.ofNat 0), .int .u8 (.ofNat 0), .int .u8 (.ofNat 0), .int .u8 (.ofNat 0), .int .u8 (.ofNat 0), .int .u8 (.ofNat 0), .int .u8 (.ofNat 0), .int .u8 (.ofNat 0), .int .u8 (.ofNat 0), .int .u8 (.ofNat 0), .int .u8 (.ofNat 0), .int .u8 (.ofNat 0), .int .u8 (.ofNat 0)])])
   (.seq (.reg [.p p20 (.mv (.t p0)),
   .p p21 (.convI .u64 (.t p20)),
   .p p6 (.mv (.t p21))])
   (.seq (.seq (.reg [.p p22 (.mv (.t p0)),
   .p p23 (.bin .lss (.t p22) (.c (.int .i64 (.ofNat 0))))])
   (.cond (.t p23) (.reg [.p p24 (.mv (.t p6)),
   .p p25 (.neg (.t p24)),
   .p p6 (.mv (.t p25))]) .skip))
   (.seq (.reg [.p p26 (.mv (.t p6)),
   .p p27 (.call 122 [(.t p26)]),
   .p p7 (.mv (.t p27))])
   (.seq (.reg [.p p28 (.mv (.t p7)),
   .p p29 (.bin .add (.c (.int .i64 (.ofNat 1))) (.t p28)),
   .p p30 (.sliceA 24 1 (.t p5) (some (.c (.int .i64 (.ofNat 1)))) (some (.t p29)) none),
   .p p31 (.mv (.t p6)),
   .p p32 (.call 123 [(.t p30), (.t p31)])])
   (.seq (.seq (.reg [.p p33 (.mv (.t p0)),
   .p p34 (.bin .lss (.t p33) (.c (.int .i64 (.ofNat 0))))])
   (.cond (.t p34) (.seq (.reg [.p p35 (.iaddrA 24 1 (.t p5) (.c (.int .i64 (.ofNat 0)))),
   .n (.store 1 (.t p35) (.c (.int .u8 (.ofNat 45))))])
   (.seq (.reg [.p p36 (.mv (.t p7)),
   .p p37 (.bin .add (.c (.int .i64 (.ofNat 1))) (.t p36)),
   .p p38 (.sliceA 24 1 (.t p5) none (some (.t p37)) none),
   .p p39 (.convBS (.t p38)),
   .p p4 (.mv (.t p39))])
   .ret)) .skip))
   (.seq (.reg [.p p40 (.mv (.t p7)),
   .p p41 (.bin .add (.c (.int .i64 (.ofNat 1))) (.t p40)),
   .p p42 (.sliceA 24 1 (.t p5) (some (.c (.int .i64 (.ofNat 1)))) (some (.t p41)) none),
   .p p43 (.convBS (.t p42)),
   .p p4 (.mv (.t p43))])
   .ret)))))))) .skip))
   (.seq (.reg [.p p45 (.mv (.t p0)),
   .p p46 (.convI .u64 (.t p45)),
   .p p47 (.mv (.t p1)),
   .p p48 (.mv (.t p0)),
   .p p49 (.bin .lss (.t p48) (.c (.int .i64 (.ofNat 0)))),
   .p p50 (.call 124 [(.c (.nils)), (.t p46), (.t p47), (.t p49), (.c (.bool false))]),
   .p p44 (.mv (.t p50)),
   .p p51 (.extract 0 (.t p44)),
   .p p52 (.extract 1 (.t p44)),
   .p p8 (.mv (.t p51)),
   .p p9 (.mv (.t p52))])
   (.seq (.reg [.p p53 (.mv (.t p9)),
   .p p4 (.mv (.t p53))])
   .ret))))
   [.t p4]
/- unicode/utf8.ValidRune -/
def a116 : AF :=
  .code [p0] (.seq (.reg [.p p2 (.mv (.c (.bool false)))])
   (.seq (.block 0 (.seq (.reg [.p p4 (.mv (.t p0)),
   .p p5 (.bin .leq (.c (.int .i32 (.ofNat 0))) (.t p4)),
   .p p6 (.mv (.t p5)),
   .g p7 (.mv (.t p0)) p6 true,
   .g p8 (.bin .lss (.t p7) (.c (.int .i32 (.ofNat 55296)))) p6 true,
   .p p9 (.pick (.t p6) (.t p8) (.c (.bool false))),
   .p p3 (.mv (.t p9))])
   (.cond (.t p3) (.seq (.reg [.p p2 (.mv (.c (.bool true)))])
   .ret) (.seq (.reg [.p p11 (.mv (.t p0)),
   .p p12 (.bin .lss (.c (.int .i32 (.ofNat 57343))) (.t p11)),
   .p p13 (.mv (.t p12)),
   .g p14 (.mv (.t p0)) p13 true,
   .g p15 (.bin .leq (.t p14) (.c (.int .i32 (.ofNat 1114111)))) p13 true,
   .p p16 (.pick (.t p13) (.t p15) (.c (.bool false))),
   .p p10 (.mv (.t p16))])
   (.cond (.t p10) (.seq (.reg [.p p2 (.mv (.c (.bool true)))])
   .ret) .skip)))))
   (.seq (.reg [.p p2 (.mv (.c (.bool false)))])
   .ret)))
   [.t p2]
/- unicode/utf8.DecodeLastRuneInString -/
def a117 : AF :=
  .code [p0] (.seq (.reg [.p p2 (.mv (.c (.int .i32 (.ofNat 0)))),
   .p p3 (.mv (.c (.int .i64 (.ofNat 0))))])
   (.seq (.reg [.p p7 (.mv (.t p0)),
   .p p8 (.lenStr (.t p7)),
   .p p4 (.mv (.t p8))])
   (.seq (.seq (.reg [.p p9 (.mv (.t p4)),
   .p p10 (.bin .eql (.t p9) (.c (.int .i64 (.ofNat 0))))])
   (.cond (.t p10) (.seq (.reg [.p p2 (.mv (.c (.int .i32 (.ofNat 65533)))),
   .p p3 (.mv (.c (.int .i64 (.ofNat 0))))])
   .ret) .skip))
   (.seq (.reg [.p p11 (.mv (.t p4)),
   .p p12 (.bin .sub (.t p11) (.c (.int .i64 (.ofNat 1)))),
   .p p5 (.mv (.t p12))])
   (.seq (.reg [.p p13 (.mv (.t p0)),
   .p p14 (.mv (.t p5)),
   .p p15 (.idxStr (.t p13) (.t p14)),
   .p p16 (.convI .i32 (.t p15)),
   .p p2 (.mv (.t p16))])
   (.seq (.seq (.reg [.p p17 (.mv (.t p2)),
   .p p18 (.bin .lss (.t p17) (.c (.int .i32 (.ofNat 128))))])
   (.cond (.t p18) (.seq (.reg [.p p19 (.mv (.t p2)),
   .p p2 (.mv (.t p19)),
   .p p3 (.mv (.c (.int .i64 (.ofNat 1))))])
   .ret) .skip))
   (.seq (.reg [.p p20 (.mv (.t p4)),
   .p p21 (.bin .sub (.t p20) (.c (.int .i64 (.ofNat 4)))),
   .p p22 (.max (.t p21) (.c (.int .i64 (.ofNat 0)))),
   .p p6 (.mv (.t p22))])
   (.seq (.seq (.reg [.p p23 (.mv (.t p5)),
   .p p24 (.bin .sub (.t p23) (.c (.int .i64 (.ofNat 1)))),
   .p p5 (.mv (.t p24))])
   (.block 0 (.loop (.seq (.seq (.reg [.p p25 (.mv (.t p5)),
   .p p26 (.mv (.t p6)),
   .p p27 (.bin .geq (.t p25) (.t p26))])
   (.cond (.t p27) .skip (.exit 0)))
   (.seq (.block 1 (.seq (.reg [.p p30 (.mv (.t p0)),
   .p p31 (.mv (.t p5)),
   .p p32 (.idxStr (.t p30) (.t p31)),
   .p p33 (.call 125 [(.t p32)])])
   (.cond (.t p33) (.exit 0) .skip)))
   (.reg [.p p28 (.mv (.t p5)),
   .p p29 (.bin .sub (.t p28) (.c (.int .i64 (.ofNat 1)))),
   .p p5 (.mv (.t p29))]))))))
   (.seq (.seq (.reg [.p p34 (.mv (.t p5)),
   .p p35 (.bin .lss (.t p34) (.c (.int .i64 (.ofNat 0))))])
   (.cond (.t p35) (.reg [.p p5 (.mv (.c (.int .i64 (.ofNat 0))))]) .skip))
   (.seq (.reg [.p p37 (.mv (.t p0)),
   .p p38 (.mv (.t p5)),
   .p p39 (.mv (.t p4)),
   .p p40 (.sliceStr (.t p37) (some (.t p38)) (some (.t p39))),
   .p p41 (.call 93 [(.t p40)]),
   .p p36 (.mv (.t p41)),
   .p p42 (.extract 0 (.t p36)),
   .p p43 (.extract 1 (.t p36)),
   .p p2 (.mv (.t p42)),
   .p p3 (.mv (.t p43))])
   (.seq (.seq (.reg [.p p44 (.mv (.t p5)),
   .p p45 (.mv (.t p3)),
   .p p46 (.bin .add (.t p44) (.t p45)),
   .p p47 (.mv (.t p4)),
   .p p48 (.bin .neq (.t p46) (.t p47))])
   (.cond (.t p48) (.seq (.reg [.p p2 (.mv (.c (.int .i32 (.ofNat 65533)))),
   .p p3 (.mv (.c (.int .i64 (.ofNat 1))))])
   .ret) .skip))
   (.seq (.reg [.p p49 (.mv (.t p2)),
   .p p50 (.mv (.t p3)),
   .p p2 (.mv (.t p49)),
   .p p3 (.mv (.t p50))])
   .ret))))))))))))
   [.t p2, .t p3]
/- internal/strconv.ParseUint -/
def a118 : AF :=
  .code [p0, p1, p2] (.seq (.reg [.p p6 (.mv (.c (.int .u64 (.ofNat 0)))),
   .p p7 (.mv (.c (.nili)))])
   (.seq (.seq (.reg [.p p18 (.mv (.t p0)),
   .p p19 (.bin .eql (.t p18) (.c (.str 0 0)))])
   (.cond (.t p19) (.seq (.reg [.p p20 (.mkif 190 (.c (.int .i64 (.ofNat 2)))),
   .p p6 (.mv (.c (.int .u64 (.ofNat 0)))),
   .p p7 (.mv (.t p20))])
   .ret) .skip))
   (.seq (.reg [.p p21 (.mv (.t p1)),
   .p p22 (.bin .eql (.t p21) (.c (.int .i64 (.ofNat 0)))),
   .p p8 (.mv (.t p22))])
   (.seq (.reg [.p p23 (.mv (.t p0)),
   .p p9 (.mv (.t p23))])
   (.seq (.block 0 (.seq (.reg [.p p26 (.mv (.t p1)),
   .p p27 (.bin .leq (.c (.int .i64 (.ofNat 2))) (.t p26)),
   .p p28 (.mv (.t p27)),
   .g p29 (.mv (.t p1)) p28 true,
   .g p30 (.bin .leq (.t p29) (.c (.int .i64 (.ofNat 36)))) p28 true,
   .p p31 (.pick (.t p28) (.t p30) (.c (.bool false))),
   .p p25 (.mv (.t p31))])
   (.cond (.t p25) .skip (.seq (.reg [.p p33 (.mv (.t p1)),
   .p p34 (.bin .eql (.t p33) (.c (.int .i64 (.ofNat 0)))),
   .p p32 (.mv (.t p34))])
   (.cond (.t p32) (.seq (.reg [.p p1 (.mv (.c (.int .i64 (.ofNat 10))))])
   (.seq (.reg [.p p35 (.mv (.t p0)),
   .p p36 (.idxStr (.t p35) (.c (.int .i64 (.ofNat 0)))),
   .p p37 (.bin .eql (.t p36) (.c (.int .u8 (.ofNat 48))))])
   (.cond (.t p37) (.block 1 (.seq (.reg [.p p41 (.mv (.t p0)),
   .p p42 (.lenStr (.t p41)),
   .p p43 (.bin .geq (.t p42) (.c (.int .i64 (.ofNat 3)))),
   .p p44 (.mv (.t p43)),
   .g p45 (.mv (.t p0)) p44 true,
   .g p46 (.idxStr (.t p45) (.c (.int .i64 (.ofNat 1)))) p44 true,
   .g p47 (.call 126 [(.t p46)]) p44 true,
   .g p48 (.bin .eql (.t p47) (.c (.int .u8 (.ofNat 98)))) p44 true,
   .p p49 (.pick (.t p44) (.t p48) (.c (.bool false))),
   .p p40 (.mv (.t p49))])
   (.cond (.t p40) (.seq (.reg [.p p1 (.mv (.c (.int .i64 (.ofNat 2))))])
   (.reg [.p p50 (.mv (.t p0)),
   .p p51 (.sliceStr (.t p50) (some (.c (.int .i64 (.ofNat 2)))) none),
   .p p0 (.mv (.t p51))])) (.seq (.reg [.p p53 (.mv (.t p0)),
   .p p54 (.lenStr (.t p53)),
   .p p55 (.bin .geq (.t p54) (.c (.int .i64 (.ofNat 3)))),
   .p p56 (.mv (.t p55)),
   .g p57 (.mv (.t p0)) p56 true,
   .g p58 (.idxStr (.t p57) (.c (.int .i64 (.ofNat 1)))) p56 true,
   .g p59 (.call 126 [(.t p58)]) p56 true,
   .g p60 (.bin .eql (.t p59) (.c (.int .u8 (.ofNat 111)))) p56 true,
   .p p61 (.pick (.t p56) (.t p60) (.c (.bool false))),
   .p p52 (.mv (.t p61))])
   (.cond (.t p52) (.seq (.reg [.p p1 (.mv (.c (.int .i64 (.ofNat 8))))])
   (.reg [.p p62 (.mv (.t p0)),
   .p p63 (.sliceStr (.t p62) (some (.c (.int .i64 (.ofNat 2)))) none),
   .p p0 (.mv (.t p63))])) (.seq (.reg [.p p65 (.mv (.t p0)),
   .p p66 (.lenStr (.t p65)),
   .p p67 (.bin .geq (.t p66) (.c (.int .i64 (.ofNat 3)))),
   .p p68 (.mv (.t p67)),
   .g p69 (.mv (.t p0)) p68 true,
   .g p70 (.idxStr (.t p69) (.c (.int .i64 (.ofNat 1)))) p68 true,
   .g p71 (.call 126 [(.t p70)]) p68 true,
   .g p72 (.bin .eql (.t p71) (.c (.int .u8 (.ofNat 120)))) p68 true,
   .p p73 (.pick (.t p68) (.t p72) (.c (.bool false))),
   .p p64 (.mv (.t p73))])
   (.cond (.t p64) (.seq (.reg [.p p1 (.mv (.c (.int .i64 (.ofNat 16))))])
   (.reg [.p p74 (.mv (.t p0)),
   .p p75 (.sliceStr (.t p74) (some (.c (.int .i64 (.ofNat 2)))) none),
   .p p0 (.mv (.t p75))])) (.seq (.reg [.p p1 (.mv (.c (.int .i64 (.ofNat 8))))])
   (.reg [.p p38 (.mv (.t p0)),
   .p p39 (.sliceStr (.t p38) (some (.c (.int .i64 (.ofNat 1)))) none),
   .p p0 (.mv (.t p39))]))))))))) .skip))) (.seq (.reg [.p p24 (.mkif 190 (.c (.int .i64 (.ofNat 3)))),
   .p p6 (.mv (.c (.int .u64 (.ofNat 0)))),
   .p p7 (.mv (.t p24))])
   .ret))))))
   (.seq (.seq (.reg [.p p76 (.mv (.t p2)),
   .p p77 (.bin .eql (.t p76) (.c (.int .i64 (.ofNat 0))))])
   (.cond (.t p77) (.reg [.p p2 (.mv (.c (.int .i64 (.ofNat 64))))]) (.seq (.reg [.p p78 (.mv (.t p2)),
   .p p79 (.bin .lss (.t p78) (.c (.int .i64 (.ofNat 0)))),
   .p p80 (.mv (.t p79)),
   .g p81 (.mv (.t p2)) p80 false,
   .g p82 (.bin .gtr (.t p81) (.c (.int .i64 (.ofNat 64)))) p80 false,
   .p p83 (.pick (.t p80) (.c (.bool true)) (.t p82))])
   (.cond (.t p83) (.seq (.reg [.p p84 (.mkif 190 (.c (.int .i64 (.ofNat 4)))),
   .p p6 (.mv (.c (.int .u64 (.ofNat 0)))),
   .p p7 (.mv (.t p84))])
   .ret) .skip))))
   (.seq (.reg [.p p10 (.mv (.c (.int .u64 (.ofNat 0))))])
   (.seq (.seq (.reg [.p p85 (.mv (.t p1))])
   (.block 2 (.seq (.reg [.p p91 (.bin .eql (.t p85) (.c (.int .i64 (.ofNat 10)))),
   .p p90 (.mv (.t p91))])
   (.cond (.t p90) (.reg [.p p10 (.mv (.c (.int .u64 (.ofNat 1844674407370955162))))]) (.seq (.reg [.p p93 (.bin .eql (.t p85) (.c (.int .i64 (.ofNat 16)))),
   .p p92 (.mv (.t p93))])
   (.cond (.t p92) (.reg [.p p10 (.mv (.c (.int .u64 (.ofNat 1152921504606846976))))]) (.reg [.p p86 (.mv (.t p1)),
   .p p87 (.convI .u64 (.t p86)),
   .p p88 (.bin .quo (.c (.int .u64 (.ofNat 18446744073709551615))) (.t p87)),
   .p p89 (.bin .add (.t p88) (.c (.int .u64 (.ofNat 1)))),
   .p p10 (.mv (.t p89))])))))))
   (.seq (.reg [.p p94 (.mv (.t p2)),
   .p p95 (.convI .u64 (.t p94)),
   .p p96 (.shf true (.c (.int .u64 (.ofNat 1))) (.t p95)),
   .p p97 (.bin .sub (.t p96) (.c (.int .u64 (.ofNat 1)))),
   .p p11 (.mv (.t p97))])
   (.seq (.reg [.p p12 (.mv (.c (.bool false)))])
   (.seq (.reg [.p p13 (.mv (.c (.int .u64 (.ofNat 0))))])
   (.seq (.seq (.reg [.p p98 (.mv (.t p0)),
   .p p99 (.convSB 5 (.t p98)),
   .p p100 (.lenSlc (.t p99)),
   .p p101 (.mv (.c (.int .i64 (.ofNat 0))))])
   (.block 3 (.loop (.seq (.reg [.p p102 (.bin .lss (.t p101) (.t p100))])
   (.seq (.cond (.t p102) .skip (.exit 3))
   (.seq (.block 4 (.seq (.reg [.p p103 (.iaddrS 1 (.t p99) (.t p101)),
   .p p104 (.load1 (.t p103)),
   .p p15 (.mv (.t p104))])
   (.seq (.reg [.p p16 (.mv (.c (.int .u8 (.ofNat 0))))])
   (.seq (.block 5 (.seq (.reg [.p p107 (.mv (.t p15)),
   .p p108 (.bin .eql (.t p107) (.c (.int .u8 (.ofNat 95)))),
   .p p109 (.mv (.t p108)),
   .g p110 (.mv (.t p8)) p109 true,
   .p p111 (.pick (.t p109) (.t p110) (.c (.bool false))),
   .p p106 (.mv (.t p111))])
   (.cond (.t p106) (.seq (.reg [.p p12 (.mv (.c (.bool true)))])
   (.exit 4)) (.seq (.reg [.p p113 (.mv (.t p15)),
   .p p114 (.bin .leq (.c (.int .u8 (.ofNat 48))) (.t p113)),
   .p p115 (.mv (.t p114)),
   .g p116 (.mv (.t p15)) p115 true,
   .g p117 (.bin .leq (.t p116) (.c (.int .u8 (.ofNat 57)))) p115 true,
   .p p118 (.pick (.t p115) (.t p117) (.c (.bool false))),
   .p p112 (.mv (.t p118))])
   (.cond (.t p112) (.reg [.p p119 (.mv (.t p15)),
   .p p120 (.bin .sub (.t p119) (.c (.int .u8 (.ofNat 48)))),
   .p p16 (.mv (.t p120))]) (.seq (.reg [.p p122 (.mv (.t p15)),
   .p p123 (.call 126 [(.t p122)]),
   .p p124 (.bin .leq (.c (.int .u8 (.ofNat 97))) (.t p123)),
   .p p125 (.mv (.t p124)),
   .g p126 (.mv (.t p15)) p125 true,
   .g p127 (.call 126 [(.t p126)]) p125 true,
   .g p128 (.bin .leq (.t p127) (.c (.int .u8 (.ofNat 122)))) p125 true,
   .p p129 (.pick (.t p125) (.t p128) (.c (.bool false))),
   .p p121 (.mv (.t p129))])
   (.cond (.t p121) (.reg [.p p130 (.mv (.t p15)),
   .p p131 (.call 126 [(.t p130)]),
   .p p132 (.bin .sub (.t p131) (.c (.int .u8 (.ofNat 97)))),
   .p p133 (.bin .add (.t p132) (.c (.int .u8 (.ofNat 10)))),
   .p p16 (.mv (.t p133))]) (.seq (.reg [.p p105 (.mkif 190 (.c (.int .i64 (.ofNat 2)))),
   .p p6 (.mv (.c (.int .u64 (.ofNat 0)))),
   .p p7 (.mv (.t p105))])
   .ret))))))))
   (.seq (.seq (.reg [.p p134 (.mv (.t p16)),
   .p p135 (.mv (.t p1)),
   .p p136 (.convI .u8 (.t p135)),
   .p p137 (.bin .geq (.t p134) (.t p136))])
   (.cond (.t p137) (.seq (.reg [.p p138 (.mkif 190 (.c (.int .i64 (.ofNat 2)))),
   .p p6 (.mv (.c (.int .u64 (.ofNat 0)))),
   .p p7 (.mv (.t p138))])
   .ret) .skip))
   (.seq (.seq (.reg [.p p139 (.mv (.t p13)),
   .p p140 (.mv (.t p10)),
   .p p141 (.bin .geq (.t p139) (.t p140))])
   (.cond (.t p141) (.seq (.reg [.p p142 (.mv (.t p11)),
   .p p143 (.mkif 190 (.c (.int .i64 (.ofNat 1)))),
   .p p6 (.mv (.t p142)),
   .p p7 (.mv (.t p143))])
   .ret) .skip))
   (.seq (.reg [.p p144 (.mv (.t p13)),
   .p p145 (.mv (.t p1)),
   .p p146 (.convI .u64 (.t p145)),
   .p p147 (.bin .mul (.t p144) (.t p146)),
   .p p13 (.mv (.t p147))])
   (.seq (.reg [.p p148 (.mv (.t p13)),
   .p p149 (.mv (.t p16)),
   .p p150 (.convI .u64 (.t p149)),
   .p p151 (.bin .add (.t p148) (.t p150)),
   .p p17 (.mv (.t p151))])
   (.seq (.seq (.reg [.p p152 (.mv (.t p17)),
   .p p153 (.mv (.t p13)),
   .p p154 (.bin .lss (.t p152) (.t p153)),
   .p p155 (.mv (.t p154)),
   .g p156 (.mv (.t p17)) p155 false,
   .g p157 (.mv (.t p11)) p155 false,
   .g p158 (.bin .gtr (.t p156) (.t p157)) p155 false,
   .p p159 (.pick (.t p155) (.c (.bool true)) (.t p158))])
   (.cond (.t p159) (.seq (.reg [.p p160 (.mv (.t p11)),
   .p p161 (.mkif 190 (.c (.int .i64 (.ofNat 1)))),
   .p p6 (.mv (.t p160)),
   .p p7 (.mv (.t p161))])
   .ret) .skip))
   (.reg [.p p162 (.mv (.t p17)),
   .p p13 (.mv (.t p162))]))))))))))
   (.reg [.p p163 (.bin .add (.t p101) (.c (.int .i64 (.ofNat 1)))),
   .p p101 (.mv (.t p163))])))))))
   (.seq (.seq (.reg [.p p164 (.mv (.t p12)),
   .p p165 (.mv (.t p164)),
   .g p166 (.mv (.t p9)) p165 true,
   .g p167 (.call 127 [(.t p166)]) p165 true,
   .g p168 (.not (.t p167)) p165 true,
   .p p169 (.pick (.t p165) (.t p168) (.c (.bool false)))])
   (.cond (.t p169) (.seq (.reg [.p p170 (.mkif 190 (.c (.int .i64 (.ofNat 2)))),
   .p p6 (.mv (.c (.int .u64 (.ofNat 0)))),
   .p p7 (.mv (.t p170))])
   .ret) .skip))
   (.seq (.reg [.p p171 (.mv (.t p13)),
   .p p6 (.mv (.t p171)),
   .p p7 (.mv (.c (.nili)))])
   .ret))))))))))))))
   [.t p6, .t p7]
/- internal/stringslite.Clone -/
def a119 : AF :=
  .code [p0] (.seq (.reg [.p p2 (.mv (.c (.str 0 0)))])
   (.seq (.seq (.reg [.p p4 (.mv (.t p0)),
   .p p5 (.lenStr (.t p4)),
   .p p6 (.bin .eql (.t p5) (.c (.int .i64 (.ofNat 0))))])
   (.cond (.t p6) (.seq (.reg [.p p2 (.mv (.c (.str 0 0)))])
   .ret) .skip))
   (.seq (.reg [.p p7 (.mv (.t p0)),
   .p p8 (.lenStr (.t p7)),
   .p p9 (.mkslice 5 1 1 [.int .u8 (.ofNat 0)] (.t p8) (.t p8)),
   .p p3 (.mv (.t p9))])
   (.seq (.reg [.p p10 (.mv (.t p3)),
   .p p11 (.mv (.t p0)),
   .p p12 (.copy 1 (.t p10) (.t p11))])
   (.seq (.reg [.p p13 (.mv (.t p3)),
   .p p14 (.iaddrS 1 (.t p13) (.c (.int .i64 (.ofNat 0)))),
   .p p15 (.mv (.t p3)),
   .p p16 (.lenSlc (.t p15)),
   .p p17 (.ustr 5 (.t p14) (.t p16)),
   .p p2 (.mv (.t p17))])
   .ret)))))
   [.t p2]
/- errors.New -/
def a120 : AF :=
  .code [p0] (.seq (.reg [.p p2 (.mv (.c (.nili)))])
   (.seq (.reg [.p p3 (.mv (.t p0)),
   .p p4 (.build [([], 1, (.t p3))] []),
   .p p5 (.box 216 (.t p4)),
   .p p6 (.mkif 214 (.t p5)),
   .p p2 (.mv (.t p6))])
   .ret))
   [.t p2]
/- internal/strconv.small -/
def a121 : AF :=
  .code [p0] (.seq (.reg [.p p2 (.mv (.c (.str 0 0)))])
   (.seq (.seq (.reg [.p p3 (.mv (.t p0)),
   .p p4 (.bin .lss (.t p3) (.c (.int .i64 (.ofNat 10))))])
   (.cond (.t p4) (.seq (.reg [.p p5 (.mv (.t p0)),
   .p p6 (.mv (.t p0)),
   .p p7 (.bin .add (.t p6) (.c (.int .i64 (.ofNat 1)))),
   .p p8 (.sliceStr (.c (.str 36 237927390410950444456928663707796224754864904193074819559483181009558347043374296609072)) (some (.t p5)) (some (.t p7))),
   .p p2 (.mv (.t p8))])
   .ret) .skip))
   (.seq (.reg [.p p9 (.mv (.t p0)),
   .p p10 (.bin .mul (.t p9) (.c (.int .i64 (.ofNat 2)))),
   .p p11 (.mv (.t p0)),
   .p p12 (.bin .mul (.t p11) (.c (.int .i64 (.ofNat 2)))),
   .p p13 (.bin .add (.t p12) (.c (.int .i64 (.ofNat 2)))),
   .p p14 (.sliceStr (.c (.str 200 9938655150514779720929161263213647789093395803754561035662628441001274968862597953692946393464194303251501229616933063375291039650253924995779037586872666250072396106842829501851083234932712366962979930255066872747696324303968523733872590022915936937156789320557469720923390131174387415513794469201054844961267015441141542819553679203788501627738430154234325528792480477051962324423099068299719245009424585859096469223093538032153047611602695245052081125123941502624659711709950000)) (some (.t p10)) (some (.t p13))),
   .p p2 (.mv (.t p14))])
   .ret)))
   [.t p2]
/- internal/strconv.numDigits -/
def a122 : AF :=
  .code [p0] (.seq (.reg [.p p2 (.mv (.c (.int .i64 (.ofNat 0))))])
   (.seq (.reg [.p p4 (.mv (.t p0)),
   .p p5 (.call 129 [(.t p4)]),
   .p p6 (.call 128 [(.t p5)]),
   .p p3 (.mv (.t p6))])
   (.seq (.reg [.p p7 (.mv (.t p3)),
   .p p8 (.mv (.t p0)),
   .p p9 (.mv (.t p3)),
   .p p10 (.iaddrA 20 1 (.c (.ptr 6 0)) (.t p9)),
   .p p11 (.load1 (.t p10)),
   .p p12 (.bin .geq (.t p8) (.t p11)),
   .p p13 (.call 130 [(.t p12)]),
   .p p14 (.bin .add (.t p7) (.t p13)),
   .p p2 (.mv (.t p14))])
   .ret)))
   [.t p2]
/- internal/strconv.formatBase10 -/
def a123 : AF :=
  .code [p0, p1] (.seq (.reg [.p p17 (.mv (.t p0)),
   .p p18 (.lenSlc (.t p17)),
   .p p4 (.mv (.t p18))])
   (.seq (.block 0 (.loop (.seq (.seq (.reg [.p p19 (.mv (.t p4)),
   .p p20 (.bin .geq (.t p19) (.c (.int .i64 (.ofNat 8))))])
   (.cond (.t p20) .skip (.exit 0)))
   (.block 1 (.seq (.reg [.p p21 (.mv (.t p1)),
   .p p22 (.bin .rem (.t p21) (.c (.int .u64 (.ofNat 100000000)))),
   .p p23 (.convI .u32 (.t p22)),
   .p p5 (.mv (.t p23))])
   (.seq (.reg [.p p24 (.mv (.t p1)),
   .p p25 (.bin .quo (.t p24) (.c (.int .u64 (.ofNat 100000000)))),
   .p p1 (.mv (.t p25))])
   (.seq (.reg [.p p26 (.mv (.t p5)),
   .p p27 (.bin .quo (.t p26) (.c (.int .u32 (.ofNat 10000)))),
   .p p28 (.mv (.t p5)),
   .p p29 (.bin .rem (.t p28) (.c (.int .u32 (.ofNat 10000)))),
   .p p6 (.mv (.t p27)),
   .p p7 (.mv (.t p29))])
   (.seq (.reg [.p p30 (.mv (.t p7)),
   .p p31 (.bin .quo (.t p30) (.c (.int .u32 (.ofNat 100)))),
   .p p32 (.bin .mul (.t p31) (.c (.int .u32 (.ofNat 2)))),
   .p p33 (.mv (.t p7)),
   .p p34 (.bin .rem (.t p33) (.c (.int .u32 (.ofNat 100)))),
   .p p35 (.bin .mul (.t p34) (.c (.int .u32 (.ofNat 2)))),
   .p p8 (.mv (.t p32)),
   .p p9 (.mv (.t p35))])
   (.seq (.reg [.p p36 (.mv (.t p6)),
   .p p37 (.bin .quo (.t p36) (.c (.int .u32 (.ofNat 100)))),
   .p p38 (.bin .mul (.t p37) (.c (.int .u32 (.ofNat 2)))),
   .p p39 (.mv (.t p6)),
   .p p40 (.bin .rem (.t p39) (.c (.int .u32 (.ofNat 100)))),
   .p p41 (.bin .mul (.t p40) (.c (.int .u32 (.ofNat 2)))),
   .p p10 (.mv (.t p38)),
   .p p11 (.mv (.t p41))])
   (.seq (.dreg [(.p p42 (.mv (.t p0)), 0), (.p p43 (.mv (.t p4)), 0), (.p p44 (.bin .sub (.t p43) (.c (.int .i64 (.ofNat 1)))), 2), (.p p45 (.mv (.t p0)), 0), (.p p46 (.mv (.t p4)), 0), (.p p47 (.bin .sub (.t p46) (.c (.int .i64 (.ofNat 2)))), 16), (.p p48 (.mv (.t p9)), 0), (.p p49 (.bin .add (.t p48) (.c (.int .u32 (.ofNat 1)))), 64), (.p p50 (.idxStr (.c (.str 200 9938655150514779720929161263213647789093395803754561035662628441001274968862597953692946393464194303251501229616933063375291039650253924995779037586872666250072396106842829501851083234932712366962979930255066872747696324303968523733872590022915936937156789320557469720923390131174387415513794469201054844961267015441141542819553679203788501627738430154234325528792480477051962324423099068299719245009424585859096469223093538032153047611602695245052081125123941502624659711709950000)) (.t p49)), 192), (.p p51 (.mv (.t p9)), 0), (.p p52 (.idxStr (.c (.str 200 9938655150514779720929161263213647789093395803754561035662628441001274968862597953692946393464194303251501229616933063375291039650253924995779037586872666250072396106842829501851083234932712366962979930255066872747696324303968523733872590022915936937156789320557469720923390131174387415513794469201054844961267015441141542819553679203788501627738430154234325528792480477051962324423099068299719245009424585859096469223093538032153047611602695245052081125123941502624659711709950000)) (.t p51)), 512), (.p p53 (.iaddrS 1 (.t p42) (.t p44)), 455), (.n (.store 1 (.t p53) (.t p50)), 2503), (.p p54 (.iaddrS 1 (.t p45) (.t p47)), 8191), (.n (.store 1 (.t p54) (.t p52)), 16383)])
   (.seq (.dreg [(.p p55 (.mv (.t p0)), 0), (.p p56 (.mv (.t p4)), 0), (.p p57 (.bin .sub (.t p56) (.c (.int .i64 (.ofNat 3)))), 2), (.p p58 (.mv (.t p0)), 0), (.p p59 (.mv (.t p4)), 0), (.p p60 (.bin .sub (.t p59) (.c (.int .i64 (.ofNat 4)))), 16), (.p p61 (.mv (.t p8)), 0), (.p p62 (.bin .add (.t p61) (.c (.int .u32 (.ofNat 1)))), 64), (.p p63 (.idxStr (.c (.str 200 9938655150514779720929161263213647789093395803754561035662628441001274968862597953692946393464194303251501229616933063375291039650253924995779037586872666250072396106842829501851083234932712366962979930255066872747696324303968523733872590022915936937156789320557469720923390131174387415513794469201054844961267015441141542819553679203788501627738430154234325528792480477051962324423099068299719245009424585859096469223093538032153047611602695245052081125123941502624659711709950000)) (.t p62)), 192), (.p p64 (.mv (.t p8)), 0), (.p p65 (.idxStr (.c (.str 200 9938655150514779720929161263213647789093395803754561035662628441001274968862597953692946393464194303251501229616933063375291039650253924995779037586872666250072396106842829501851083234932712366962979930255066872747696324303968523733872590022915936937156789320557469720923390131174387415513794469201054844961267015441141542819553679203788501627738430154234325528792480477051962324423099068299719245009424585859096469223093538032153047611602695245052081125123941502624659711709950000)) (.t p64)), 512), (.p p66 (.iaddrS 1 (.t p55) (.t p57)), 455), (.n (.store 1 (.t p66) (.t p63)), 2503), (.p p67 (.iaddrS 1 (.t p58) (.t p60)), 8191), (.n (.store 1 (.t p67) (.t p65)), 16383)])
   (.seq (.dreg [(.p p68 (.mv (.t p0)), 0), (.p p69 (.mv (.t p4)), 0), (.p p70 (.bin .sub (.t p69) (.c (.int .i64 (.ofNat 5)))), 2), (.p p71 (.mv (.t p0)), 0), (.p p72 (.mv (.t p4)), 0), (.p p73 (.bin .sub (.t p72) (.c (.int .i64 (.ofNat 6)))), 16), (.p p74 (.mv (.t p11)), 0), (.p p75 (.bin .add (.t p74) (.c (.int .u32 (.ofNat 1)))), 64), (.p p76 (.idxStr (.c (.str 200 9938655150514779720929161263213647789093395803754561035662628441001274968862597953692946393464194303251501229616933063375291039650253924995779037586872666250072396106842829501851083234932712366962979930255066872747696324303968523733872590022915936937156789320557469720923390131174387415513794469201054844961267015441141542819553679203788501627738430154234325528792480477051962324423099068299719245009424585859096469223093538032153047611602695245052081125123941502624659711709950000)) (.t p75)), 192), (.p p77 (.mv (.t p11)), 0), (.p p78 (.idxStr (.c (.str 200 9938655150514779720929161263213647789093395803754561035662628441001274968862597953692946393464194303251501229616933063375291039650253924995779037586872666250072396106842829501851083234932712366962979930255066872747696324303968523733872590022915936937156789320557469720923390131174387415513794469201054844961267015441141542819553679203788501627738430154234325528792480477051962324423099068299719245009424585859096469223093538032153047611602695245052081125123941502624659711709950000)) (.t p77)), 512), (.p p79 (.iaddrS 1 (.t p68) (.t p70)), 455), (.n (.store 1 (.t p79) (.t p76)), 2503), (.p p80 (.iaddrS 1 (.t p71) (.t p73)), 8191), (.n (.store 1 (.t p80) (.t p78)), 16383)])
   (.seq (.dreg [(.p p81 (.mv (.t p0)), 0), (.p p82 (.mv (.t p4)), 0), (.p p83 (.bin .sub (.t p82) (.c (.int .i64 (.ofNat 7)))), 2), (.p p84 (.mv (.t p0)), 0), (.p p85 (.mv (.t p4)), 0), (.p p86 (.bin .sub (.t p85) (.c (.int .i64 (.ofNat 8)))), 16), (.p p87 (.mv (.t p10)), 0), (.p p88 (.bin .add (.t p87) (.c (.int .u32 (.ofNat 1)))), 64), (.p p89 (.idxStr (.c (.str 200 9938655150514779720929161263213647789093395803754561035662628441001274968862597953692946393464194303251501229616933063375291039650253924995779037586872666250072396106842829501851083234932712366962979930255066872747696324303968523733872590022915936937156789320557469720923390131174387415513794469201054844961267015441141542819553679203788501627738430154234325528792480477051962324423099068299719245009424585859096469223093538032153047611602695245052081125123941502624659711709950000)) (.t p88)), 192), (.p p90 (.mv (.t p10)), 0), (.p p91 (.idxStr (.c (.str 200 9938655150514779720929161263213647789093395803754561035662628441001274968862597953692946393464194303251501229616933063375291039650253924995779037586872666250072396106842829501851083234932712366962979930255066872747696324303968523733872590022915936937156789320557469720923390131174387415513794469201054844961267015441141542819553679203788501627738430154234325528792480477051962324423099068299719245009424585859096469223093538032153047611602695245052081125123941502624659711709950000)) (.t p90)), 512), (.p p92 (.iaddrS 1 (.t p81) (.t p83)), 455), (.n (.store 1 (.t p92) (.t p89)), 2503), (.p p93 (.iaddrS 1 (.t p84) (.t p86)), 8191), (.n (.store 1 (.t p93) (.t p91)), 16383)])
   (.reg [.p p94 (.mv (.t p4)),
   .p p95 (.bin .sub (.t p94) (.c (.int .i64 (.ofNat 8)))),
   .p p4 (.mv (.t p95))]))))))))))))))
   (.seq (.reg [.p p96 (.mv (.t p1)),
   .p p97 (.convI .u32 (.t p96)),
   .p p12 (.mv (.t p97))])
   (.seq (.seq (.reg [.p p98 (.mv (.t p4)),
   .p p99 (.bin .geq (.t p98) (.c (.int .i64 (.ofNat 4))))])
   (.cond (.t p99) (.seq (.reg [.p p100 (.mv (.t p12)),
   .p p101 (.bin .rem (.t p100) (.c (.int .u32 (.ofNat 10000)))),
   .p p13 (.mv (.t p101))])
   (.seq (.reg [.p p102 (.mv (.t p12)),
   .p p103 (.bin .quo (.t p102) (.c (.int .u32 (.ofNat 10000)))),
   .p p12 (.mv (.t p103))])
   (.seq (.reg [.p p104 (.mv (.t p13)),
   .p p105 (.bin .quo (.t p104) (.c (.int .u32 (.ofNat 100)))),
   .p p106 (.bin .mul (.t p105) (.c (.int .u32 (.ofNat 2)))),
   .p p107 (.mv (.t p13)),
   .p p108 (.bin .rem (.t p107) (.c (.int .u32 (.ofNat 100)))),
   .p p109 (.bin .mul (.t p108) (.c (.int .u32 (.ofNat 2)))),
   .p p14 (.mv (.t p106)),
   .p p15 (.mv (.t p109))])
   (.seq (.dreg [(.p p110 (.mv (.t p0)), 0), (.p p111 (.mv (.t p4)), 0), (.p p112 (.bin .sub (.t p111) (.c (.int .i64 (.ofNat 1)))), 2), (.p p113 (.mv (.t p0)), 0), (.p p114 (.mv (.t p4)), 0), (.p p115 (.bin .sub (.t p114) (.c (.int .i64 (.ofNat 2)))), 16), (.p p116 (.mv (.t p15)), 0), (.p p117 (.bin .add (.t p116) (.c (.int .u32 (.ofNat 1)))), 64), (.p p118 (.idxStr (.c (.str 200 9938655150514779720929161263213647789093395803754561035662628441001274968862597953692946393464194303251501229616933063375291039650253924995779037586872666250072396106842829501851083234932712366962979930255066872747696324303968523733872590022915936937156789320557469720923390131174387415513794469201054844961267015441141542819553679203788501627738430154234325528792480477051962324423099068299719245009424585859096469223093538032153047611602695245052081125123941502624659711709950000)) (.t p117)), 192), (.p p119 (.mv (.t p15)), 0), (.p p120 (.idxStr (.c (.str 200 9938655150514779720929161263213647789093395803754561035662628441001274968862597953692946393464194303251501229616933063375291039650253924995779037586872666250072396106842829501851083234932712366962979930255066872747696324303968523733872590022915936937156789320557469720923390131174387415513794469201054844961267015441141542819553679203788501627738430154234325528792480477051962324423099068299719245009424585859096469223093538032153047611602695245052081125123941502624659711709950000)) (.t p119)), 512), (.p p121 (.iaddrS 1 (.t p110) (.t p112)), 455), (.n (.store 1 (.t p121) (.t p118)), 2503), (.p p122 (.iaddrS 1 (.t p113) (.t p115)), 8191), (.n (.store 1 (.t p122) (.t p120)), 16383)])
   (.seq (.dreg [(.p p123 (.mv (.t p0)), 0), (.p p124 (.mv (.t p4)), 0), (.p p125 (.bin .sub (.t p124) (.c (.int .i64 (.ofNat 3)))), 2), (.p p126 (.mv (.t p0)), 0), (.p p127 (.mv (.t p4)), 0), (.p p128 (.bin .sub (.t p127) (.c (.int .i64 (.ofNat 4)))), 16), (.p p129 (.mv (.t p14)), 0), (.p p130 (.bin .add (.t p129) (.c (.int .u32 (.ofNat 1)))), 64), (.p p131 (.idxStr (.c (.str 200 9938655150514779720929161263213647789093395803754561035662628441001274968862597953692946393464194303251501229616933063375291039650253924995779037586872666250072396106842829501851083234932712366962979930255066872747696324303968523733872590022915936937156789320557469720923390131174387415513794469201054844961267015441141542819553679203788501627738430154234325528792480477051962324423099068299719245009424585859096469223093538032153047611602695245052081125123941502624659711709950000)) (.t p130)), 192), (.p p132 (.mv (.t p14)), 0), (.p p133 (.idxStr (.c (.str 200 9938655150514779720929161263213647789093395803754561035662628441001274968862597953692946393464194303251501229616933063375291039650253924995779037586872666250072396106842829501851083234932712366962979930255066872747696324303968523733872590022915936937156789320557469720923390131174387415513794469201054844961267015441141542819553679203788501627738430154234325528792480477051962324423099068299719245009424585859096469223093538032153047611602695245052081125123941502624659711709950000)) (.t p132)), 512), (.p p134 (.iaddrS 1 (.t p123) (.t p125)), 455), (.n (.store 1 (.t p134) (.t p131)), 2503), (.p p135 (.iaddrS 1 (.t p126) (.t p128)), 8191), (.n (.store 1 (.t p135) (.t p133)), 16383)])
   (.reg [.p p136 (.mv (.t p4)),
   .p p137 (.bin .sub (.t p136) (.c (.int .i64 (.ofNat 4)))),
   .p p4 (.mv (.t p137))])))))) .skip))
   (.seq (.seq (.reg [.p p138 (.mv (.t p4)),
   .p p139 (.bin .geq (.t p138) (.c (.int .i64 (.ofNat 2))))])
   (.cond (.t p139) (.seq (.reg [.p p140 (.mv (.t p12)),
   .p p141 (.bin .rem (.t p140) (.c (.int .u32 (.ofNat 100)))),
   .p p142 (.bin .mul (.t p141) (.c (.int .u32 (.ofNat 2)))),
   .p p16 (.mv (.t p142))])
   (.seq (.reg [.p p143 (.mv (.t p12)),
   .p p144 (.bin .quo (.t p143) (.c (.int .u32 (.ofNat 100)))),
   .p p12 (.mv (.t p144))])
   (.seq (.dreg [(.p p145 (.mv (.t p0)), 0), (.p p146 (.mv (.t p4)), 0), (.p p147 (.bin .sub (.t p146) (.c (.int .i64 (.ofNat 1)))), 2), (.p p148 (.mv (.t p0)), 0), (.p p149 (.mv (.t p4)), 0), (.p p150 (.bin .sub (.t p149) (.c (.int .i64 (.ofNat 2)))), 16), (.p p151 (.mv (.t p16)), 0), (.p p152 (.bin .add (.t p151) (.c (.int .u32 (.ofNat 1)))), 64), (.p p153 (.idxStr (.c (.str 200 9938655150514779720929161263213647789093395803754561035662628441001274968862597953692946393464194303251501229616933063375291039650253924995779037586872666250072396106842829501851083234932712366962979930255066872747696324303968523733872590022915936937156789320557469720923390131174387415513794469201054844961267015441141542819553679203788501627738430154234325528792480477051962324423099068299719245009424585859096469223093538032153047611602695245052081125123941502624659711709950000)) (.t p152)), 192), (.p p154 (.mv (.t p16)), 0), (.p p155 (.idxStr (.c (.str 200 9938655150514779720929161263213647789093395803754561035662628441001274968862597953692946393464194303251501229616933063375291039650253924995779037586872666250072396106842829501851083234932712366962979930255066872747696324303968523733872590022915936937156789320557469720923390131174387415513794469201054844961267015441141542819553679203788501627738430154234325528792480477051962324423099068299719245009424585859096469223093538032153047611602695245052081125123941502624659711709950000)) (.t p154)), 512), (.p p156 (.iaddrS 1 (.t p145) (.t p147)), 455), (.n (.store 1 (.t p156) (.t p153)), 2503), (.p p157 (.iaddrS 1 (.t p148) (.t p150)), 8191), (.n (.store 1 (.t p157) (.t p155)), 16383)])
   (.reg [.p p158 (.mv (.t p4)),
   .p p159 (.bin .sub (.t p158) (.c (.int .i64 (.ofNat 2)))),
   .p p4 (.mv (.t p159))])))) .skip))
   (.seq (.reg [.p p160 (.mv (.t p4)),
   .p p161 (.bin .gtr (.t p160) (.c (.int .i64 (.ofNat 0))))])
   (.cond (.t p161) (.reg [.p p162 (.mv (.t p0)),
   .p p163 (.mv (.t p12)),
   .p p164 (.bin .add (.c (.int .u32 (.ofNat 48))) (.t p163)),
   .p p165 (.convI .u8 (.t p164)),
   .p p166 (.iaddrS 1 (.t p162) (.c (.int .i64 (.ofNat 0)))),
   .n (.store 1 (.t p166) (.t p165))]) .skip)))))))
   []
/- internal/strconv.formatBits -/
def a124 : AF :=
  .code [p0, p1, p2, p3, p4] (.seq (.reg [.p p10 (.mv (.c (.nils))),
   .p p11 (.mv (.c (.str 0 0)))])
   (.seq (.seq (.reg [.p p19 (.mv (.t p2)),
   .p p20 (.bin .lss (.t p19) (.c (.int .i64 (.ofNat 2)))),
   .p p21 (.mv (.t p20)),
   .g p22 (.mv (.t p2)) p21 false,
   .g p23 (.bin .eql (.t p22) (.c (.int .i64 (.ofNat 10)))) p21 false,
   .p p24 (.pick (.t p21) (.c (.bool true)) (.t p23)),
   .p p25 (.mv (.t p24)),
   .g p26 (.mv (.t p2)) p25 false,
   .g p27 (.bin .gtr (.t p26) (.c (.int .i64 (.ofNat 36)))) p25 false,
   .p p28 (.pick (.t p25) (.c (.bool true)) (.t p27))])
   (.cond (.t p28) (.reg [.p p29 (.mkif 9 (.c (.str 41 216697390027125670893655747107225825579143285394002440301576320671928898198549784051036142863283315))),
   .n (.stop)]) .skip))
   (.seq (.reg [.p p12 (.alloc 219 [.int .u8 (.ofNat 0), .int .u8 (.ofNat 0), .int .u8 (.ofNat 0), .int .u8 (.ofNat 0), .int .u8 (.ofNat 0), .int .u8 (.ofNat 0), .int .u8 (.ofNat 0), .int .u8 (.ofNat 0), .int .u8 (.ofNat 0), .int .u8 (.ofNat 0), .int .u8 (.ofNat 0), .int .u8 (.ofNat 0), .int .u8 (.ofNat 0), .int .u8 (.ofNat 0), .int .u8 (.ofNat 0), .int .u8 (.ofNat 0), .int .u8 (.ofNat 0), .int .u8 (.ofNat 0), .int .u8 (.ofNat 0), .int .u8 (.ofNat 0), .int .u8 (.ofNat 0), .int .u8 (.ofNat 0), .int .u8 (.ofNat 0), .int .u8 (.ofNat 0), .int .u8 (.ofNat 0), .int .u8 (.ofNat 0), .int .u8 (.ofNat 0), .int .u8 (.ofNat 0), .int .u8 (.ofNat 0), .int .u8 (.ofNat 0), .int .u8 (.ofNat 0), .int .u8 (.ofNat 0), .int .u8 (.ofNat 0), .int .u8 (.ofNat 0), .int .u8 (.ofNat 0), .int .u8 (.ofNat 0), .int .u8 (.ofNat 0), .int .u8 (.ofNat 0), .int .u8 (.ofNat 0), .int .u8 (.ofNat 0), .int .u8 (.ofNat 0), .int .u8 (.ofNat 0), .int .u8 (.ofNat 0), .int .u8 (.ofNat 0), .int .u8 (.ofNat 0), .int .u8 (.ofNat 0), .int .u8 (.ofNat 0), .int .u8 (.ofNat 0), .int .u8 (.ofNat 0), .int .u8 (.ofNat 0), .int .u8 (.ofNat 0), .int .u8 (.ofNat 0), .int .u8 (.ofNat 0), .int .u8 (.ofNat 0), .int .u8 (.ofNat 0), .int .u8 (.ofNat 0), .int .u8 (.ofNat 0), .int .u8 (.ofNat 0), .int .u8 (.ofNat 0), .int .u8 (.ofNat 0), .int .u8 (.ofNat 0), .int .u8 (.ofNat 0), .int .u8 (.ofNat 0), .int .u8 (.ofNat 0), .int .u8 (.ofNat 0)])])
   (.seq (.reg [.p p13 (.mv (.c (.int .i64 (.ofNat 65))))])
   (.seq (.seq (.reg [.p p30 (.mv (.t p3))])
   (.cond (.t p30) (.reg [.p p31 (.mv (.t p1)),
   .p p32 (.neg (.t p31)),
   .p p1 (.mv (.t p32))]) .skip))
   (.seq (.seq (.reg [.p p33 (.mv (.t p2)),
   .p p34 (.call 131 [(.t p33)])])
   (.cond (.t p34) (.seq (.reg [.p p35 (.mv (.t p2)),
   .p p36 (.convI .u64 (.t p35)),
   .p p37 (.call 132 [(.t p36)]),
   .p p38 (.convI .u64 (.t p37)),
   .p p14 (.mv (.t p38))])
   (.seq (.reg [.p p39 (.mv (.t p2)),
   .p p40 (.convI .u64 (.t p39)),
   .p p15 (.mv (.t p40))])
   (.seq (.reg [.p p41 (.mv (.t p2)),
   .p p42 (.convI .u64 (.t p41)),
   .p p43 (.bin .sub (.t p42) (.c (.int .u64 (.ofNat 1)))),
   .p p16 (.mv (.t p43))])
   (.seq (.block 0 (.loop (.seq (.seq (.reg [.p p44 (.mv (.t p1)),
   .p p45 (.mv (.t p15)),
   .p p46 (.bin .geq (.t p44) (.t p45))])
   (.cond (.t p46) .skip (.exit 0)))
   (.block 1 (.seq (.reg [.p p47 (.mv (.t p13)),
   .p p48 (.bin .sub (.t p47) (.c (.int .i64 (.ofNat 1)))),
   .p p13 (.mv (.t p48))])
   (.seq (.reg [.p p49 (.mv (.t p13)),
   .p p50 (.mv (.t p1)),
   .p p51 (.mv (.t p16)),
   .p p52 (.bin .and (.t p50) (.t p51)),
   .p p53 (.idxStr (.c (.str 36 237927390410950444456928663707796224754864904193074819559483181009558347043374296609072)) (.t p52)),
   .p p54 (.iaddrA 65 1 (.t p12) (.t p49)),
   .n (.store 1 (.t p54) (.t p53))])
   (.reg [.p p55 (.mv (.t p1)),
   .p p56 (.mv (.t p14)),
   .p p57 (.shf false (.t p55) (.t p56)),
   .p p1 (.mv (.t p57))])))))))
   (.seq (.reg [.p p58 (.mv (.t p13)),
   .p p59 (.bin .sub (.t p58) (.c (.int .i64 (.ofNat 1)))),
   .p p13 (.mv (.t p59))])
   (.reg [.p p60 (.mv (.t p13)),
   .p p61 (.mv (.t p1)),
   .p p62 (.idxStr (.c (.str 36 237927390410950444456928663707796224754864904193074819559483181009558347043374296609072)) (.t p61)),
   .p p63 (.iaddrA 65 1 (.t p12) (.t p60)),
   .n (.store 1 (.t p63) (.t p62))])))))) (.seq (.reg [.p p64 (.mv (.t p2)),
   .p p65 (.convI .u64 (.t p64)),
   .p p17 (.mv (.t p65))])
   (.seq (.block 2 (.loop (.seq (.seq (.reg [.p p66 (.mv (.t p1)),
   .p p67 (.mv (.t p17)),
   .p p68 (.bin .geq (.t p66) (.t p67))])
   (.cond (.t p68) .skip (.exit 2)))
   (.block 3 (.seq (.reg [.p p69 (.mv (.t p13)),
   .p p70 (.bin .sub (.t p69) (.c (.int .i64 (.ofNat 1)))),
   .p p13 (.mv (.t p70))])
   (.seq (.reg [.p p71 (.mv (.t p1)),
   .p p72 (.mv (.t p17)),
   .p p73 (.bin .quo (.t p71) (.t p72)),
   .p p18 (.mv (.t p73))])
   (.seq (.reg [.p p74 (.mv (.t p13)),
   .p p75 (.mv (.t p1)),
   .p p76 (.mv (.t p18)),
   .p p77 (.mv (.t p17)),
   .p p78 (.bin .mul (.t p76) (.t p77)),
   .p p79 (.bin .sub (.t p75) (.t p78)),
   .p p80 (.idxStr (.c (.str 36 237927390410950444456928663707796224754864904193074819559483181009558347043374296609072)) (.t p79)),
   .p p81 (.iaddrA 65 1 (.t p12) (.t p74)),
   .n (.store 1 (.t p81) (.t p80))])
   (.reg [.p p82 (.mv (.t p18)),
   .p p1 (.mv (.t p82))]))))))))
   (.seq (.reg [.p p83 (.mv (.t p13)),
   .p p84 (.bin .sub (.t p83) (.c (.int .i64 (.ofNat 1)))),
   .p p13 (.mv (.t p84))])
   (.reg [.p p85 (.mv (.t p13)),
   .p p86 (.mv (.t p1)),
   .p p87 (.idxStr (.c (.str 36 237927390410950444456928663707796224754864904193074819559483181009558347043374296609072)) (.t p86)),
   .p p88 (.iaddrA 65 1 (.t p12) (.t p85)),
   .n (.store 1 (.t p88) (.t p87))]))))))
   (.seq (.seq (.reg [.p p89 (.mv (.t p3))])
   (.cond (.t p89) (.seq (.reg [.p p90 (.mv (.t p13)),
   .p p91 (.bin .sub (.t p90) (.c (.int .i64 (.ofNat 1)))),
   .p p13 (.mv (.t p91))])
   (.reg [.p p92 (.mv (.t p13)),
   .p p93 (.iaddrA 65 1 (.t p12) (.t p92)),
   .n (.store 1 (.t p93) (.c (.int .u8 (.ofNat 45))))])) .skip))
   (.seq (.seq (.reg [.p p94 (.mv (.t p4))])
   (.cond (.t p94) (.seq (.reg [.p p95 (.mv (.t p0)),
   .p p96 (.mv (.t p13)),
   .p p97 (.sliceA 65 1 (.t p12) (some (.t p96)) none none),
   .p p98 (.append 5 1 1 (.t p95) (.t p97)),
   .p p10 (.mv (.t p98))])
   .ret) .skip))
   (.seq (.reg [.p p99 (.mv (.t p13)),
   .p p100 (.sliceA 65 1 (.t p12) (some (.t p99)) none none),
   .p p101 (.convBS (.t p100)),
   .p p11 (.mv (.t p101))])
   .ret)))))))))
   [.t p10, .t p11]
/- unicode/utf8.RuneStart -/
def a125 : AF :=
  .code [p0] (.seq (.reg [.p p2 (.mv (.c (.bool false)))])
   (.seq (.reg [.p p3 (.mv (.t p0)),
   .p p4 (.bin .and (.t p3) (.c (.int .u8 (.ofNat 192)))),
   .p p5 (.bin .neq (.t p4) (.c (.int .u8 (.ofNat 128)))),
   .p p2 (.mv (.t p5))])
   .ret))
   [.t p2]
/- internal/strconv.lower -/
def a126 : AF :=
  .code [p0] (.seq (.reg [.p p2 (.mv (.c (.int .u8 (.ofNat 0))))])
   (.seq (.reg [.p p3 (.mv (.t p0)),
   .p p4 (.bin .or (.t p3) (.c (.int .u8 (.ofNat 32)))),
   .p p2 (.mv (.t p4))])
   .ret))
   [.t p2]
/- internal/strconv.underscoreOK -/
def a127 : AF :=
  .code [p0] (.seq (.reg [.p p2 (.mv (.c (.bool false)))])
   (.seq (.reg [.p p3 (.mv (.c (.int .i32 (.ofNat 94))))])
   (.seq (.reg [.p p4 (.mv (.c (.int .i64 (.ofNat 0))))])
   (.seq (.seq (.reg [.p p6 (.mv (.t p0)),
   .p p7 (.lenStr (.t p6)),
   .p p8 (.bin .geq (.t p7) (.c (.int .i64 (.ofNat 1)))),
   .p p9 (.mv (.t p8)),
   .g p10 (.mv (.t p0)) p9 true,
   .g p11 (.idxStr (.t p10) (.c (.int .i64 (.ofNat 0)))) p9 true,
   .g p12 (.bin .eql (.t p11) (.c (.int .u8 (.ofNat 45)))) p9 true,
   .g p13 (.mv (.t p12)) p9 true,
   .g p14 (.mv (.t p0)) p13 false,
   .g p15 (.idxStr (.t p14) (.c (.int .i64 (.ofNat 0)))) p13 false,
   .g p16 (.bin .eql (.t p15) (.c (.int .u8 (.ofNat 43)))) p13 false,
   .g p17 (.pick (.t p13) (.c (.bool true)) (.t p16)) p9 true,
   .p p18 (.pick (.t p9) (.t p17) (.c (.bool false)))])
   (.cond (.t p18) (.reg [.p p19 (.mv (.t p0)),
   .p p20 (.sliceStr (.t p19) (some (.c (.int .i64 (.ofNat 1)))) none),
   .p p0 (.mv (.t p20))]) .skip))
   (.seq (.reg [.p p5 (.mv (.c (.bool false)))])
   (.seq (.seq (.reg [.p p21 (.mv (.t p0)),
   .p p22 (.lenStr (.t p21)),
   .p p23 (.bin .geq (.t p22) (.c (.int .i64 (.ofNat 2)))),
   .p p24 (.mv (.t p23)),
   .g p25 (.mv (.t p0)) p24 true,
   .g p26 (.idxStr (.t p25) (.c (.int .i64 (.ofNat 0)))) p24 true,
   .g p27 (.bin .eql (.t p26) (.c (.int .u8 (.ofNat 48)))) p24 true,
   .p p28 (.pick (.t p24) (.t p27) (.c (.bool false))),
   .p p29 (.mv (.t p28)),
   .g p30 (.mv (.t p0)) p29 true,
   .g p31 (.idxStr (.t p30) (.c (.int .i64 (.ofNat 1)))) p29 true,
   .g p32 (.call 126 [(.t p31)]) p29 true,
   .g p33 (.bin .eql (.t p32) (.c (.int .u8 (.ofNat 98)))) p29 true,
   .g p34 (.mv (.t p33)) p29 true,
   .g p35 (.mv (.t p0)) p34 false,
   .g p36 (.idxStr (.t p35) (.c (.int .i64 (.ofNat 1)))) p34 false,
   .g p37 (.call 126 [(.t p36)]) p34 false,
   .g p38 (.bin .eql (.t p37) (.c (.int .u8 (.ofNat 111)))) p34 false,
   .g p39 (.pick (.t p34) (.c (.bool true)) (.t p38)) p29 true,
   .g p40 (.mv (.t p39)) p29 true,
   .g p41 (.mv (.t p0)) p40 false,
   .g p42 (.idxStr (.t p41) (.c (.int .i64 (.ofNat 1)))) p40 false,
   .g p43 (.call 126 [(.t p42)]) p40 false,
   .g p44 (.bin .eql (.t p43) (.c (.int .u8 (.ofNat 120)))) p40 false,
   .g p45 (.pick (.t p40) (.c (.bool true)) (.t p44)) p29 true,
   .p p46 (.pick (.t p29) (.t p45) (.c (.bool false)))])
   (.cond (.t p46) (.seq (.reg [.p p4 (.mv (.c (.int .i64 (.ofNat 2))))])
   (.seq (.reg [.p p3 (.mv (.c (.int .i32 (.ofNat 48))))])
   (.reg [.p p47 (.mv (.t p0)),
   .p p48 (.idxStr (.t p47) (.c (.int .i64 (.ofNat 1)))),
   .p p49 (.call 126 [(.t p48)]),
   .p p50 (.bin .eql (.t p49) (.c (.int .u8 (.ofNat 120)))),
   .p p5 (.mv (.t p50))]))) .skip))
   (.seq (.block 0 (.loop (.seq (.seq (.reg [.p p51 (.mv (.t p4)),
   .p p52 (.mv (.t p0)),
   .p p53 (.lenStr (.t p52)),
   .p p54 (.bin .lss (.t p51) (.t p53))])
   (.cond (.t p54) .skip (.exit 0)))
   (.seq (.block 1 (.seq (.seq (.reg [.p p57 (.mv (.t p0)),
   .p p58 (.mv (.t p4)),
   .p p59 (.idxStr (.t p57) (.t p58)),
   .p p60 (.bin .leq (.c (.int .u8 (.ofNat 48))) (.t p59)),
   .p p61 (.mv (.t p60)),
   .g p62 (.mv (.t p0)) p61 true,
   .g p63 (.mv (.t p4)) p61 true,
   .g p64 (.idxStr (.t p62) (.t p63)) p61 true,
   .g p65 (.bin .leq (.t p64) (.c (.int .u8 (.ofNat 57)))) p61 true,
   .p p66 (.pick (.t p61) (.t p65) (.c (.bool false))),
   .p p67 (.mv (.t p66)),
   .g p68 (.mv (.t p5)) p67 false,
   .g p69 (.mv (.t p68)) p67 false,
   .g p70 (.mv (.t p0)) p69 true,
   .g p71 (.mv (.t p4)) p69 true,
   .g p72 (.idxStr (.t p70) (.t p71)) p69 true,
   .g p73 (.call 126 [(.t p72)]) p69 true,
   .g p74 (.bin .leq (.c (.int .u8 (.ofNat 97))) (.t p73)) p69 true,
   .g p75 (.pick (.t p69) (.t p74) (.c (.bool false))) p67 false,
   .g p76 (.mv (.t p75)) p67 false,
   .g p77 (.mv (.t p0)) p76 true,
   .g p78 (.mv (.t p4)) p76 true,
   .g p79 (.idxStr (.t p77) (.t p78)) p76 true,
   .g p80 (.call 126 [(.t p79)]) p76 true,
   .g p81 (.bin .leq (.t p80) (.c (.int .u8 (.ofNat 102)))) p76 true,
   .g p82 (.pick (.t p76) (.t p81) (.c (.bool false))) p67 false,
   .p p83 (.pick (.t p67) (.c (.bool true)) (.t p82))])
   (.cond (.t p83) (.seq (.reg [.p p3 (.mv (.c (.int .i32 (.ofNat 48))))])
   (.exit 1)) .skip))
   (.seq (.seq (.reg [.p p84 (.mv (.t p0)),
   .p p85 (.mv (.t p4)),
   .p p86 (.idxStr (.t p84) (.t p85)),
   .p p87 (.bin .eql (.t p86) (.c (.int .u8 (.ofNat 95))))])
   (.cond (.t p87) (.seq (.seq (.reg [.p p88 (.mv (.t p3)),
   .p p89 (.bin .neq (.t p88) (.c (.int .i32 (.ofNat 48))))])
   (.cond (.t p89) (.seq (.reg [.p p2 (.mv (.c (.bool false)))])
   .ret) .skip))
   (.seq (.reg [.p p3 (.mv (.c (.int .i32 (.ofNat 95))))])
   (.exit 1))) .skip))
   (.seq (.seq (.reg [.p p90 (.mv (.t p3)),
   .p p91 (.bin .eql (.t p90) (.c (.int .i32 (.ofNat 95))))])
   (.cond (.t p91) (.seq (.reg [.p p2 (.mv (.c (.bool false)))])
   .ret) .skip))
   (.reg [.p p3 (.mv (.c (.int .i32 (.ofNat 33))))])))))
   (.reg [.p p55 (.mv (.t p4)),
   .p p56 (.bin .add (.t p55) (.c (.int .i64 (.ofNat 1)))),
   .p p4 (.mv (.t p56))])))))
   (.seq (.reg [.p p92 (.mv (.t p3)),
   .p p93 (.bin .neq (.t p92) (.c (.int .i32 (.ofNat 95)))),
   .p p2 (.mv (.t p93))])
   .ret))))))))
   [.t p2]
/- internal/strconv.log10Pow2 -/
def a128 : AF :=
  .code [p0] (.seq (.reg [.p p2 (.mv (.c (.int .i64 (.ofNat 0))))])
   (.seq (.reg [.p p3 (.mv (.t p0)),
   .p p4 (.bin .mul (.t p3) (.c (.int .i64 (.ofNat 78913)))),
   .p p5 (.shf false (.t p4) (.c (.int .u64 (.ofNat 18)))),
   .p p2 (.mv (.t p5))])
   .ret))
   [.t p2]
/- math/bits.Len64 -/
def a129 : AF :=
  .code [p0] (.seq (.reg [.p p2 (.mv (.c (.int .i64 (.ofNat 0))))])
   (.seq (.seq (.reg [.p p3 (.mv (.t p0)),
   .p p4 (.bin .geq (.t p3) (.c (.int .u64 (.ofNat 4294967296))))])
   (.cond (.t p4) (.seq (.reg [.p p5 (.mv (.t p0)),
   .p p6 (.shf false (.t p5) (.c (.int .u64 (.ofNat 32)))),
   .p p0 (.mv (.t p6))])
   (.reg [.p p2 (.mv (.c (.int .i64 (.ofNat 32))))])) .skip))
   (.seq (.seq (.reg [.p p7 (.mv (.t p0)),
   .p p8 (.bin .geq (.t p7) (.c (.int .u64 (.ofNat 65536))))])
   (.cond (.t p8) (.seq (.reg [.p p9 (.mv (.t p0)),
   .p p10 (.shf false (.t p9) (.c (.int .u64 (.ofNat 16)))),
   .p p0 (.mv (.t p10))])
   (.reg [.p p11 (.mv (.t p2)),
   .p p12 (.bin .add (.t p11) (.c (.int .i64 (.ofNat 16)))),
   .p p2 (.mv (.t p12))])) .skip))
   (.seq (.seq (.reg [.p p13 (.mv (.t p0)),
   .p p14 (.bin .geq (.t p13) (.c (.int .u64 (.ofNat 256))))])
   (.cond (.t p14) (.seq (.reg [.p p15 (.mv (.t p0)),
   .p p16 (.shf false (.t p15) (.c (.int .u64 (.ofNat 8)))),
   .p p0 (.mv (.t p16))])
   (.reg [.p p17 (.mv (.t p2)),
   .p p18 (.bin .add (.t p17) (.c (.int .i64 (.ofNat 8)))),
   .p p2 (.mv (.t p18))])) .skip))
   (.seq (.reg [.p p19 (.mv (.t p2)),
   .p p20 (.mv (.t p0)),
   .p p21 (.convI .u8 (.t p20)),
   .p p22 (.idxStr (.c (.str 256 1013866857139168856493015739252390649739422828853819106890363778118420553376247557433637691341895324351018602695588957474325319502760499485336098898398377509666851054660423406800006203933793007272033180812049178612605246075062580585469430410618860250057463399279570354286669047577758927328864388992123306212451509403152394148136105363817402562688186708175358218852349079190158732807302672745370040257219644697201681238697346923541678507645485296520536209706771857694240900605172937619415410180424934769249448772944216470541052485265558808433676546390051204254346932932316488017972311616136051587427851453983453479168)) (.t p21)),
   .p p23 (.convI .i64 (.t p22)),
   .p p24 (.bin .add (.t p19) (.t p23)),
   .p p2 (.mv (.t p24))])
   .ret)))))
   [.t p2]
/- internal/strconv.bool2[int] -/
def a130 : AF :=
  .code [p0] (.seq (.reg [.p p2 (.mv (.c (.int .i64 (.ofNat 0))))])
   (.seq (.seq (.reg [.p p3 (.mv (.t p0))])
   (.cond (.t p3) (.seq (.reg [.p p2 (.mv (.c (.int .i64 (.ofNat 1))))])
   .ret) .skip))
   (.seq (.reg [.p p2 (.mv (.c (.int .i64 (.ofNat 0))))])
   .ret)))
   [.t p2]
/- internal/strconv.isPowerOfTwo -/
def a131 : AF :=
  .code [p0] (.seq (.reg [.p p2 (.mv (.c (.bool false)))])
   (.seq (.reg [.p p3 (.mv (.t p0)),
   .p p4 (.mv (.t p0)),
   .p p5 (.bin .sub (.t p4) (.c (.int .i64 (.ofNat 1)))),
   .p p6 (.bin .and (.t p3) (.t p5)),
   .p p7 (.bin .eql (.t p6) (.c (.int .i64 (.ofNat 0)))),
   .p p2 (.mv (.t p7))])
   .ret))
   [.t p2]
/- math/bits.TrailingZeros -/
def a132 : AF :=
  .code [p0] (.seq (.reg [.p p2 (.mv (.c (.int .i64 (.ofNat 0))))])
   (.seq (.cond (.c (.bool false)) (.seq (.reg [.p p3 (.mv (.t p0)),
   .p p4 (.convI .u32 (.t p3)),
   .p p5 (.call 133 [(.t p4)]),
   .p p2 (.mv (.t p5))])
   .ret) .skip)
   (.seq (.reg [.p p6 (.mv (.t p0)),
   .p p7 (.call 134 [(.t p6)]),
   .p p2 (.mv (.t p7))])
   .ret)))
   [.t p2]
/- math/bits.TrailingZeros32 -/
def a133 : AF :=
  .code [p0] (.seq (.reg [.p p2 (.mv (.c (.int .i64 (.ofNat 0))))])
   (.seq (.seq (.reg [.p p3 (.mv (.t p0)),
   .p p4 (.bin .eql (.t p3) (.c (.int .u32 (.ofNat 0))))])
   (.cond (.t p4) (.seq (.reg [.p p2 (.mv (.c (.int .i64 (.ofNat 32))))])
   .ret) .skip))
   (.seq (.reg [.p p5 (.mv (.t p0)),
   .p p6 (.mv (.t p0)),
   .p p7 (.neg (.t p6)),
   .p p8 (.bin .and (.t p5) (.t p7)),
   .p p9 (.bin .mul (.t p8) (.c (.int .u32 (.ofNat 125613361)))),
   .p p10 (.shf false (.t p9) (.c (.int .u64 (.ofNat 27)))),
   .p p11 (.iaddrA 32 1 (.c (.ptr 7 0)) (.t p10)),
   .p p12 (.load1 (.t p11)),
   .p p13 (.convI .i64 (.t p12)),
   .p p2 (.mv (.t p13))])
   .ret)))
   [.t p2]
/- math/bits.TrailingZeros64 -/
def a134 : AF :=
  .code [p0] (.seq (.reg [.p p2 (.mv (.c (.int .i64 (.ofNat 0))))])
   (.seq (.seq (.reg [.p p3 (.mv (.t p0)),
   .p p4 (.bin .eql (.t p3) (.c (.int .u64 (.ofNat 0))))])
   (.cond (.t p4) (.seq (.reg [.p p2 (.mv (.c (.int .i64 (.ofNat 64))))])
   .ret) .skip))
   (.seq (.reg [.p p5 (.mv (.t p0)),
   .p p6 (.mv (.t p0)),
   .p p7 (.neg (.t p6)),
   .p p8 (.bin .and (.t p5) (.t p7)),
   .p p9 (.bin .mul (.t p8) (.c (.int .u64 (.ofNat 285870213051353865)))),
   .p p10 (.shf false (.t p9) (.c (.int .u64 (.ofNat 58)))),
   .p p11 (.iaddrA 64 1 (.c (.ptr 8 0)) (.t p10)),
   .p p12 (.load1 (.t p11)),
   .p p13 (.convI .i64 (.t p12)),
   .p p2 (.mv (.t p13))])
   .ret)))
   [.t p2]
def fns : T AF := (.n (.n (.n (.n (.n (.n (.n (.n .l (some a127) .l) (some a63) .l) (some a31) (.n .l (some a95) .l)) (some a15) (.n (.n .l (some a79) .l) (some a47) (.n .l (some a111) .l))) (some a7) (.n (.n (.n .l (some a71) .l) (some a39) .l) (some a23) (.n .l (some a55) (.n .l (some a119) .l)))) (some a3) (.n (.n (.n (.n (.n .l (some a131) .l) (some a67) .l) (some a35) (.n .l (some a99) .l)) (some a19) (.n (.n .l (some a83) .l) (some a51) (.n .l (some a115) .l))) (some a11) (.n (.n (.n .l (some a75) .l) (some a43) (.n .l (some a107) .l)) (some a27) (.n (.n .l (some a91) .l) (some a59) (.n .l (some a123) .l))))) none (.n (.n (.n (.n (.n (.n .l (some a129) .l) (some a65) .l) (some a33) (.n .l (some a97) .l)) (some a17) (.n (.n .l (some a81) .l) (some a49) (.n .l (some a113) .l))) (some a9) (.n (.n (.n .l (some a73) .l) (some a41) (.n .l (some a105) .l)) (some a25) (.n .l (some a57) (.n .l (some a121) .l)))) (some a5) (.n (.n (.n (.n (.n .l (some a133) .l) (some a69) .l) (some a37) .l) (some a21) (.n (.n .l (some a85) .l) (some a53) (.n .l (some a117) .l))) (some a13) (.n (.n (.n .l (some a77) .l) (some a45) (.n .l (some a109) .l)) (some a29) (.n (.n .l (some a93) .l) (some a61) (.n .l (some a125) .l)))))) none (.n (.n (.n (.n (.n (.n (.n .l (some a128) .l) (some a64) .l) (some a32) (.n .l (some a96) .l)) (some a16) (.n (.n .l (some a80) .l) (some a48) (.n .l (some a112) .l))) (some a8) (.n (.n (.n .l (some a72) .l) (some a40) (.n .l (some a104) .l)) (some a24) (.n .l (some a56) (.n .l (some a120) .l)))) (some a4) (.n (.n (.n (.n (.n .l (some a132) .l) (some a68) .l) (some a36) (.n .l (some a100) .l)) (some a20) (.n (.n .l (some a84) .l) (some a52) (.n .l (some a116) .l))) (some a12) (.n (.n (.n .l (some a76) .l) (some a44) (.n .l (some a108) .l)) (some a28) (.n (.n .l (some a92) .l) (some a60) (.n .l (some a124) .l))))) none (.n (.n (.n (.n (.n (.n .l (some a130) .l) (some a66) .l) (some a34) (.n .l (some a98) .l)) (some a18) (.n (.n .l (some a82) .l) (some a50) (.n .l (some a114) .l))) (some a10) (.n (.n (.n .l (some a74) .l) (some a42) (.n .l (some a106) .l)) (some a26) (.n .l (some a58) (.n .l (some a122) .l)))) (some a6) (.n (.n (.n (.n (.n .l (some a134) .l) (some a70) .l) (some a38) .l) (some a22) (.n (.n .l (some a86) .l) (some a54) (.n .l (some a118) .l))) (some a14) (.n (.n (.n .l (some a78) .l) (some a46) (.n .l (some a110) .l)) (some a30) (.n (.n .l (some a94) .l) (some a62) (.n .l (some a126) .l)))))))
def ifts : List Nat × List (Nat × Nat × Nat) := ([27, 190], [(54, 0, 2)])
end
end Go.Kev.Tryz
