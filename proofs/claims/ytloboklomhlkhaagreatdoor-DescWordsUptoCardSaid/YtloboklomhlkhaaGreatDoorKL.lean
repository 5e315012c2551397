/- Each compiled function is the program's own. -/
import Derived.Test.YtloboklomhlkhaaGreatDoorKF
import Derived.Test.YtloboklomhlkhaaGreatDoorKD
import Derived.Test.YtloboklomhlkhaaGreatDoorProg
import Derived.KernelRfl
set_option linter.unusedVariables false
set_option linter.unusedSimpArgs false
/- Each compiled function is the program's. -/
namespace Go.Kev.Tryz
open Go.Proofs
theorem hmix : Tryz.prog.follows .mixedOrders = true := by kernel_rfl
theorem at4 : Tryz.prog.funcs[4]? = some Tryz.f4 := by kernel_rfl
theorem k4 : compF Tryz.prog 9 ifts false Tryz.f4 1 = some a4 := by kernel_rfl
theorem ok4 (W : World) : FnOk ⟨W, 9⟩ Tryz.prog 4 a4 := compF_ok (c := ⟨W, 9⟩) (ifts := ifts) hmix at4 k4
theorem at6 : Tryz.prog.funcs[6]? = some Tryz.f6 := by kernel_rfl
theorem k6 : compF Tryz.prog 9 ifts false Tryz.f6 1 = some a6 := by kernel_rfl
theorem ok6 (W : World) : FnOk ⟨W, 9⟩ Tryz.prog 6 a6 := compF_ok (c := ⟨W, 9⟩) (ifts := ifts) hmix at6 k6
theorem at8 : Tryz.prog.funcs[8]? = some Tryz.f8 := by kernel_rfl
theorem k8 : compF Tryz.prog 9 ifts true Tryz.f8 0 = some a8 := by kernel_rfl
theorem ok8 (W : World) : FnOk ⟨W, 9⟩ Tryz.prog 8 a8 := compF_ok (c := ⟨W, 9⟩) (ifts := ifts) hmix at8 k8
theorem at9 : Tryz.prog.funcs[9]? = some Tryz.f9 := by kernel_rfl
theorem k9 : compF Tryz.prog 9 ifts false Tryz.f9 2 = some a9 := by kernel_rfl
theorem ok9 (W : World) : FnOk ⟨W, 9⟩ Tryz.prog 9 a9 := compF_ok (c := ⟨W, 9⟩) (ifts := ifts) hmix at9 k9
theorem at12 : Tryz.prog.funcs[12]? = some Tryz.f12 := by kernel_rfl
theorem k12 : compF Tryz.prog 9 ifts false Tryz.f12 2 = some a12 := by kernel_rfl
theorem ok12 (W : World) : FnOk ⟨W, 9⟩ Tryz.prog 12 a12 := compF_ok (c := ⟨W, 9⟩) (ifts := ifts) hmix at12 k12
theorem at13 : Tryz.prog.funcs[13]? = some Tryz.f13 := by kernel_rfl
theorem k13 : compF Tryz.prog 9 ifts false Tryz.f13 1 = some a13 := by kernel_rfl
theorem ok13 (W : World) : FnOk ⟨W, 9⟩ Tryz.prog 13 a13 := compF_ok (c := ⟨W, 9⟩) (ifts := ifts) hmix at13 k13
theorem at14 : Tryz.prog.funcs[14]? = some Tryz.f14 := by kernel_rfl
theorem k14 : compF Tryz.prog 9 ifts false Tryz.f14 1 = some a14 := by kernel_rfl
theorem ok14 (W : World) : FnOk ⟨W, 9⟩ Tryz.prog 14 a14 := compF_ok (c := ⟨W, 9⟩) (ifts := ifts) hmix at14 k14
theorem ok15 (W : World) : FnOk ⟨W, 9⟩ Tryz.prog 15 a15 := fn_no
theorem ok16 (W : World) : FnOk ⟨W, 9⟩ Tryz.prog 16 a16 := fn_no
theorem at17 : Tryz.prog.funcs[17]? = some Tryz.f17 := by kernel_rfl
theorem k17 : compF Tryz.prog 9 ifts false Tryz.f17 1 = some a17 := by kernel_rfl
theorem ok17 (W : World) : FnOk ⟨W, 9⟩ Tryz.prog 17 a17 := compF_ok (c := ⟨W, 9⟩) (ifts := ifts) hmix at17 k17
theorem at18 : Tryz.prog.funcs[18]? = some Tryz.f18 := by kernel_rfl
theorem k18 : compF Tryz.prog 9 ifts false Tryz.f18 2 = some a18 := by kernel_rfl
theorem ok18 (W : World) : FnOk ⟨W, 9⟩ Tryz.prog 18 a18 := compF_ok (c := ⟨W, 9⟩) (ifts := ifts) hmix at18 k18
theorem at19 : Tryz.prog.funcs[19]? = some Tryz.f19 := by kernel_rfl
theorem k19 : compF Tryz.prog 9 ifts false Tryz.f19 2 = some a19 := by kernel_rfl
theorem ok19 (W : World) : FnOk ⟨W, 9⟩ Tryz.prog 19 a19 := compF_ok (c := ⟨W, 9⟩) (ifts := ifts) hmix at19 k19
theorem ok20 (W : World) : FnOk ⟨W, 9⟩ Tryz.prog 20 a20 := fn_no
theorem ok21 (W : World) : FnOk ⟨W, 9⟩ Tryz.prog 21 a21 := fn_no
theorem at22 : Tryz.prog.funcs[22]? = some Tryz.f22 := by kernel_rfl
theorem k22 : compF Tryz.prog 9 ifts false Tryz.f22 4 = some a22 := by kernel_rfl
theorem ok22 (W : World) : FnOk ⟨W, 9⟩ Tryz.prog 22 a22 := compF_ok (c := ⟨W, 9⟩) (ifts := ifts) hmix at22 k22
theorem at23 : Tryz.prog.funcs[23]? = some Tryz.f23 := by kernel_rfl
theorem k23 : compF Tryz.prog 9 ifts false Tryz.f23 0 = some a23 := by kernel_rfl
theorem ok23 (W : World) : FnOk ⟨W, 9⟩ Tryz.prog 23 a23 := compF_ok (c := ⟨W, 9⟩) (ifts := ifts) hmix at23 k23
theorem at24 : Tryz.prog.funcs[24]? = some Tryz.f24 := by kernel_rfl
theorem k24 : compF Tryz.prog 9 ifts false Tryz.f24 1 = some a24 := by kernel_rfl
theorem ok24 (W : World) : FnOk ⟨W, 9⟩ Tryz.prog 24 a24 := compF_ok (c := ⟨W, 9⟩) (ifts := ifts) hmix at24 k24
theorem at25 : Tryz.prog.funcs[25]? = some Tryz.f25 := by kernel_rfl
theorem k25 : compF Tryz.prog 9 ifts false Tryz.f25 4 = some a25 := by kernel_rfl
theorem ok25 (W : World) : FnOk ⟨W, 9⟩ Tryz.prog 25 a25 := compF_ok (c := ⟨W, 9⟩) (ifts := ifts) hmix at25 k25
theorem ok26 (W : World) : FnOk ⟨W, 9⟩ Tryz.prog 26 a26 := fn_no
theorem at27 : Tryz.prog.funcs[27]? = some Tryz.f27 := by kernel_rfl
theorem k27 : compF Tryz.prog 9 ifts false Tryz.f27 3 = some a27 := by kernel_rfl
theorem ok27 (W : World) : FnOk ⟨W, 9⟩ Tryz.prog 27 a27 := compF_ok (c := ⟨W, 9⟩) (ifts := ifts) hmix at27 k27
theorem at28 : Tryz.prog.funcs[28]? = some Tryz.f28 := by kernel_rfl
theorem k28 : compF Tryz.prog 9 ifts false Tryz.f28 3 = some a28 := by kernel_rfl
theorem ok28 (W : World) : FnOk ⟨W, 9⟩ Tryz.prog 28 a28 := compF_ok (c := ⟨W, 9⟩) (ifts := ifts) hmix at28 k28
theorem at29 : Tryz.prog.funcs[29]? = some Tryz.f29 := by kernel_rfl
theorem k29 : compF Tryz.prog 9 ifts false Tryz.f29 1 = some a29 := by kernel_rfl
theorem ok29 (W : World) : FnOk ⟨W, 9⟩ Tryz.prog 29 a29 := compF_ok (c := ⟨W, 9⟩) (ifts := ifts) hmix at29 k29
theorem at30 : Tryz.prog.funcs[30]? = some Tryz.f30 := by kernel_rfl
theorem k30 : compF Tryz.prog 9 ifts false Tryz.f30 2 = some a30 := by kernel_rfl
theorem ok30 (W : World) : FnOk ⟨W, 9⟩ Tryz.prog 30 a30 := compF_ok (c := ⟨W, 9⟩) (ifts := ifts) hmix at30 k30
theorem ok31 (W : World) : FnOk ⟨W, 9⟩ Tryz.prog 31 a31 := fn_no
theorem ok32 (W : World) : FnOk ⟨W, 9⟩ Tryz.prog 32 a32 := fn_no
theorem ok33 (W : World) : FnOk ⟨W, 9⟩ Tryz.prog 33 a33 := fn_no
theorem ok34 (W : World) : FnOk ⟨W, 9⟩ Tryz.prog 34 a34 := fn_no
theorem at35 : Tryz.prog.funcs[35]? = some Tryz.f35 := by kernel_rfl
theorem k35 : compF Tryz.prog 9 ifts false Tryz.f35 2 = some a35 := by kernel_rfl
theorem ok35 (W : World) : FnOk ⟨W, 9⟩ Tryz.prog 35 a35 := compF_ok (c := ⟨W, 9⟩) (ifts := ifts) hmix at35 k35
theorem at36 : Tryz.prog.funcs[36]? = some Tryz.f36 := by kernel_rfl
theorem k36 : compF Tryz.prog 9 ifts false Tryz.f36 2 = some a36 := by kernel_rfl
theorem ok36 (W : World) : FnOk ⟨W, 9⟩ Tryz.prog 36 a36 := compF_ok (c := ⟨W, 9⟩) (ifts := ifts) hmix at36 k36
theorem ok37 (W : World) : FnOk ⟨W, 9⟩ Tryz.prog 37 a37 := fn_no
theorem at38 : Tryz.prog.funcs[38]? = some Tryz.f38 := by kernel_rfl
theorem k38 : compF Tryz.prog 9 ifts false Tryz.f38 2 = some a38 := by kernel_rfl
theorem ok38 (W : World) : FnOk ⟨W, 9⟩ Tryz.prog 38 a38 := compF_ok (c := ⟨W, 9⟩) (ifts := ifts) hmix at38 k38
theorem at39 : Tryz.prog.funcs[39]? = some Tryz.f39 := by kernel_rfl
theorem k39 : compF Tryz.prog 9 ifts false Tryz.f39 2 = some a39 := by kernel_rfl
theorem ok39 (W : World) : FnOk ⟨W, 9⟩ Tryz.prog 39 a39 := compF_ok (c := ⟨W, 9⟩) (ifts := ifts) hmix at39 k39
theorem at40 : Tryz.prog.funcs[40]? = some Tryz.f40 := by kernel_rfl
theorem k40 : compF Tryz.prog 9 ifts false Tryz.f40 2 = some a40 := by kernel_rfl
theorem ok40 (W : World) : FnOk ⟨W, 9⟩ Tryz.prog 40 a40 := compF_ok (c := ⟨W, 9⟩) (ifts := ifts) hmix at40 k40
theorem ok41 (W : World) : FnOk ⟨W, 9⟩ Tryz.prog 41 a41 := fn_no
theorem ok42 (W : World) : FnOk ⟨W, 9⟩ Tryz.prog 42 a42 := fn_no
theorem at43 : Tryz.prog.funcs[43]? = some Tryz.f43 := by kernel_rfl
theorem k43 : compF Tryz.prog 9 ifts false Tryz.f43 1 = some a43 := by kernel_rfl
theorem ok43 (W : World) : FnOk ⟨W, 9⟩ Tryz.prog 43 a43 := compF_ok (c := ⟨W, 9⟩) (ifts := ifts) hmix at43 k43
theorem at44 : Tryz.prog.funcs[44]? = some Tryz.f44 := by kernel_rfl
theorem k44 : compF Tryz.prog 9 ifts false Tryz.f44 2 = some a44 := by kernel_rfl
theorem ok44 (W : World) : FnOk ⟨W, 9⟩ Tryz.prog 44 a44 := compF_ok (c := ⟨W, 9⟩) (ifts := ifts) hmix at44 k44
theorem ok45 (W : World) : FnOk ⟨W, 9⟩ Tryz.prog 45 a45 := fn_no
theorem ok46 (W : World) : FnOk ⟨W, 9⟩ Tryz.prog 46 a46 := fn_no
theorem at47 : Tryz.prog.funcs[47]? = some Tryz.f47 := by kernel_rfl
theorem k47 : compF Tryz.prog 9 ifts false Tryz.f47 1 = some a47 := by kernel_rfl
theorem ok47 (W : World) : FnOk ⟨W, 9⟩ Tryz.prog 47 a47 := compF_ok (c := ⟨W, 9⟩) (ifts := ifts) hmix at47 k47
theorem at48 : Tryz.prog.funcs[48]? = some Tryz.f48 := by kernel_rfl
theorem k48 : compF Tryz.prog 9 ifts false Tryz.f48 4 = some a48 := by kernel_rfl
theorem ok48 (W : World) : FnOk ⟨W, 9⟩ Tryz.prog 48 a48 := compF_ok (c := ⟨W, 9⟩) (ifts := ifts) hmix at48 k48
theorem at49 : Tryz.prog.funcs[49]? = some Tryz.f49 := by kernel_rfl
theorem k49 : compF Tryz.prog 9 ifts false Tryz.f49 4 = some a49 := by kernel_rfl
theorem ok49 (W : World) : FnOk ⟨W, 9⟩ Tryz.prog 49 a49 := compF_ok (c := ⟨W, 9⟩) (ifts := ifts) hmix at49 k49
theorem ok50 (W : World) : FnOk ⟨W, 9⟩ Tryz.prog 50 a50 := fn_no
theorem at51 : Tryz.prog.funcs[51]? = some Tryz.f51 := by kernel_rfl
theorem k51 : compF Tryz.prog 9 ifts false Tryz.f51 1 = some a51 := by kernel_rfl
theorem ok51 (W : World) : FnOk ⟨W, 9⟩ Tryz.prog 51 a51 := compF_ok (c := ⟨W, 9⟩) (ifts := ifts) hmix at51 k51
theorem at52 : Tryz.prog.funcs[52]? = some Tryz.f52 := by kernel_rfl
theorem k52 : compF Tryz.prog 9 ifts false Tryz.f52 2 = some a52 := by kernel_rfl
theorem ok52 (W : World) : FnOk ⟨W, 9⟩ Tryz.prog 52 a52 := compF_ok (c := ⟨W, 9⟩) (ifts := ifts) hmix at52 k52
theorem at53 : Tryz.prog.funcs[53]? = some Tryz.f53 := by kernel_rfl
theorem k53 : compF Tryz.prog 9 ifts false Tryz.f53 2 = some a53 := by kernel_rfl
theorem ok53 (W : World) : FnOk ⟨W, 9⟩ Tryz.prog 53 a53 := compF_ok (c := ⟨W, 9⟩) (ifts := ifts) hmix at53 k53
theorem ok54 (W : World) : FnOk ⟨W, 9⟩ Tryz.prog 54 a54 := fn_no
theorem ok55 (W : World) : FnOk ⟨W, 9⟩ Tryz.prog 55 a55 := fn_no
theorem ok56 (W : World) : FnOk ⟨W, 9⟩ Tryz.prog 56 a56 := fn_no
theorem ok57 (W : World) : FnOk ⟨W, 9⟩ Tryz.prog 57 a57 := fn_no
theorem at58 : Tryz.prog.funcs[58]? = some Tryz.f58 := by kernel_rfl
theorem xe58 : Ext Tryz.prog 58 Tryz.f58 Extern.BytealgCount.count := ⟨at58, by kernel_rfl, by kernel_rfl, by kernel_rfl, by kernel_rfl⟩
theorem ok58 (W : World) : FnOk ⟨W, 9⟩ Tryz.prog 58 a58 := fn_countStr xe58
theorem at59 : Tryz.prog.funcs[59]? = some Tryz.f59 := by kernel_rfl
theorem k59 : compF Tryz.prog 9 ifts false Tryz.f59 2 = some a59 := by kernel_rfl
theorem ok59 (W : World) : FnOk ⟨W, 9⟩ Tryz.prog 59 a59 := compF_ok (c := ⟨W, 9⟩) (ifts := ifts) hmix at59 k59
theorem ok60 (W : World) : FnOk ⟨W, 9⟩ Tryz.prog 60 a60 := fn_no
theorem ok61 (W : World) : FnOk ⟨W, 9⟩ Tryz.prog 61 a61 := fn_no
theorem ok62 (W : World) : FnOk ⟨W, 9⟩ Tryz.prog 62 a62 := fn_no
theorem ok63 (W : World) : FnOk ⟨W, 9⟩ Tryz.prog 63 a63 := fn_no
theorem ok64 (W : World) : FnOk ⟨W, 9⟩ Tryz.prog 64 a64 := fn_no
theorem ok65 (W : World) : FnOk ⟨W, 9⟩ Tryz.prog 65 a65 := fn_no
theorem ok66 (W : World) : FnOk ⟨W, 9⟩ Tryz.prog 66 a66 := fn_no
theorem ok67 (W : World) : FnOk ⟨W, 9⟩ Tryz.prog 67 a67 := fn_no
theorem ok68 (W : World) : FnOk ⟨W, 9⟩ Tryz.prog 68 a68 := fn_no
theorem ok69 (W : World) : FnOk ⟨W, 9⟩ Tryz.prog 69 a69 := fn_no
theorem at70 : Tryz.prog.funcs[70]? = some Tryz.f70 := by kernel_rfl
theorem k70 : compF Tryz.prog 9 ifts false Tryz.f70 1 = some a70 := by kernel_rfl
theorem ok70 (W : World) : FnOk ⟨W, 9⟩ Tryz.prog 70 a70 := compF_ok (c := ⟨W, 9⟩) (ifts := ifts) hmix at70 k70
theorem at71 : Tryz.prog.funcs[71]? = some Tryz.f71 := by kernel_rfl
theorem k71 : compF Tryz.prog 9 ifts false Tryz.f71 2 = some a71 := by kernel_rfl
theorem ok71 (W : World) : FnOk ⟨W, 9⟩ Tryz.prog 71 a71 := compF_ok (c := ⟨W, 9⟩) (ifts := ifts) hmix at71 k71
theorem at72 : Tryz.prog.funcs[72]? = some Tryz.f72 := by kernel_rfl
theorem k72 : compF Tryz.prog 9 ifts false Tryz.f72 1 = some a72 := by kernel_rfl
theorem ok72 (W : World) : FnOk ⟨W, 9⟩ Tryz.prog 72 a72 := compF_ok (c := ⟨W, 9⟩) (ifts := ifts) hmix at72 k72
theorem ok73 (W : World) : FnOk ⟨W, 9⟩ Tryz.prog 73 a73 := fn_no
theorem ok74 (W : World) : FnOk ⟨W, 9⟩ Tryz.prog 74 a74 := fn_no
theorem ok75 (W : World) : FnOk ⟨W, 9⟩ Tryz.prog 75 a75 := fn_no
theorem at76 : Tryz.prog.funcs[76]? = some Tryz.f76 := by kernel_rfl
theorem k76 : compF Tryz.prog 9 ifts false Tryz.f76 2 = some a76 := by kernel_rfl
theorem ok76 (W : World) : FnOk ⟨W, 9⟩ Tryz.prog 76 a76 := compF_ok (c := ⟨W, 9⟩) (ifts := ifts) hmix at76 k76
theorem ok77 (W : World) : FnOk ⟨W, 9⟩ Tryz.prog 77 a77 := fn_no
theorem ok78 (W : World) : FnOk ⟨W, 9⟩ Tryz.prog 78 a78 := fn_no
theorem ok79 (W : World) : FnOk ⟨W, 9⟩ Tryz.prog 79 a79 := fn_no
theorem ok80 (W : World) : FnOk ⟨W, 9⟩ Tryz.prog 80 a80 := fn_no
theorem ok81 (W : World) : FnOk ⟨W, 9⟩ Tryz.prog 81 a81 := fn_no
theorem ok82 (W : World) : FnOk ⟨W, 9⟩ Tryz.prog 82 a82 := fn_no
theorem ok83 (W : World) : FnOk ⟨W, 9⟩ Tryz.prog 83 a83 := fn_no
theorem ok84 (W : World) : FnOk ⟨W, 9⟩ Tryz.prog 84 a84 := fn_no
theorem at85 : Tryz.prog.funcs[85]? = some Tryz.f85 := by kernel_rfl
theorem k85 : compF Tryz.prog 9 ifts false Tryz.f85 2 = some a85 := by kernel_rfl
theorem ok85 (W : World) : FnOk ⟨W, 9⟩ Tryz.prog 85 a85 := compF_ok (c := ⟨W, 9⟩) (ifts := ifts) hmix at85 k85
theorem at86 : Tryz.prog.funcs[86]? = some Tryz.f86 := by kernel_rfl
theorem k86 : compF Tryz.prog 9 ifts false Tryz.f86 2 = some a86 := by kernel_rfl
theorem ok86 (W : World) : FnOk ⟨W, 9⟩ Tryz.prog 86 a86 := compF_ok (c := ⟨W, 9⟩) (ifts := ifts) hmix at86 k86
theorem ok87 (W : World) : FnOk ⟨W, 9⟩ Tryz.prog 87 a87 := fn_no
theorem at88 : Tryz.prog.funcs[88]? = some Tryz.f88 := by kernel_rfl
theorem k88 : compF Tryz.prog 9 ifts false Tryz.f88 2 = some a88 := by kernel_rfl
theorem ok88 (W : World) : FnOk ⟨W, 9⟩ Tryz.prog 88 a88 := compF_ok (c := ⟨W, 9⟩) (ifts := ifts) hmix at88 k88
theorem at89 : Tryz.prog.funcs[89]? = some Tryz.f89 := by kernel_rfl
theorem xe89 : Ext Tryz.prog 89 Tryz.f89 Extern.AbiNoEscape.same := ⟨at89, by kernel_rfl, by kernel_rfl, by kernel_rfl, by kernel_rfl⟩
theorem ok89 (W : World) : FnOk ⟨W, 9⟩ Tryz.prog 89 a89 := fn_noEscape xe89
theorem at90 : Tryz.prog.funcs[90]? = some Tryz.f90 := by kernel_rfl
theorem xe90 : Ext Tryz.prog 90 Tryz.f90 Extern.BytealgIndexByte.indexByte := ⟨at90, by kernel_rfl, by kernel_rfl, by kernel_rfl, by kernel_rfl⟩
theorem ok90 (W : World) : FnOk ⟨W, 9⟩ Tryz.prog 90 a90 := fn_indexByte xe90
theorem ok91 (W : World) : FnOk ⟨W, 9⟩ Tryz.prog 91 a91 := fn_no
theorem ok92 (W : World) : FnOk ⟨W, 9⟩ Tryz.prog 92 a92 := fn_no
theorem ok93 (W : World) : FnOk ⟨W, 9⟩ Tryz.prog 93 a93 := fn_no
theorem ok94 (W : World) : FnOk ⟨W, 9⟩ Tryz.prog 94 a94 := fn_no
theorem ok95 (W : World) : FnOk ⟨W, 9⟩ Tryz.prog 95 a95 := fn_no
theorem ok96 (W : World) : FnOk ⟨W, 9⟩ Tryz.prog 96 a96 := fn_no
theorem ok97 (W : World) : FnOk ⟨W, 9⟩ Tryz.prog 97 a97 := fn_no
theorem ok98 (W : World) : FnOk ⟨W, 9⟩ Tryz.prog 98 a98 := fn_no
theorem at99 : Tryz.prog.funcs[99]? = some Tryz.f99 := by kernel_rfl
theorem k99 : compF Tryz.prog 9 ifts false Tryz.f99 2 = some a99 := by kernel_rfl
theorem ok99 (W : World) : FnOk ⟨W, 9⟩ Tryz.prog 99 a99 := compF_ok (c := ⟨W, 9⟩) (ifts := ifts) hmix at99 k99
theorem ok100 (W : World) : FnOk ⟨W, 9⟩ Tryz.prog 100 a100 := fn_no
theorem ok101 (W : World) : FnOk ⟨W, 9⟩ Tryz.prog 101 a101 := fn_no
theorem ok102 (W : World) : FnOk ⟨W, 9⟩ Tryz.prog 102 a102 := fn_no
theorem ok103 (W : World) : FnOk ⟨W, 9⟩ Tryz.prog 103 a103 := fn_no
theorem ok104 (W : World) : FnOk ⟨W, 9⟩ Tryz.prog 104 a104 := fn_no
theorem ok105 (W : World) : FnOk ⟨W, 9⟩ Tryz.prog 105 a105 := fn_no
theorem ok106 (W : World) : FnOk ⟨W, 9⟩ Tryz.prog 106 a106 := fn_no
theorem at107 : Tryz.prog.funcs[107]? = some Tryz.f107 := by kernel_rfl
theorem xe107 : Ext Tryz.prog 107 Tryz.f107 (Extern.BytealgMakeNoZero.makeNoZero Tryz.f107.params #[59]) := ⟨at107, by kernel_rfl, by kernel_rfl, by kernel_rfl, by kernel_rfl⟩
theorem ok107 (W : World) : FnOk ⟨W, 9⟩ Tryz.prog 107 a107 := fn_makeNoZero xe107 (by kernel_rfl)
theorem ok108 (W : World) : FnOk ⟨W, 9⟩ Tryz.prog 108 a108 := fn_no
theorem ok109 (W : World) : FnOk ⟨W, 9⟩ Tryz.prog 109 a109 := fn_no
theorem ok110 (W : World) : FnOk ⟨W, 9⟩ Tryz.prog 110 a110 := fn_no
theorem ok111 (W : World) : FnOk ⟨W, 9⟩ Tryz.prog 111 a111 := fn_no
theorem ok112 (W : World) : FnOk ⟨W, 9⟩ Tryz.prog 112 a112 := fn_no
theorem ok113 (W : World) : FnOk ⟨W, 9⟩ Tryz.prog 113 a113 := fn_no
theorem ok114 (W : World) : FnOk ⟨W, 9⟩ Tryz.prog 114 a114 := fn_no
theorem ok115 (W : World) : FnOk ⟨W, 9⟩ Tryz.prog 115 a115 := fn_no
theorem ok116 (W : World) : FnOk ⟨W, 9⟩ Tryz.prog 116 a116 := fn_no
theorem allOk (W : World) : AllT (fun f x => FnOk ⟨W, 9⟩ Tryz.prog f x) fns 0 1 := (.hole (.hole (.hole (.hole (.here (ok15 W) (.here (ok31 W) (.here (ok63 W) .leaf .leaf) (.here (ok95 W) .leaf .leaf)) (.here (ok47 W) (.here (ok79 W) .leaf .leaf) (.here (ok111 W) .leaf .leaf))) (.here (ok23 W) (.here (ok39 W) (.here (ok71 W) .leaf .leaf) (.here (ok103 W) .leaf .leaf)) (.here (ok55 W) (.here (ok87 W) .leaf .leaf) .leaf))) (.hole (.here (ok19 W) (.here (ok35 W) (.here (ok67 W) .leaf .leaf) (.here (ok99 W) .leaf .leaf)) (.here (ok51 W) (.here (ok83 W) .leaf .leaf) (.here (ok115 W) .leaf .leaf))) (.here (ok27 W) (.here (ok43 W) (.here (ok75 W) .leaf .leaf) (.here (ok107 W) .leaf .leaf)) (.here (ok59 W) (.here (ok91 W) .leaf .leaf) .leaf)))) (.hole (.here (ok9 W) (.here (ok17 W) (.here (ok33 W) (.here (ok65 W) .leaf .leaf) (.here (ok97 W) .leaf .leaf)) (.here (ok49 W) (.here (ok81 W) .leaf .leaf) (.here (ok113 W) .leaf .leaf))) (.here (ok25 W) (.here (ok41 W) (.here (ok73 W) .leaf .leaf) (.here (ok105 W) .leaf .leaf)) (.here (ok57 W) (.here (ok89 W) .leaf .leaf) .leaf))) (.here (ok13 W) (.here (ok21 W) (.here (ok37 W) (.here (ok69 W) .leaf .leaf) (.here (ok101 W) .leaf .leaf)) (.here (ok53 W) (.here (ok85 W) .leaf .leaf) .leaf)) (.here (ok29 W) (.here (ok45 W) (.here (ok77 W) .leaf .leaf) (.here (ok109 W) .leaf .leaf)) (.here (ok61 W) (.here (ok93 W) .leaf .leaf) .leaf))))) (.hole (.here (ok4 W) (.here (ok8 W) (.here (ok16 W) (.here (ok32 W) (.here (ok64 W) .leaf .leaf) (.here (ok96 W) .leaf .leaf)) (.here (ok48 W) (.here (ok80 W) .leaf .leaf) (.here (ok112 W) .leaf .leaf))) (.here (ok24 W) (.here (ok40 W) (.here (ok72 W) .leaf .leaf) (.here (ok104 W) .leaf .leaf)) (.here (ok56 W) (.here (ok88 W) .leaf .leaf) .leaf))) (.here (ok12 W) (.here (ok20 W) (.here (ok36 W) (.here (ok68 W) .leaf .leaf) (.here (ok100 W) .leaf .leaf)) (.here (ok52 W) (.here (ok84 W) .leaf .leaf) (.here (ok116 W) .leaf .leaf))) (.here (ok28 W) (.here (ok44 W) (.here (ok76 W) .leaf .leaf) (.here (ok108 W) .leaf .leaf)) (.here (ok60 W) (.here (ok92 W) .leaf .leaf) .leaf)))) (.here (ok6 W) (.hole (.here (ok18 W) (.here (ok34 W) (.here (ok66 W) .leaf .leaf) (.here (ok98 W) .leaf .leaf)) (.here (ok50 W) (.here (ok82 W) .leaf .leaf) (.here (ok114 W) .leaf .leaf))) (.here (ok26 W) (.here (ok42 W) (.here (ok74 W) .leaf .leaf) (.here (ok106 W) .leaf .leaf)) (.here (ok58 W) (.here (ok90 W) .leaf .leaf) .leaf))) (.here (ok14 W) (.here (ok22 W) (.here (ok38 W) (.here (ok70 W) .leaf .leaf) (.here (ok102 W) .leaf .leaf)) (.here (ok54 W) (.here (ok86 W) .leaf .leaf) .leaf)) (.here (ok30 W) (.here (ok46 W) (.here (ok78 W) .leaf .leaf) (.here (ok110 W) .leaf .leaf)) (.here (ok62 W) (.here (ok94 W) .leaf .leaf) .leaf))))))
theorem fnsOk (W : World) (f : Nat) (x : AF) (h : fns.get f = some x) : FnOk ⟨W, 9⟩ Tryz.prog f x := by
  have := AllT.get (allOk W) f x h
  rwa [Nat.zero_add, Nat.one_mul] at this
end Go.Kev.Tryz
