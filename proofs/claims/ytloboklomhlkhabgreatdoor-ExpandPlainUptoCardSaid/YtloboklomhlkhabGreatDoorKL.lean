/- Each compiled function is the program's own. -/
import Derived.Test.YtloboklomhlkhabGreatDoorKF
import Derived.Test.YtloboklomhlkhabGreatDoorKD
import Derived.Test.YtloboklomhlkhabGreatDoorProg
import Derived.KernelRfl
set_option linter.unusedVariables false
set_option linter.unusedSimpArgs false
/- Each compiled function is the program's. -/
namespace Go.Kev.Tryz
open Go.Proofs
theorem hmix : Tryz.prog.follows .mixedOrders = true := by kernel_rfl
theorem at4 : Tryz.prog.funcs[4]? = some Tryz.f4 := by kernel_rfl
theorem k4 : compF Tryz.prog 9 ifts true Tryz.f4 0 = some a4 := by kernel_rfl
theorem ok4 (W : World) : FnOk ⟨W, 9⟩ Tryz.prog 4 a4 := compF_ok (c := ⟨W, 9⟩) (ifts := ifts) hmix at4 k4
theorem at5 : Tryz.prog.funcs[5]? = some Tryz.f5 := by kernel_rfl
theorem k5 : compF Tryz.prog 9 ifts false Tryz.f5 2 = some a5 := by kernel_rfl
theorem ok5 (W : World) : FnOk ⟨W, 9⟩ Tryz.prog 5 a5 := compF_ok (c := ⟨W, 9⟩) (ifts := ifts) hmix at5 k5
theorem at6 : Tryz.prog.funcs[6]? = some Tryz.f6 := by kernel_rfl
theorem k6 : compF Tryz.prog 9 ifts false Tryz.f6 3 = some a6 := by kernel_rfl
theorem ok6 (W : World) : FnOk ⟨W, 9⟩ Tryz.prog 6 a6 := compF_ok (c := ⟨W, 9⟩) (ifts := ifts) hmix at6 k6
theorem at7 : Tryz.prog.funcs[7]? = some Tryz.f7 := by kernel_rfl
theorem k7 : compF Tryz.prog 9 ifts false Tryz.f7 0 = some a7 := by kernel_rfl
theorem ok7 (W : World) : FnOk ⟨W, 9⟩ Tryz.prog 7 a7 := compF_ok (c := ⟨W, 9⟩) (ifts := ifts) hmix at7 k7
theorem at8 : Tryz.prog.funcs[8]? = some Tryz.f8 := by kernel_rfl
theorem k8 : compF Tryz.prog 9 ifts false Tryz.f8 2 = some a8 := by kernel_rfl
theorem ok8 (W : World) : FnOk ⟨W, 9⟩ Tryz.prog 8 a8 := compF_ok (c := ⟨W, 9⟩) (ifts := ifts) hmix at8 k8
theorem at9 : Tryz.prog.funcs[9]? = some Tryz.f9 := by kernel_rfl
theorem k9 : compF Tryz.prog 9 ifts false Tryz.f9 2 = some a9 := by kernel_rfl
theorem ok9 (W : World) : FnOk ⟨W, 9⟩ Tryz.prog 9 a9 := compF_ok (c := ⟨W, 9⟩) (ifts := ifts) hmix at9 k9
theorem at10 : Tryz.prog.funcs[10]? = some Tryz.f10 := by kernel_rfl
theorem k10 : compF Tryz.prog 9 ifts false Tryz.f10 2 = some a10 := by kernel_rfl
theorem ok10 (W : World) : FnOk ⟨W, 9⟩ Tryz.prog 10 a10 := compF_ok (c := ⟨W, 9⟩) (ifts := ifts) hmix at10 k10
theorem at11 : Tryz.prog.funcs[11]? = some Tryz.f11 := by kernel_rfl
theorem k11 : compF Tryz.prog 9 ifts false Tryz.f11 2 = some a11 := by kernel_rfl
theorem ok11 (W : World) : FnOk ⟨W, 9⟩ Tryz.prog 11 a11 := compF_ok (c := ⟨W, 9⟩) (ifts := ifts) hmix at11 k11
theorem at12 : Tryz.prog.funcs[12]? = some Tryz.f12 := by kernel_rfl
theorem k12 : compF Tryz.prog 9 ifts false Tryz.f12 2 = some a12 := by kernel_rfl
theorem ok12 (W : World) : FnOk ⟨W, 9⟩ Tryz.prog 12 a12 := compF_ok (c := ⟨W, 9⟩) (ifts := ifts) hmix at12 k12
theorem at13 : Tryz.prog.funcs[13]? = some Tryz.f13 := by kernel_rfl
theorem k13 : compF Tryz.prog 9 ifts false Tryz.f13 2 = some a13 := by kernel_rfl
theorem ok13 (W : World) : FnOk ⟨W, 9⟩ Tryz.prog 13 a13 := compF_ok (c := ⟨W, 9⟩) (ifts := ifts) hmix at13 k13
theorem at14 : Tryz.prog.funcs[14]? = some Tryz.f14 := by kernel_rfl
theorem k14 : compF Tryz.prog 9 ifts false Tryz.f14 1 = some a14 := by kernel_rfl
theorem ok14 (W : World) : FnOk ⟨W, 9⟩ Tryz.prog 14 a14 := compF_ok (c := ⟨W, 9⟩) (ifts := ifts) hmix at14 k14
theorem at15 : Tryz.prog.funcs[15]? = some Tryz.f15 := by kernel_rfl
theorem k15 : compF Tryz.prog 9 ifts false Tryz.f15 1 = some a15 := by kernel_rfl
theorem ok15 (W : World) : FnOk ⟨W, 9⟩ Tryz.prog 15 a15 := compF_ok (c := ⟨W, 9⟩) (ifts := ifts) hmix at15 k15
theorem at16 : Tryz.prog.funcs[16]? = some Tryz.f16 := by kernel_rfl
theorem k16 : compF Tryz.prog 9 ifts false Tryz.f16 1 = some a16 := by kernel_rfl
theorem ok16 (W : World) : FnOk ⟨W, 9⟩ Tryz.prog 16 a16 := compF_ok (c := ⟨W, 9⟩) (ifts := ifts) hmix at16 k16
theorem at17 : Tryz.prog.funcs[17]? = some Tryz.f17 := by kernel_rfl
theorem k17 : compF Tryz.prog 9 ifts false Tryz.f17 2 = some a17 := by kernel_rfl
theorem ok17 (W : World) : FnOk ⟨W, 9⟩ Tryz.prog 17 a17 := compF_ok (c := ⟨W, 9⟩) (ifts := ifts) hmix at17 k17
theorem at18 : Tryz.prog.funcs[18]? = some Tryz.f18 := by kernel_rfl
theorem k18 : compF Tryz.prog 9 ifts false Tryz.f18 1 = some a18 := by kernel_rfl
theorem ok18 (W : World) : FnOk ⟨W, 9⟩ Tryz.prog 18 a18 := compF_ok (c := ⟨W, 9⟩) (ifts := ifts) hmix at18 k18
theorem at19 : Tryz.prog.funcs[19]? = some Tryz.f19 := by kernel_rfl
theorem k19 : compF Tryz.prog 9 ifts false Tryz.f19 3 = some a19 := by kernel_rfl
theorem ok19 (W : World) : FnOk ⟨W, 9⟩ Tryz.prog 19 a19 := compF_ok (c := ⟨W, 9⟩) (ifts := ifts) hmix at19 k19
theorem at20 : Tryz.prog.funcs[20]? = some Tryz.f20 := by kernel_rfl
theorem k20 : compF Tryz.prog 9 ifts false Tryz.f20 3 = some a20 := by kernel_rfl
theorem ok20 (W : World) : FnOk ⟨W, 9⟩ Tryz.prog 20 a20 := compF_ok (c := ⟨W, 9⟩) (ifts := ifts) hmix at20 k20
theorem at21 : Tryz.prog.funcs[21]? = some Tryz.f21 := by kernel_rfl
theorem k21 : compF Tryz.prog 9 ifts false Tryz.f21 1 = some a21 := by kernel_rfl
theorem ok21 (W : World) : FnOk ⟨W, 9⟩ Tryz.prog 21 a21 := compF_ok (c := ⟨W, 9⟩) (ifts := ifts) hmix at21 k21
theorem at22 : Tryz.prog.funcs[22]? = some Tryz.f22 := by kernel_rfl
theorem k22 : compF Tryz.prog 9 ifts false Tryz.f22 2 = some a22 := by kernel_rfl
theorem ok22 (W : World) : FnOk ⟨W, 9⟩ Tryz.prog 22 a22 := compF_ok (c := ⟨W, 9⟩) (ifts := ifts) hmix at22 k22
theorem at23 : Tryz.prog.funcs[23]? = some Tryz.f23 := by kernel_rfl
theorem k23 : compF Tryz.prog 9 ifts false Tryz.f23 2 = some a23 := by kernel_rfl
theorem ok23 (W : World) : FnOk ⟨W, 9⟩ Tryz.prog 23 a23 := compF_ok (c := ⟨W, 9⟩) (ifts := ifts) hmix at23 k23
theorem at24 : Tryz.prog.funcs[24]? = some Tryz.f24 := by kernel_rfl
theorem k24 : compF Tryz.prog 9 ifts false Tryz.f24 1 = some a24 := by kernel_rfl
theorem ok24 (W : World) : FnOk ⟨W, 9⟩ Tryz.prog 24 a24 := compF_ok (c := ⟨W, 9⟩) (ifts := ifts) hmix at24 k24
theorem at25 : Tryz.prog.funcs[25]? = some Tryz.f25 := by kernel_rfl
theorem k25 : compF Tryz.prog 9 ifts false Tryz.f25 2 = some a25 := by kernel_rfl
theorem ok25 (W : World) : FnOk ⟨W, 9⟩ Tryz.prog 25 a25 := compF_ok (c := ⟨W, 9⟩) (ifts := ifts) hmix at25 k25
theorem at26 : Tryz.prog.funcs[26]? = some Tryz.f26 := by kernel_rfl
theorem k26 : compF Tryz.prog 9 ifts false Tryz.f26 1 = some a26 := by kernel_rfl
theorem ok26 (W : World) : FnOk ⟨W, 9⟩ Tryz.prog 26 a26 := compF_ok (c := ⟨W, 9⟩) (ifts := ifts) hmix at26 k26
theorem at27 : Tryz.prog.funcs[27]? = some Tryz.f27 := by kernel_rfl
theorem k27 : compF Tryz.prog 9 ifts false Tryz.f27 3 = some a27 := by kernel_rfl
theorem ok27 (W : World) : FnOk ⟨W, 9⟩ Tryz.prog 27 a27 := compF_ok (c := ⟨W, 9⟩) (ifts := ifts) hmix at27 k27
theorem at28 : Tryz.prog.funcs[28]? = some Tryz.f28 := by kernel_rfl
theorem k28 : compF Tryz.prog 9 ifts false Tryz.f28 2 = some a28 := by kernel_rfl
theorem ok28 (W : World) : FnOk ⟨W, 9⟩ Tryz.prog 28 a28 := compF_ok (c := ⟨W, 9⟩) (ifts := ifts) hmix at28 k28
theorem at29 : Tryz.prog.funcs[29]? = some Tryz.f29 := by kernel_rfl
theorem k29 : compF Tryz.prog 9 ifts false Tryz.f29 2 = some a29 := by kernel_rfl
theorem ok29 (W : World) : FnOk ⟨W, 9⟩ Tryz.prog 29 a29 := compF_ok (c := ⟨W, 9⟩) (ifts := ifts) hmix at29 k29
theorem at30 : Tryz.prog.funcs[30]? = some Tryz.f30 := by kernel_rfl
theorem k30 : compF Tryz.prog 9 ifts false Tryz.f30 2 = some a30 := by kernel_rfl
theorem ok30 (W : World) : FnOk ⟨W, 9⟩ Tryz.prog 30 a30 := compF_ok (c := ⟨W, 9⟩) (ifts := ifts) hmix at30 k30
theorem at31 : Tryz.prog.funcs[31]? = some Tryz.f31 := by kernel_rfl
theorem k31 : compF Tryz.prog 9 ifts false Tryz.f31 2 = some a31 := by kernel_rfl
theorem ok31 (W : World) : FnOk ⟨W, 9⟩ Tryz.prog 31 a31 := compF_ok (c := ⟨W, 9⟩) (ifts := ifts) hmix at31 k31
theorem at32 : Tryz.prog.funcs[32]? = some Tryz.f32 := by kernel_rfl
theorem k32 : compF Tryz.prog 9 ifts false Tryz.f32 2 = some a32 := by kernel_rfl
theorem ok32 (W : World) : FnOk ⟨W, 9⟩ Tryz.prog 32 a32 := compF_ok (c := ⟨W, 9⟩) (ifts := ifts) hmix at32 k32
theorem at33 : Tryz.prog.funcs[33]? = some Tryz.f33 := by kernel_rfl
theorem k33 : compF Tryz.prog 9 ifts false Tryz.f33 1 = some a33 := by kernel_rfl
theorem ok33 (W : World) : FnOk ⟨W, 9⟩ Tryz.prog 33 a33 := compF_ok (c := ⟨W, 9⟩) (ifts := ifts) hmix at33 k33
theorem at34 : Tryz.prog.funcs[34]? = some Tryz.f34 := by kernel_rfl
theorem k34 : compF Tryz.prog 9 ifts false Tryz.f34 2 = some a34 := by kernel_rfl
theorem ok34 (W : World) : FnOk ⟨W, 9⟩ Tryz.prog 34 a34 := compF_ok (c := ⟨W, 9⟩) (ifts := ifts) hmix at34 k34
theorem at35 : Tryz.prog.funcs[35]? = some Tryz.f35 := by kernel_rfl
theorem xe35 : Ext Tryz.prog 35 Tryz.f35 Extern.AbiNoEscape.same := ⟨at35, by kernel_rfl, by kernel_rfl, by kernel_rfl, by kernel_rfl⟩
theorem ok35 (W : World) : FnOk ⟨W, 9⟩ Tryz.prog 35 a35 := fn_noEscape xe35
theorem at36 : Tryz.prog.funcs[36]? = some Tryz.f36 := by kernel_rfl
theorem k36 : compF Tryz.prog 9 ifts false Tryz.f36 2 = some a36 := by kernel_rfl
theorem ok36 (W : World) : FnOk ⟨W, 9⟩ Tryz.prog 36 a36 := compF_ok (c := ⟨W, 9⟩) (ifts := ifts) hmix at36 k36
theorem at37 : Tryz.prog.funcs[37]? = some Tryz.f37 := by kernel_rfl
theorem k37 : compF Tryz.prog 9 ifts false Tryz.f37 2 = some a37 := by kernel_rfl
theorem ok37 (W : World) : FnOk ⟨W, 9⟩ Tryz.prog 37 a37 := compF_ok (c := ⟨W, 9⟩) (ifts := ifts) hmix at37 k37
theorem at38 : Tryz.prog.funcs[38]? = some Tryz.f38 := by kernel_rfl
theorem k38 : compF Tryz.prog 9 ifts false Tryz.f38 1 = some a38 := by kernel_rfl
theorem ok38 (W : World) : FnOk ⟨W, 9⟩ Tryz.prog 38 a38 := compF_ok (c := ⟨W, 9⟩) (ifts := ifts) hmix at38 k38
theorem at39 : Tryz.prog.funcs[39]? = some Tryz.f39 := by kernel_rfl
theorem k39 : compF Tryz.prog 9 ifts false Tryz.f39 2 = some a39 := by kernel_rfl
theorem ok39 (W : World) : FnOk ⟨W, 9⟩ Tryz.prog 39 a39 := compF_ok (c := ⟨W, 9⟩) (ifts := ifts) hmix at39 k39
theorem at40 : Tryz.prog.funcs[40]? = some Tryz.f40 := by kernel_rfl
theorem k40 : compF Tryz.prog 9 ifts false Tryz.f40 2 = some a40 := by kernel_rfl
theorem ok40 (W : World) : FnOk ⟨W, 9⟩ Tryz.prog 40 a40 := compF_ok (c := ⟨W, 9⟩) (ifts := ifts) hmix at40 k40
theorem at41 : Tryz.prog.funcs[41]? = some Tryz.f41 := by kernel_rfl
theorem k41 : compF Tryz.prog 9 ifts false Tryz.f41 1 = some a41 := by kernel_rfl
theorem ok41 (W : World) : FnOk ⟨W, 9⟩ Tryz.prog 41 a41 := compF_ok (c := ⟨W, 9⟩) (ifts := ifts) hmix at41 k41
theorem at42 : Tryz.prog.funcs[42]? = some Tryz.f42 := by kernel_rfl
theorem k42 : compF Tryz.prog 9 ifts false Tryz.f42 2 = some a42 := by kernel_rfl
theorem ok42 (W : World) : FnOk ⟨W, 9⟩ Tryz.prog 42 a42 := compF_ok (c := ⟨W, 9⟩) (ifts := ifts) hmix at42 k42
theorem ok43 (W : World) : FnOk ⟨W, 9⟩ Tryz.prog 43 a43 := fn_no
theorem ok44 (W : World) : FnOk ⟨W, 9⟩ Tryz.prog 44 a44 := fn_no
theorem ok45 (W : World) : FnOk ⟨W, 9⟩ Tryz.prog 45 a45 := fn_no
theorem at46 : Tryz.prog.funcs[46]? = some Tryz.f46 := by kernel_rfl
theorem k46 : compF Tryz.prog 9 ifts false Tryz.f46 0 = some a46 := by kernel_rfl
theorem ok46 (W : World) : FnOk ⟨W, 9⟩ Tryz.prog 46 a46 := compF_ok (c := ⟨W, 9⟩) (ifts := ifts) hmix at46 k46
theorem at47 : Tryz.prog.funcs[47]? = some Tryz.f47 := by kernel_rfl
theorem k47 : compF Tryz.prog 9 ifts false Tryz.f47 2 = some a47 := by kernel_rfl
theorem ok47 (W : World) : FnOk ⟨W, 9⟩ Tryz.prog 47 a47 := compF_ok (c := ⟨W, 9⟩) (ifts := ifts) hmix at47 k47
theorem at48 : Tryz.prog.funcs[48]? = some Tryz.f48 := by kernel_rfl
theorem k48 : compF Tryz.prog 9 ifts false Tryz.f48 1 = some a48 := by kernel_rfl
theorem ok48 (W : World) : FnOk ⟨W, 9⟩ Tryz.prog 48 a48 := compF_ok (c := ⟨W, 9⟩) (ifts := ifts) hmix at48 k48
theorem at49 : Tryz.prog.funcs[49]? = some Tryz.f49 := by kernel_rfl
theorem k49 : compF Tryz.prog 9 ifts false Tryz.f49 4 = some a49 := by kernel_rfl
theorem ok49 (W : World) : FnOk ⟨W, 9⟩ Tryz.prog 49 a49 := compF_ok (c := ⟨W, 9⟩) (ifts := ifts) hmix at49 k49
theorem ok50 (W : World) : FnOk ⟨W, 9⟩ Tryz.prog 50 a50 := fn_no
theorem at51 : Tryz.prog.funcs[51]? = some Tryz.f51 := by kernel_rfl
theorem k51 : compF Tryz.prog 9 ifts false Tryz.f51 2 = some a51 := by kernel_rfl
theorem ok51 (W : World) : FnOk ⟨W, 9⟩ Tryz.prog 51 a51 := compF_ok (c := ⟨W, 9⟩) (ifts := ifts) hmix at51 k51
theorem at52 : Tryz.prog.funcs[52]? = some Tryz.f52 := by kernel_rfl
theorem xe52 : Ext Tryz.prog 52 Tryz.f52 Extern.BytealgIndexByte.indexByte := ⟨at52, by kernel_rfl, by kernel_rfl, by kernel_rfl, by kernel_rfl⟩
theorem ok52 (W : World) : FnOk ⟨W, 9⟩ Tryz.prog 52 a52 := fn_indexByte xe52
theorem ok53 (W : World) : FnOk ⟨W, 9⟩ Tryz.prog 53 a53 := fn_no
theorem at54 : Tryz.prog.funcs[54]? = some Tryz.f54 := by kernel_rfl
theorem k54 : compF Tryz.prog 9 ifts false Tryz.f54 2 = some a54 := by kernel_rfl
theorem ok54 (W : World) : FnOk ⟨W, 9⟩ Tryz.prog 54 a54 := compF_ok (c := ⟨W, 9⟩) (ifts := ifts) hmix at54 k54
theorem at55 : Tryz.prog.funcs[55]? = some Tryz.f55 := by kernel_rfl
theorem k55 : compF Tryz.prog 9 ifts false Tryz.f55 2 = some a55 := by kernel_rfl
theorem ok55 (W : World) : FnOk ⟨W, 9⟩ Tryz.prog 55 a55 := compF_ok (c := ⟨W, 9⟩) (ifts := ifts) hmix at55 k55
theorem at56 : Tryz.prog.funcs[56]? = some Tryz.f56 := by kernel_rfl
theorem k56 : compF Tryz.prog 9 ifts false Tryz.f56 2 = some a56 := by kernel_rfl
theorem ok56 (W : World) : FnOk ⟨W, 9⟩ Tryz.prog 56 a56 := compF_ok (c := ⟨W, 9⟩) (ifts := ifts) hmix at56 k56
theorem at57 : Tryz.prog.funcs[57]? = some Tryz.f57 := by kernel_rfl
theorem k57 : compF Tryz.prog 9 ifts false Tryz.f57 2 = some a57 := by kernel_rfl
theorem ok57 (W : World) : FnOk ⟨W, 9⟩ Tryz.prog 57 a57 := compF_ok (c := ⟨W, 9⟩) (ifts := ifts) hmix at57 k57
theorem ok58 (W : World) : FnOk ⟨W, 9⟩ Tryz.prog 58 a58 := fn_no
theorem ok59 (W : World) : FnOk ⟨W, 9⟩ Tryz.prog 59 a59 := fn_no
theorem at60 : Tryz.prog.funcs[60]? = some Tryz.f60 := by kernel_rfl
theorem k60 : compF Tryz.prog 9 ifts false Tryz.f60 1 = some a60 := by kernel_rfl
theorem ok60 (W : World) : FnOk ⟨W, 9⟩ Tryz.prog 60 a60 := compF_ok (c := ⟨W, 9⟩) (ifts := ifts) hmix at60 k60
theorem ok61 (W : World) : FnOk ⟨W, 9⟩ Tryz.prog 61 a61 := fn_no
theorem at62 : Tryz.prog.funcs[62]? = some Tryz.f62 := by kernel_rfl
theorem k62 : compF Tryz.prog 9 ifts false Tryz.f62 4 = some a62 := by kernel_rfl
theorem ok62 (W : World) : FnOk ⟨W, 9⟩ Tryz.prog 62 a62 := compF_ok (c := ⟨W, 9⟩) (ifts := ifts) hmix at62 k62
theorem at63 : Tryz.prog.funcs[63]? = some Tryz.f63 := by kernel_rfl
theorem k63 : compF Tryz.prog 9 ifts false Tryz.f63 2 = some a63 := by kernel_rfl
theorem ok63 (W : World) : FnOk ⟨W, 9⟩ Tryz.prog 63 a63 := compF_ok (c := ⟨W, 9⟩) (ifts := ifts) hmix at63 k63
theorem ok64 (W : World) : FnOk ⟨W, 9⟩ Tryz.prog 64 a64 := fn_no
theorem ok65 (W : World) : FnOk ⟨W, 9⟩ Tryz.prog 65 a65 := fn_no
theorem at66 : Tryz.prog.funcs[66]? = some Tryz.f66 := by kernel_rfl
theorem k66 : compF Tryz.prog 9 ifts false Tryz.f66 1 = some a66 := by kernel_rfl
theorem ok66 (W : World) : FnOk ⟨W, 9⟩ Tryz.prog 66 a66 := compF_ok (c := ⟨W, 9⟩) (ifts := ifts) hmix at66 k66
theorem at67 : Tryz.prog.funcs[67]? = some Tryz.f67 := by kernel_rfl
theorem k67 : compF Tryz.prog 9 ifts false Tryz.f67 4 = some a67 := by kernel_rfl
theorem ok67 (W : World) : FnOk ⟨W, 9⟩ Tryz.prog 67 a67 := compF_ok (c := ⟨W, 9⟩) (ifts := ifts) hmix at67 k67
theorem at68 : Tryz.prog.funcs[68]? = some Tryz.f68 := by kernel_rfl
theorem k68 : compF Tryz.prog 9 ifts false Tryz.f68 4 = some a68 := by kernel_rfl
theorem ok68 (W : World) : FnOk ⟨W, 9⟩ Tryz.prog 68 a68 := compF_ok (c := ⟨W, 9⟩) (ifts := ifts) hmix at68 k68
theorem ok69 (W : World) : FnOk ⟨W, 9⟩ Tryz.prog 69 a69 := fn_no
theorem ok70 (W : World) : FnOk ⟨W, 9⟩ Tryz.prog 70 a70 := fn_no
theorem ok71 (W : World) : FnOk ⟨W, 9⟩ Tryz.prog 71 a71 := fn_no
theorem ok72 (W : World) : FnOk ⟨W, 9⟩ Tryz.prog 72 a72 := fn_no
theorem at73 : Tryz.prog.funcs[73]? = some Tryz.f73 := by kernel_rfl
theorem k73 : compF Tryz.prog 9 ifts false Tryz.f73 2 = some a73 := by kernel_rfl
theorem ok73 (W : World) : FnOk ⟨W, 9⟩ Tryz.prog 73 a73 := compF_ok (c := ⟨W, 9⟩) (ifts := ifts) hmix at73 k73
theorem at74 : Tryz.prog.funcs[74]? = some Tryz.f74 := by kernel_rfl
theorem k74 : compF Tryz.prog 9 ifts false Tryz.f74 2 = some a74 := by kernel_rfl
theorem ok74 (W : World) : FnOk ⟨W, 9⟩ Tryz.prog 74 a74 := compF_ok (c := ⟨W, 9⟩) (ifts := ifts) hmix at74 k74
theorem ok75 (W : World) : FnOk ⟨W, 9⟩ Tryz.prog 75 a75 := fn_no
theorem at76 : Tryz.prog.funcs[76]? = some Tryz.f76 := by kernel_rfl
theorem k76 : compF Tryz.prog 9 ifts false Tryz.f76 1 = some a76 := by kernel_rfl
theorem ok76 (W : World) : FnOk ⟨W, 9⟩ Tryz.prog 76 a76 := compF_ok (c := ⟨W, 9⟩) (ifts := ifts) hmix at76 k76
theorem at77 : Tryz.prog.funcs[77]? = some Tryz.f77 := by kernel_rfl
theorem k77 : compF Tryz.prog 9 ifts false Tryz.f77 2 = some a77 := by kernel_rfl
theorem ok77 (W : World) : FnOk ⟨W, 9⟩ Tryz.prog 77 a77 := compF_ok (c := ⟨W, 9⟩) (ifts := ifts) hmix at77 k77
theorem ok78 (W : World) : FnOk ⟨W, 9⟩ Tryz.prog 78 a78 := fn_no
theorem ok79 (W : World) : FnOk ⟨W, 9⟩ Tryz.prog 79 a79 := fn_no
theorem ok80 (W : World) : FnOk ⟨W, 9⟩ Tryz.prog 80 a80 := fn_no
theorem at81 : Tryz.prog.funcs[81]? = some Tryz.f81 := by kernel_rfl
theorem k81 : compF Tryz.prog 9 ifts false Tryz.f81 1 = some a81 := by kernel_rfl
theorem ok81 (W : World) : FnOk ⟨W, 9⟩ Tryz.prog 81 a81 := compF_ok (c := ⟨W, 9⟩) (ifts := ifts) hmix at81 k81
theorem at82 : Tryz.prog.funcs[82]? = some Tryz.f82 := by kernel_rfl
theorem k82 : compF Tryz.prog 9 ifts false Tryz.f82 1 = some a82 := by kernel_rfl
theorem ok82 (W : World) : FnOk ⟨W, 9⟩ Tryz.prog 82 a82 := compF_ok (c := ⟨W, 9⟩) (ifts := ifts) hmix at82 k82
theorem at83 : Tryz.prog.funcs[83]? = some Tryz.f83 := by kernel_rfl
theorem k83 : compF Tryz.prog 9 ifts false Tryz.f83 1 = some a83 := by kernel_rfl
theorem ok83 (W : World) : FnOk ⟨W, 9⟩ Tryz.prog 83 a83 := compF_ok (c := ⟨W, 9⟩) (ifts := ifts) hmix at83 k83
theorem ok84 (W : World) : FnOk ⟨W, 9⟩ Tryz.prog 84 a84 := fn_no
theorem ok85 (W : World) : FnOk ⟨W, 9⟩ Tryz.prog 85 a85 := fn_no
theorem ok86 (W : World) : FnOk ⟨W, 9⟩ Tryz.prog 86 a86 := fn_no
theorem ok87 (W : World) : FnOk ⟨W, 9⟩ Tryz.prog 87 a87 := fn_no
theorem ok88 (W : World) : FnOk ⟨W, 9⟩ Tryz.prog 88 a88 := fn_no
theorem ok89 (W : World) : FnOk ⟨W, 9⟩ Tryz.prog 89 a89 := fn_no
theorem ok90 (W : World) : FnOk ⟨W, 9⟩ Tryz.prog 90 a90 := fn_no
theorem at91 : Tryz.prog.funcs[91]? = some Tryz.f91 := by kernel_rfl
theorem xe91 : Ext Tryz.prog 91 Tryz.f91 Extern.BytealgCount.count := ⟨at91, by kernel_rfl, by kernel_rfl, by kernel_rfl, by kernel_rfl⟩
theorem ok91 (W : World) : FnOk ⟨W, 9⟩ Tryz.prog 91 a91 := fn_countStr xe91
theorem at92 : Tryz.prog.funcs[92]? = some Tryz.f92 := by kernel_rfl
theorem k92 : compF Tryz.prog 9 ifts false Tryz.f92 2 = some a92 := by kernel_rfl
theorem ok92 (W : World) : FnOk ⟨W, 9⟩ Tryz.prog 92 a92 := compF_ok (c := ⟨W, 9⟩) (ifts := ifts) hmix at92 k92
theorem ok93 (W : World) : FnOk ⟨W, 9⟩ Tryz.prog 93 a93 := fn_no
theorem at94 : Tryz.prog.funcs[94]? = some Tryz.f94 := by kernel_rfl
theorem k94 : compF Tryz.prog 9 ifts false Tryz.f94 2 = some a94 := by kernel_rfl
theorem ok94 (W : World) : FnOk ⟨W, 9⟩ Tryz.prog 94 a94 := compF_ok (c := ⟨W, 9⟩) (ifts := ifts) hmix at94 k94
theorem at95 : Tryz.prog.funcs[95]? = some Tryz.f95 := by kernel_rfl
theorem k95 : compF Tryz.prog 9 ifts false Tryz.f95 1 = some a95 := by kernel_rfl
theorem ok95 (W : World) : FnOk ⟨W, 9⟩ Tryz.prog 95 a95 := compF_ok (c := ⟨W, 9⟩) (ifts := ifts) hmix at95 k95
theorem ok96 (W : World) : FnOk ⟨W, 9⟩ Tryz.prog 96 a96 := fn_no
theorem at97 : Tryz.prog.funcs[97]? = some Tryz.f97 := by kernel_rfl
theorem k97 : compF Tryz.prog 9 ifts false Tryz.f97 1 = some a97 := by kernel_rfl
theorem ok97 (W : World) : FnOk ⟨W, 9⟩ Tryz.prog 97 a97 := compF_ok (c := ⟨W, 9⟩) (ifts := ifts) hmix at97 k97
theorem ok98 (W : World) : FnOk ⟨W, 9⟩ Tryz.prog 98 a98 := fn_no
theorem ok99 (W : World) : FnOk ⟨W, 9⟩ Tryz.prog 99 a99 := fn_no
theorem ok100 (W : World) : FnOk ⟨W, 9⟩ Tryz.prog 100 a100 := fn_no
theorem ok101 (W : World) : FnOk ⟨W, 9⟩ Tryz.prog 101 a101 := fn_no
theorem ok102 (W : World) : FnOk ⟨W, 9⟩ Tryz.prog 102 a102 := fn_no
theorem ok103 (W : World) : FnOk ⟨W, 9⟩ Tryz.prog 103 a103 := fn_no
theorem ok104 (W : World) : FnOk ⟨W, 9⟩ Tryz.prog 104 a104 := fn_no
theorem at105 : Tryz.prog.funcs[105]? = some Tryz.f105 := by kernel_rfl
theorem k105 : compF Tryz.prog 9 ifts false Tryz.f105 2 = some a105 := by kernel_rfl
theorem ok105 (W : World) : FnOk ⟨W, 9⟩ Tryz.prog 105 a105 := compF_ok (c := ⟨W, 9⟩) (ifts := ifts) hmix at105 k105
theorem ok106 (W : World) : FnOk ⟨W, 9⟩ Tryz.prog 106 a106 := fn_no
theorem ok107 (W : World) : FnOk ⟨W, 9⟩ Tryz.prog 107 a107 := fn_no
theorem ok108 (W : World) : FnOk ⟨W, 9⟩ Tryz.prog 108 a108 := fn_no
theorem ok109 (W : World) : FnOk ⟨W, 9⟩ Tryz.prog 109 a109 := fn_no
theorem ok110 (W : World) : FnOk ⟨W, 9⟩ Tryz.prog 110 a110 := fn_no
theorem ok111 (W : World) : FnOk ⟨W, 9⟩ Tryz.prog 111 a111 := fn_no
theorem at112 : Tryz.prog.funcs[112]? = some Tryz.f112 := by kernel_rfl
theorem k112 : compF Tryz.prog 9 ifts false Tryz.f112 2 = some a112 := by kernel_rfl
theorem ok112 (W : World) : FnOk ⟨W, 9⟩ Tryz.prog 112 a112 := compF_ok (c := ⟨W, 9⟩) (ifts := ifts) hmix at112 k112
theorem ok113 (W : World) : FnOk ⟨W, 9⟩ Tryz.prog 113 a113 := fn_no
theorem ok114 (W : World) : FnOk ⟨W, 9⟩ Tryz.prog 114 a114 := fn_no
theorem ok115 (W : World) : FnOk ⟨W, 9⟩ Tryz.prog 115 a115 := fn_no
theorem ok116 (W : World) : FnOk ⟨W, 9⟩ Tryz.prog 116 a116 := fn_no
theorem ok117 (W : World) : FnOk ⟨W, 9⟩ Tryz.prog 117 a117 := fn_no
theorem at118 : Tryz.prog.funcs[118]? = some Tryz.f118 := by kernel_rfl
theorem k118 : compF Tryz.prog 9 ifts false Tryz.f118 1 = some a118 := by kernel_rfl
theorem ok118 (W : World) : FnOk ⟨W, 9⟩ Tryz.prog 118 a118 := compF_ok (c := ⟨W, 9⟩) (ifts := ifts) hmix at118 k118
theorem ok119 (W : World) : FnOk ⟨W, 9⟩ Tryz.prog 119 a119 := fn_no
theorem ok120 (W : World) : FnOk ⟨W, 9⟩ Tryz.prog 120 a120 := fn_no
theorem ok121 (W : World) : FnOk ⟨W, 9⟩ Tryz.prog 121 a121 := fn_no
theorem ok122 (W : World) : FnOk ⟨W, 9⟩ Tryz.prog 122 a122 := fn_no
theorem ok123 (W : World) : FnOk ⟨W, 9⟩ Tryz.prog 123 a123 := fn_no
theorem ok124 (W : World) : FnOk ⟨W, 9⟩ Tryz.prog 124 a124 := fn_no
theorem ok125 (W : World) : FnOk ⟨W, 9⟩ Tryz.prog 125 a125 := fn_no
theorem ok126 (W : World) : FnOk ⟨W, 9⟩ Tryz.prog 126 a126 := fn_no
theorem ok127 (W : World) : FnOk ⟨W, 9⟩ Tryz.prog 127 a127 := fn_no
theorem ok128 (W : World) : FnOk ⟨W, 9⟩ Tryz.prog 128 a128 := fn_no
theorem ok129 (W : World) : FnOk ⟨W, 9⟩ Tryz.prog 129 a129 := fn_no
theorem ok130 (W : World) : FnOk ⟨W, 9⟩ Tryz.prog 130 a130 := fn_no
theorem ok131 (W : World) : FnOk ⟨W, 9⟩ Tryz.prog 131 a131 := fn_no
theorem allOk (W : World) : AllT (fun f x => FnOk ⟨W, 9⟩ Tryz.prog f x) fns 0 1 := (.hole (.hole (.hole (.here (ok7 W) (.here (ok15 W) (.here (ok31 W) (.here (ok63 W) (.here (ok127 W) .leaf .leaf) .leaf) (.here (ok95 W) .leaf .leaf)) (.here (ok47 W) (.here (ok79 W) .leaf .leaf) (.here (ok111 W) .leaf .leaf))) (.here (ok23 W) (.here (ok39 W) (.here (ok71 W) .leaf .leaf) (.here (ok103 W) .leaf .leaf)) (.here (ok55 W) (.here (ok87 W) .leaf .leaf) (.here (ok119 W) .leaf .leaf)))) (.here (ok11 W) (.here (ok19 W) (.here (ok35 W) (.here (ok67 W) (.here (ok131 W) .leaf .leaf) .leaf) (.here (ok99 W) .leaf .leaf)) (.here (ok51 W) (.here (ok83 W) .leaf .leaf) (.here (ok115 W) .leaf .leaf))) (.here (ok27 W) (.here (ok43 W) (.here (ok75 W) .leaf .leaf) (.here (ok107 W) .leaf .leaf)) (.here (ok59 W) (.here (ok91 W) .leaf .leaf) (.here (ok123 W) .leaf .leaf))))) (.here (ok5 W) (.here (ok9 W) (.here (ok17 W) (.here (ok33 W) (.here (ok65 W) (.here (ok129 W) .leaf .leaf) .leaf) (.here (ok97 W) .leaf .leaf)) (.here (ok49 W) (.here (ok81 W) .leaf .leaf) (.here (ok113 W) .leaf .leaf))) (.here (ok25 W) (.here (ok41 W) (.here (ok73 W) .leaf .leaf) (.here (ok105 W) .leaf .leaf)) (.here (ok57 W) (.here (ok89 W) .leaf .leaf) (.here (ok121 W) .leaf .leaf)))) (.here (ok13 W) (.here (ok21 W) (.here (ok37 W) (.here (ok69 W) .leaf .leaf) (.here (ok101 W) .leaf .leaf)) (.here (ok53 W) (.here (ok85 W) .leaf .leaf) (.here (ok117 W) .leaf .leaf))) (.here (ok29 W) (.here (ok45 W) (.here (ok77 W) .leaf .leaf) (.here (ok109 W) .leaf .leaf)) (.here (ok61 W) (.here (ok93 W) .leaf .leaf) (.here (ok125 W) .leaf .leaf)))))) (.hole (.here (ok4 W) (.here (ok8 W) (.here (ok16 W) (.here (ok32 W) (.here (ok64 W) (.here (ok128 W) .leaf .leaf) .leaf) (.here (ok96 W) .leaf .leaf)) (.here (ok48 W) (.here (ok80 W) .leaf .leaf) (.here (ok112 W) .leaf .leaf))) (.here (ok24 W) (.here (ok40 W) (.here (ok72 W) .leaf .leaf) (.here (ok104 W) .leaf .leaf)) (.here (ok56 W) (.here (ok88 W) .leaf .leaf) (.here (ok120 W) .leaf .leaf)))) (.here (ok12 W) (.here (ok20 W) (.here (ok36 W) (.here (ok68 W) .leaf .leaf) (.here (ok100 W) .leaf .leaf)) (.here (ok52 W) (.here (ok84 W) .leaf .leaf) (.here (ok116 W) .leaf .leaf))) (.here (ok28 W) (.here (ok44 W) (.here (ok76 W) .leaf .leaf) (.here (ok108 W) .leaf .leaf)) (.here (ok60 W) (.here (ok92 W) .leaf .leaf) (.here (ok124 W) .leaf .leaf))))) (.here (ok6 W) (.here (ok10 W) (.here (ok18 W) (.here (ok34 W) (.here (ok66 W) (.here (ok130 W) .leaf .leaf) .leaf) (.here (ok98 W) .leaf .leaf)) (.here (ok50 W) (.here (ok82 W) .leaf .leaf) (.here (ok114 W) .leaf .leaf))) (.here (ok26 W) (.here (ok42 W) (.here (ok74 W) .leaf .leaf) (.here (ok106 W) .leaf .leaf)) (.here (ok58 W) (.here (ok90 W) .leaf .leaf) (.here (ok122 W) .leaf .leaf)))) (.here (ok14 W) (.here (ok22 W) (.here (ok38 W) (.here (ok70 W) .leaf .leaf) (.here (ok102 W) .leaf .leaf)) (.here (ok54 W) (.here (ok86 W) .leaf .leaf) (.here (ok118 W) .leaf .leaf))) (.here (ok30 W) (.here (ok46 W) (.here (ok78 W) .leaf .leaf) (.here (ok110 W) .leaf .leaf)) (.here (ok62 W) (.here (ok94 W) .leaf .leaf) (.here (ok126 W) .leaf .leaf)))))))
theorem fnsOk (W : World) (f : Nat) (x : AF) (h : fns.get f = some x) : FnOk ⟨W, 9⟩ Tryz.prog f x := by
  have := AllT.get (allOk W) f x h
  rwa [Nat.zero_add, Nat.one_mul] at this
end Go.Kev.Tryz
