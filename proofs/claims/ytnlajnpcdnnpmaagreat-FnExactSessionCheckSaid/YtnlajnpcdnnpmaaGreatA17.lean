/- Part of a proof. No condition. -/
import Derived.Shelf.SlSortCmp.Whole1
import Derived.Ground.SlsfProg
import Derived.Test.YtnlajnpcdnnpmaaGreatProg
namespace Go.Proofs
open Go.Proofs.Tryz
set_option linter.unusedVariables false
set_option linter.unusedSimpArgs false
set_option maxRecDepth 100000
set_option maxHeartbeats 8000000
open Go.Shelf
def Tryz.sortP_ren:Go.Shelf.Ren:=⟨fun | 6=>342 | 15=>369 | 14=>368 | 28=>393 | 29=>394 | 20=>385 | 21=>386 | 22=>387 | 23=>388 | 24=>389 | 25=>390 | 26=>391 | 27=>392 | 46=>401 | 47=>402 | 48=>403 | 49=>404 | 50=>405 | 57=>406 | n=>n,fun | 22=>101 | 24=>77 | 25=>377 | 3=>3 | 39=>394 | 0=>0 | 53=>412 | 55=>334 | 4=>4 | 46=>405 | 45=>404 | 50=>409 | 5=>5 | 9=>9 | 66=>419 | 70=>423 | 76=>425 | 77=>426 | n=>n,fun | n=>n⟩
theorem Tryz.sortP:Go.Proofs.SlLaysF.n6 prog Tryz.sortP_ren:={
 mixed:=by kernel_rfl
 f6:=⟨Tryz.f342.name,by decide,func342.trans (congrArg some (by kernel_rfl))⟩
 f14:=⟨Tryz.f368.name,by decide,func368.trans (congrArg some (by kernel_rfl))⟩
 f15:=func369.trans (congrArg some (by kernel_rfl))
 f20:=⟨Tryz.f385.name,by decide,func385.trans (congrArg some (by kernel_rfl))⟩
 f21:=⟨Tryz.f386.name,by decide,func386.trans (congrArg some (by kernel_rfl))⟩
 f22:=⟨Tryz.f387.name,by decide,func387.trans (congrArg some (by kernel_rfl))⟩
 f23:=⟨Tryz.f388.name,by decide,func388.trans (congrArg some (by kernel_rfl))⟩
 f24:=⟨Tryz.f389.name,by decide,func389.trans (congrArg some (by kernel_rfl))⟩
 f25:=⟨Tryz.f390.name,by decide,func390.trans (congrArg some (by kernel_rfl))⟩
 f26:=⟨Tryz.f391.name,by decide,func391.trans (congrArg some (by kernel_rfl))⟩
 f27:=⟨Tryz.f392.name,by decide,func392.trans (congrArg some (by kernel_rfl))⟩
 f28:=func393.trans (congrArg some (by kernel_rfl))
 f29:=func394.trans (congrArg some (by kernel_rfl))
 f46:=⟨Tryz.f401.name,by decide,func401.trans (congrArg some (by kernel_rfl))⟩
 f47:=func402.trans (congrArg some (by kernel_rfl))
 f48:=func403.trans (congrArg some (by kernel_rfl))
 f49:=⟨Tryz.f404.name,by decide,func404.trans (congrArg some (by kernel_rfl))⟩
 f50:=⟨Tryz.f405.name,by decide,func405.trans (congrArg some (by kernel_rfl))⟩
 f57:=⟨Tryz.f406.name,by decide,func406.trans (congrArg some (by kernel_rfl))⟩
 t0:=underlying0
 a0:=Tryz.isAgg0
 z0:=Tryz.sizeOf0
 v0:=Tryz.zeroValue0
 t3:=underlying3
 a3:=Tryz.isAgg3
 z3:=Tryz.sizeOf3
 v3:=Tryz.zeroValue3
 t4:=underlying4
 a4:=Tryz.isAgg4
 z4:=Tryz.sizeOf4
 v4:=Tryz.zeroValue4
 t5:=underlying5
 a5:=Tryz.isAgg5
 z5:=Tryz.sizeOf5
 v5:=Tryz.zeroValue5
 t9:=underlying9
 a9:=Tryz.isAgg9
 z9:=Tryz.sizeOf9
 v9:=Tryz.zeroValue9
 t22:=underlying101
 a22:=Tryz.isAgg101
 z22:=Tryz.sizeOf101
 v22:=Tryz.zeroValue101
 a24:=Tryz.isAgg77
 z24:=Tryz.sizeOf77
 t25:=underlying377
 a25:=Tryz.isAgg377
 z25:=Tryz.sizeOf377
 v25:=Tryz.zeroValue377
 t39:=underlying394
 a39:=Tryz.isAgg394
 z39:=Tryz.sizeOf394
 v39:=Tryz.zeroValue394
 t45:=underlying404
 a45:=Tryz.isAgg404
 z45:=Tryz.sizeOf404
 v45:=Tryz.zeroValue404
 t46:=underlying405
 a46:=Tryz.isAgg405
 z46:=Tryz.sizeOf405
 v46:=Tryz.zeroValue405
 t50:=underlying409
 a50:=Tryz.isAgg409
 z50:=Tryz.sizeOf409
 v50:=Tryz.zeroValue409
 t53:=underlying412
 a53:=Tryz.isAgg412
 z53:=Tryz.sizeOf412
 v53:=Tryz.zeroValue412
 t55:=underlying334
 a55:=Tryz.isAgg334
 z55:=Tryz.sizeOf334
 v55:=Tryz.zeroValue334
 t66:=underlying419
 a66:=Tryz.isAgg419
 z66:=Tryz.sizeOf419
 v66:=Tryz.zeroValue419
 t70:=underlying423
 a70:=Tryz.isAgg423
 z70:=Tryz.sizeOf423
 v70:=Tryz.zeroValue423
 t76:=underlying425
 a76:=Tryz.isAgg425
 z76:=Tryz.sizeOf425
 v76:=Tryz.zeroValue425
 t77:=underlying426
 a77:=Tryz.isAgg426
 z77:=Tryz.sizeOf426
 v77:=Tryz.zeroValue426 }
end Go.Proofs
