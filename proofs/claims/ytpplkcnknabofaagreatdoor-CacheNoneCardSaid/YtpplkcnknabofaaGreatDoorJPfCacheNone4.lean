/- Lemmas and contracts of functions. No condition. -/
import Derived.Shelf.SlLaysF0
import Derived.Test.YtpplkcnknabofaaGreatDoorJPfCacheNone1
namespace Go.Proofs.YtpplkcnknabofaaGreatDoor
open _root_.Go.Proofs.Tryz
set_option maxRecDepth 100000
set_option maxHeartbeats 20000000
set_option linter.all false
section
open Go.Shelf Go.Proofs
def zeV:Go.Shelf.Ren:=⟨fun | 6=>297 | 15=>343 | 14=>342 | 28=>378 | 29=>331 | 20=>370 | 21=>371 | 22=>372 | 23=>373 | 24=>374 | 25=>375 | 26=>376 | 27=>377 | 46=>382 | 47=>383 | 48=>384 | 49=>385 | 50=>386 | 57=>387 | n=>n,fun | 22=>230 | 24=>226 | 25=>368 | 3=>3 | 39=>376 | 0=>0 | 53=>114 | 55=>22 | 4=>4 | 46=>426 | 45=>425 | 50=>172 | 5=>5 | 9=>9 | 66=>435 | 70=>438 | 76=>440 | 77=>87 | n=>n,fun | n=>n⟩
theorem Qy:Go.Proofs.SlLaysF0.n6 prog zeV := {
 mixed:=by kernel_rfl
 f6:=⟨f297.name,by decide,func297.trans (congrArg some (by kernel_rfl))⟩
 f14:=⟨f342.name,by decide,func342.trans (congrArg some (by kernel_rfl))⟩
 f15:=func343.trans (congrArg some (by kernel_rfl))
 f20:=⟨f370.name,by decide,func370.trans (congrArg some (by kernel_rfl))⟩
 f21:=⟨f371.name,by decide,func371.trans (congrArg some (by kernel_rfl))⟩
 f22:=⟨f372.name,by decide,func372.trans (congrArg some (by kernel_rfl))⟩
 f23:=⟨f373.name,by decide,func373.trans (congrArg some (by kernel_rfl))⟩
 f24:=⟨f374.name,by decide,func374.trans (congrArg some (by kernel_rfl))⟩
 f25:=⟨f375.name,by decide,func375.trans (congrArg some (by kernel_rfl))⟩
 f26:=⟨f376.name,by decide,func376.trans (congrArg some (by kernel_rfl))⟩
 f27:=⟨f377.name,by decide,func377.trans (congrArg some (by kernel_rfl))⟩
 f28:=func378.trans (congrArg some (by kernel_rfl))
 f29:=func331.trans (congrArg some (by kernel_rfl))
 f46:=⟨f382.name,by decide,func382.trans (congrArg some (by kernel_rfl))⟩
 f47:=func383.trans (congrArg some (by kernel_rfl))
 f48:=func384.trans (congrArg some (by kernel_rfl))
 f49:=⟨f385.name,by decide,func385.trans (congrArg some (by kernel_rfl))⟩
 f50:=⟨f386.name,by decide,func386.trans (congrArg some (by kernel_rfl))⟩
 f57:=⟨f387.name,by decide,func387.trans (congrArg some (by kernel_rfl))⟩
 t0:=underlying0
 a0:=isAgg0
 z0:=sizeOf0
 v0:=zeroValue0
 t3:=underlying3
 a3:=isAgg3
 z3:=sizeOf3
 v3:=zeroValue3
 t4:=underlying4
 a4:=isAgg4
 z4:=sizeOf4
 v4:=zeroValue4
 t5:=underlying5
 a5:=isAgg5
 z5:=sizeOf5
 v5:=zeroValue5
 t9:=underlying9
 a9:=isAgg9
 z9:=sizeOf9
 v9:=zeroValue9
 t22:=underlying230
 a22:=isAgg230
 z22:=sizeOf230
 v22:=zeroValue230
 t25:=underlying368
 a25:=isAgg368
 z25:=sizeOf368
 v25:=zeroValue368
 t39:=underlying376
 a39:=isAgg376
 z39:=sizeOf376
 v39:=zeroValue376
 t45:=underlying425
 a45:=isAgg425
 z45:=sizeOf425
 v45:=zeroValue425
 t46:=underlying426
 a46:=isAgg426
 z46:=sizeOf426
 v46:=zeroValue426
 t50:=underlying172
 a50:=isAgg172
 z50:=sizeOf172
 v50:=zeroValue172
 t53:=underlying114
 a53:=isAgg114
 z53:=sizeOf114
 v53:=zeroValue114
 t55:=underlying22
 a55:=isAgg22
 z55:=sizeOf22
 v55:=zeroValue22
 t66:=underlying435
 a66:=isAgg435
 z66:=sizeOf435
 v66:=zeroValue435
 t70:=underlying438
 a70:=isAgg438
 z70:=sizeOf438
 v70:=zeroValue438
 t76:=underlying440
 a76:=isAgg440
 z76:=sizeOf440
 v76:=zeroValue440
 t77:=underlying87
 a77:=isAgg87
 z77:=sizeOf87
 v77:=zeroValue87}
end
end Go.Proofs.YtpplkcnknabofaaGreatDoor
