/- Lemmas and contracts of functions. No condition. -/
import Derived.Shelf.SlLaysF0
import Derived.Test.YtdohbogbnheakaaGreatDoorJPfBoth401
namespace Go.Proofs.YtdohbogbnheakaaGreatDoor
open _root_.Go.Proofs.Tryz
set_option maxRecDepth 100000
set_option maxHeartbeats 20000000
set_option linter.all false
section
open Go.Shelf Go.Proofs
def zkK:Go.Shelf.Ren:=⟨fun | 6=>260 | 15=>88 | 14=>311 | 28=>151 | 29=>152 | 20=>351 | 21=>352 | 22=>353 | 23=>354 | 24=>355 | 25=>356 | 26=>357 | 27=>358 | 46=>368 | 47=>221 | 48=>222 | 49=>369 | 50=>370 | 57=>372 | n=>n,fun | 22=>233 | 24=>236 | 25=>376 | 3=>3 | 39=>159 | 0=>0 | 53=>143 | 55=>27 | 4=>4 | 46=>246 | 45=>245 | 50=>205 | 5=>5 | 9=>9 | 66=>326 | 70=>329 | 76=>394 | 77=>237 | n=>n,fun | n=>n⟩
theorem zby:Go.Proofs.SlLaysF0.n6 prog zkK := {
 mixed:=by kernel_rfl
 f6:=⟨f260.name,by decide,func260.trans (congrArg some (by kernel_rfl))⟩
 f14:=⟨f311.name,by decide,func311.trans (congrArg some (by kernel_rfl))⟩
 f15:=func88.trans (congrArg some (by kernel_rfl))
 f20:=⟨f351.name,by decide,func351.trans (congrArg some (by kernel_rfl))⟩
 f21:=⟨f352.name,by decide,func352.trans (congrArg some (by kernel_rfl))⟩
 f22:=⟨f353.name,by decide,func353.trans (congrArg some (by kernel_rfl))⟩
 f23:=⟨f354.name,by decide,func354.trans (congrArg some (by kernel_rfl))⟩
 f24:=⟨f355.name,by decide,func355.trans (congrArg some (by kernel_rfl))⟩
 f25:=⟨f356.name,by decide,func356.trans (congrArg some (by kernel_rfl))⟩
 f26:=⟨f357.name,by decide,func357.trans (congrArg some (by kernel_rfl))⟩
 f27:=⟨f358.name,by decide,func358.trans (congrArg some (by kernel_rfl))⟩
 f28:=func151.trans (congrArg some (by kernel_rfl))
 f29:=func152.trans (congrArg some (by kernel_rfl))
 f46:=⟨f368.name,by decide,func368.trans (congrArg some (by kernel_rfl))⟩
 f47:=func221.trans (congrArg some (by kernel_rfl))
 f48:=func222.trans (congrArg some (by kernel_rfl))
 f49:=⟨f369.name,by decide,func369.trans (congrArg some (by kernel_rfl))⟩
 f50:=⟨f370.name,by decide,func370.trans (congrArg some (by kernel_rfl))⟩
 f57:=⟨f372.name,by decide,func372.trans (congrArg some (by kernel_rfl))⟩
 t0:=underlying0
 a0:=isAgg0
 z0:=sizeOf0
 v0:=zeroValue0
 t3:=underlying3
 a3:=isAgg3
 z3:=sizeOf3
 v3:=zeroValue3
 t4:=underlying4
 a4:=isAgg4
 z4:=sizeOf4
 v4:=zeroValue4
 t5:=underlying5
 a5:=isAgg5
 z5:=sizeOf5
 v5:=zeroValue5
 t9:=underlying9
 a9:=isAgg9
 z9:=sizeOf9
 v9:=zeroValue9
 t22:=underlying233
 a22:=isAgg233
 z22:=sizeOf233
 v22:=zeroValue233
 t25:=underlying376
 a25:=isAgg376
 z25:=sizeOf376
 v25:=zeroValue376
 t39:=underlying159
 a39:=isAgg159
 z39:=sizeOf159
 v39:=zeroValue159
 t45:=underlying245
 a45:=isAgg245
 z45:=sizeOf245
 v45:=zeroValue245
 t46:=underlying246
 a46:=isAgg246
 z46:=sizeOf246
 v46:=zeroValue246
 t50:=underlying205
 a50:=isAgg205
 z50:=sizeOf205
 v50:=zeroValue205
 t53:=underlying143
 a53:=isAgg143
 z53:=sizeOf143
 v53:=zeroValue143
 t55:=underlying27
 a55:=isAgg27
 z55:=sizeOf27
 v55:=zeroValue27
 t66:=underlying326
 a66:=isAgg326
 z66:=sizeOf326
 v66:=zeroValue326
 t70:=underlying329
 a70:=isAgg329
 z70:=sizeOf329
 v70:=zeroValue329
 t76:=underlying394
 a76:=isAgg394
 z76:=sizeOf394
 v76:=zeroValue394
 t77:=underlying237
 a77:=isAgg237
 z77:=sizeOf237
 v77:=zeroValue237}
end
end Go.Proofs.YtdohbogbnheakaaGreatDoor
