/- Lemmas and contracts of functions. No condition. -/
import Derived.Test.YtdohbogbnheakaaGreatDoorJPfBoth4823
namespace Go.Proofs.YtdohbogbnheakaaGreatDoor
open _root_.Go.Proofs.Tryz
set_option maxRecDepth 100000
set_option maxHeartbeats 20000000
set_option linter.all false
section
open Go.RowKit Go.Shelf
section
variable{w:World}
theorem zhe(n:Nat)(hn:n≤65537) : ∃(C:Array Value) (vs:List UInt8),C.toList=zM vs∧vs.length=n ∧ ∀ W:World,(Instr.makeSlice 32 (.int .i64 n) (.int .i64 n)).run prog W=.ok (.slice (some ⟨W.heap.size,0,none⟩) n n) (W.alloc (.cells C 5)):=by
 obtain⟨i8,h8,z8,y8,x8⟩:=xD QS;refine⟨madeCells (Value.int .u8 0).cells (n*1),List.replicate n 0,?_,by simp,fun W => ?_⟩
 ·rw[show(Value.int .u8 0).cells=#[.int .u8 0]from rfl,Go.toList_madeCells_one,ji];simp[zM]
 ·have:=run_make W 32 5 i8 _ underlying32 h8 z8 .i64 .i64 n n (by omega) (Int.le_refl _) (by rw[x8];omega) (by omega);rw[y8]at this;simpa using this
theorem zgB{a b c d:Nat}(ha:a<256)(hb:b<256)(hc:c<256)(hd:d<256)(W:World):(convert 32 9 (.slice (some ⟨W.heap.size,0,none⟩) 4 4)).run prog (W.alloc (.cells #[.int .u8 a,.int .u8 b,.int .u8 c,.int .u8 d] 5))=.ok (.string ⟨#[UInt8.ofNat a,UInt8.ofNat b,UInt8.ofNat c,UInt8.ofNat d]⟩) (W.alloc (.cells #[.int .u8 a,.int .u8 b,.int .u8 c,.int .u8 d] 5)):=by
 refine zai [UInt8.ofNat a,UInt8.ofNat b,UInt8.ofNat c,UInt8.ofNat d] ?_;have e : ∀ x:Nat,x<256→(Value.int .u8 (UInt8.ofNat x).toNat)=.int .u8 x:=fun x hx=>by rw[UInt8.toNat_ofNat',xU (by omega)]
 have h:=zq.of_block 4 4 1 (zi (w:=W) (o := .cells #[.int .u8 a,.int .u8 b,.int .u8 c,.int .u8 d] 5 (0,0)) rfl) rfl (by simp[Value.oneCell']);have e2:zM [UInt8.ofNat a,UInt8.ofNat b,UInt8.ofNat c,UInt8.ofNat d]=[.int .u8 a,.int .u8 b,.int .u8 c,.int .u8 d]:=by
  show[Value.int .u8 _,Value.int .u8 _,Value.int .u8 _,Value.int .u8 _]=_
  rw[e a ha,e b hb,e c hc,e d hd]
 rw[e2];exact h
end
def uF(w:World)(o:Option Addr):Prop := ∀ Y,zb w Y→Calls prog 59 #[.pointer o] Y fun e w'=>e=.returned (.bool true)∧Y=w'
section
variable{w w':World}{o:Option Addr}
theorem uF.pure(h:uF w o)(hp:zb w w'):uF w' o:=fun Y hY=>h Y (hp.trans hY)
theorem zjk(w:World):uF w none:=fun Y _=>by
 go_enter func59,ntmps59;go_wp2;go_ret;exact⟨rfl,rfl⟩
theorem zeL{q:Nat}(h:w.heap[q]? = some (.cells #[.pointer none,.int .u64 0,.map none,.map none,.int .i64 0] 74 (0,0))):uF w (some ⟨q,0,none⟩):=fun Y hY=>by
 have hb:=hY.heap (fun h=>h) h;clear h hY;exact Az3k7
theorem Azg9k {P:Prop}(h:P:=by
 go_wp2_with (go_at_call 59;refine HN.out.mono ?_;rintro e w' ⟨rfl,rfl⟩)
 go_ret;exact⟨rfl,rfl⟩):P:=h
theorem UE(h:uF w o)(key:ByteArray):Calls prog 56 #[.pointer o,.string key] w fun e w'=>e=.returned (.int .i64 1)∧w=w':=by
 have HN:=za (h w (Mod.refl _ _));clear h;go_enter func56,ntmps56;exact Azg9k
theorem zff(h:uF w o)(t:Nat)(key:ByteArray):Calls prog 20 #[.pointer o,.int .u64 t,.string key] w fun e w'=>e=.returned (.tuple #[.int .i64 0,.slice none 0 0,.int .i64 0,.int .i64 1])∧w=w':=by
 have HM:=za (UE h key);clear h
 go_enter_defers func20,ntmps20
 go_wp2_with (go_at_call 56;refine HM.out.mono ?_;rintro e w' ⟨rfl,rfl⟩)
 exact⟨.tuple #[.int .i64 0,.slice none 0 0,.int .i64 0,.int .i64 1],by simp[results,results20,go_sem],rfl,rfl⟩
theorem zeq(h:uF w o)(t:Nat)(tok:Int)(a:Option Addr)(n c ttl:Nat):Calls prog 21 #[.pointer o,.int .u64 t,.int .i64 tok,.slice a n c,.int .u64 ttl] w fun e w'=>e=.returned (.int .i64 1)∧w=w':=by
 have HN:=za (h w (Mod.refl _ _));clear h;go_enter func21,ntmps21;exact Azg9k
theorem zfc(h:uF w o)(t:Nat)(tok:Int):Calls prog 24 #[.pointer o,.int .u64 t,.int .i64 tok] w fun e w'=>e=.returned (.int .i64 1)∧w=w':=by
 have HN:=za (h w (Mod.refl _ _));clear h;go_enter func24,ntmps24;exact Azg9k
theorem zfC(h:uF w o)(tok:Int):Calls prog 25 #[.pointer o,.int .i64 tok] w fun e w'=>e=.returned (.int .i64 1)∧w=w':=by
 have HN:=za (h w (Mod.refl _ _));clear h;go_enter func25,ntmps25;exact Azg9k
theorem zgE(h:uF w o)(t:Nat)(key:ByteArray)(a:Option Addr)(n c ttl:Nat):Calls prog 22 #[.pointer o,.int .u64 t,.string key,.slice a n c,.int .u64 ttl] w fun e w'=>e=.returned (.int .i64 1)∧w=w':=by
 have HM:=za (UE h key);clear h;go_enter func22,ntmps22
 go_wp2_with (go_at_call 56;refine HM.out.mono ?_;rintro e w' ⟨rfl,rfl⟩)
 go_ret;exact⟨rfl,rfl⟩
theorem zhI(h:uF w o)(t:Nat)(key:ByteArray):Calls prog 23 #[.pointer o,.int .u64 t,.string key] w fun e w'=>e=.returned (.tuple #[.bool false,.int .i64 1])∧w=w':=by
 have HM:=za (UE h key);clear h
 go_enter_defers func23,ntmps23
 go_wp2_with (go_at_call 56;refine HM.out.mono ?_;rintro e w' ⟨rfl,rfl⟩)
 exact⟨.tuple #[.bool false,.int .i64 1],by simp[results,results23,go_sem],rfl,rfl⟩
theorem zfR(h:uF w o):Calls prog 26 #[.pointer o] w fun e w'=>e=.returned (.slice none 0 0)∧w=w':=by
 have HN:=za (h w (Mod.refl _ _));clear h;go_enter func26,ntmps26;exact Azg9k
theorem zhK(h:uF w o):Calls prog 27 #[.pointer o] w fun e w'=>e=.returned (.pointer none)∧w=w':=by
 have HN:=za (h w (Mod.refl _ _));clear h;go_enter func27,ntmps27;exact Azg9k
theorem zed(h:uF w o):Calls prog 28 #[.pointer o] w fun e w'=>e=.returned (.pointer none)∧w=w':=by
 have HN:=za (h w (Mod.refl _ _));clear h;go_enter func28,ntmps28;exact Azg9k
end
end
end Go.Proofs.YtdohbogbnheakaaGreatDoor
