/- Lemmas and contracts of functions. No condition. -/
import Derived.Test.YtpplkcnknabofaaGreatDoorJPfCacheNone36
namespace Go.Proofs.YtpplkcnknabofaaGreatDoor
open _root_.Go.Proofs.Tryz
set_option maxRecDepth 100000
set_option maxHeartbeats 20000000
set_option linter.all false
section
open Go.RowKit Go.Shelf
section
variable{w w':World}{D:Nat→Prop}{p now q bb bs:Nat}{Dc:Nat→Prop}{Db Ds:DataW Unit}{M L:List Td}
theorem ze0(h:yM w D p now q bb bs Dc Db Ds M L)(hT:xy w):Calls prog 108 #[lkP p] w fun e w'=>e=.returned (.int .u64 (qv L))∧zb w w':=by
  obtain⟨c0,c1,c2⟩:=h.cells;have HC:=za (Qi h);have HN:=za (h.cas.next hT);clear h c1 c2 hT;go_enter func108,ntmps108
  go_wp2_with (first
    | (go_at_call 152;refine HC.out.mono ?_;rintro e w' ⟨rfl,rfl⟩)
    | (go_at_call 194;refine HN.out.mono ?_;rintro e w2 ⟨rfl,hp2⟩))
  go_ret;exact⟨rfl,hp2⟩
theorem zlm(h:yM w D p now q bb bs Dc Db Ds M L){s:Nat}(h32:s≤4294967295) :
  Calls prog 101 #[lkP p,.int .u32 s] w fun e w'=>e=.returned (.tuple #[.int .u64 (getTd M s).1.dl,.int .u64 (getTd M s).1.birth,.int .i64 (getTd M s).2])∧zb w w':=by
 obtain⟨c0,c1,c2⟩:=h.cells;have HC:=za (XE h h32);by_cases hs:s<4194304
 ·rw[zk hs]at HC
  cases hf:M.find? (fun x=>x.slot==s)with
  | some x =>
   have hxM:=Zo hf;have hxs:x.slot=s:=by have:=Xe hf;simpa using this
   subst hxs;have hlk:=h.slots.look hxM (by omega);rw[Xo hs hf];dsimp only;unfold tdV at hlk;have hal:zb w (w.alloc (.cells #[.int .u32 x.slot,.int .u64 x.dl,.int .u64 x.birth] 226)):=(Mod.refl _ w).alloc _;have h8:=zi (w:=w) (o := .cells #[.int .u32 x.slot,.int .u64 x.dl,.int .u64 x.birth] 226 (0,0)) rfl;have HAL:=za hal;have H8:=za h8;clear h hf hxM h32 hs hal h8 c0 c1;go_enter func101,ntmps101;go_upto_region 7 with(go_at_call 152;refine HC.out.mono ?_;rintro e w' ⟨rfl,rfl⟩)
   have h8:=H8.out;generalize w.alloc (.cells #[.int .u32 x.slot,.int .u64 x.dl,.int .u64 x.birth] 226)=W1 at *;generalize w.heap.size=b8 at *;clear c2 hlk;obtain⟨h8_0,h8_1,h8_2,h8_f,h8_l,H_h8⟩:=cr3 h8;clear h8
   go_region
   all_goals
    go_wp2;refine zK (v := .tuple #[.int .u64 x.dl,.int .u64 x.birth,.int .i64 0]) (by simp[results,results101,go_sem]) rfl ⟨rfl,?_⟩
    first | exact HAL.out | exact HAL.out.drew
  | none =>
   have hnx : ∀ x∈M,x.slot≠s:=fun x hx e=>by have:=jb.1 hf x hx;simp[e]at this
   have hlk:=h.slots.look_no (s:=s) (by omega) hnx;rw[Y3 hs hf];unfold zTd;dsimp only;unfold tdV at hlk;have HAL:Hid (zb w (w.alloc (.cells #[.int .u32 0,.int .u64 0,.int .u64 0] 226))):=za ((Mod.refl _ w).alloc _);clear h hf hnx h32 hs c0 c1;go_enter func101,ntmps101
   go_wp2_with (go_at_call 152;refine HC.out.mono ?_;rintro e w' ⟨rfl,rfl⟩)
   refine zK (v := .tuple #[.int .u64 0,.int .u64 0,.int .i64 9]) (by simp[results,results101,go_sem]) rfl ⟨rfl,?_⟩;exact HAL.out
 ·rw[zh hs]at HC;rw[Ut hs];unfold zTd;dsimp only;clear h h32 hs c0 c1 c2;go_enter func101,ntmps101
  go_wp2_with (go_at_call 152;refine HC.out.mono ?_;rintro e w' ⟨rfl,rfl⟩)
  refine zK (v := .tuple #[.int .u64 0,.int .u64 0,.int .i64 2]) (by simp[results,results101,go_sem]) rfl ⟨rfl,?_⟩;exact Mod.refl _ _
end
end
end Go.Proofs.YtpplkcnknabofaaGreatDoor
