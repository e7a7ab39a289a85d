/- law10: inserts, finds, sizes; known. -/
import Derived.Test.YtpafcocciggfpaaGreatDict6
import Derived.Test.YtpafcocciggfpaaGreatDict7
import Derived.Test.YtpafcocciggfpaaGreatRange2
namespace Go.Proofs.YtpafcocciggfpaaGreat
open Go.RowKit Go.Shelf
set_option maxRecDepth 100000
attribute [local go_sem] Oper.semAt_some
theorem LogAt.celled {w : World} {D : Nat → Prop} {p : Nat} {L : List (Option Ent)} (h : LogAt w D p L) {k : Nat} (hk : D k) : ∃ cs T fz, w.heap[k]? = some (.cells cs T fz) := by
  obtain ⟨sv, M, rfl, h⟩ := h
  rcases (h.dd k).1 hk with rfl | e
  · exact ⟨_, _, _, h.box⟩
  · obtain ⟨c, e2⟩ := owns_type h.row e; exact ⟨_, _, _, e2⟩
theorem DictAt.celled {w : World} {D : Nat → Prop} {d seed : Nat} {same : Bool} {L : List (Option Ent)} {Gs : List Grp} (h : DictAt w D d seed same L Gs) {k : Nat} (hk : D k) : ∃ cs T fz, w.heap[k]? = some (.cells cs T fz) := by
  obtain ⟨q, p, sv, Dl, h1, h2, h3⟩ := h
  rcases (h3 k).1 hk with rfl | e | rfl | e
  · exact ⟨_, _, _, h1.box⟩
  · exact h1.log.celled e
  · exact ⟨_, _, _, h1.ix.box⟩
  · obtain ⟨c, e2⟩ := owns_type h1.ix.row e; exact ⟨_, _, _, e2⟩
/-- Blocks that are no dictionary's keep. -/
def OKeep (W W' : World) : Prop := ∀ (k : Nat) (o : Obj), W.heap[k]? = some o → (∀ (cs : Array Value) (T : TypeId) (fz : Nat × Nat), o = .cells cs T fz → T ≠ 81 ∧ T ≠ 92 ∧ T ≠ 42 ∧ T ≠ 187 ∧ T ≠ 190) → W'.heap[k]? = some o
theorem OKeep.of {W W' : World} {D : Nat → Prop} {d seed : Nat} {same : Bool} {L : List (Option Ent)} {Gs : List Grp} (h : DictAt W D d seed same L Gs) (hm : Mod D W W') : OKeep W W' := fun k o hk ht => by
  refine hm.heap (fun e => ?_) hk
  obtain ⟨cs, T, fz, hc⟩ := h.celled e
  rw [hk] at hc
  have := ht cs T fz (Option.some.inj hc)
  rcases h.types e (hk.trans hc) with e | e | e | e | e
  · exact this.1 e
  · exact this.2.1 e
  · exact this.2.2.1 e
  · exact this.2.2.2.1 e
  · exact this.2.2.2.2 e
section
variable {w W W' : World} {d seed : Nat} {same : Bool} {L : List (Option Ent)} {Gs : List Grp}
theorem inserts_ok (h : DG w W d seed same L Gs) (key : ByteArray) (hok : (Ent.mk key [] 0 1).Ok) (hL : L.length < 4194304) (hf : findK L key = none) (want : Int) (hw : (L.length : Int) = want) :
    Calls Tryz.prog 61 #[dPtr d, .string key, .int .u32 want] W fun e w' => e = .returned (.bool true) ∧ DG w w' d seed same (L ++ [some ⟨key, [], 0, 1⟩]) (putM (sumL seed same (L ++ [some ⟨key, [], 0, 1⟩])) Gs L.length) ∧ OKeep W w' := by
  subst hw
  obtain ⟨D, h1, h2, h3⟩ := h
  have HI := Lib.hid (dins_ok h1 ⟨key, [], 0, 1⟩ hok hL hf none 0 0 (ReadAt.nil _ _))
  have HP := Lib.hid h2; have HD := Lib.hid h3; have H1 := Lib.hid h1
  dsimp only at HI
  clear h1 h2 h3 hok hL hf
  go_enter Tryz.func61, Tryz.ntmps61
  go_wp2_with (go_at_call 14; refine Calls.mono HI.out ?_; rintro e w1 ⟨rfl, D', hd, hm, hg⟩)
  go_ret
  exact ⟨rfl, DG.step HP.out HD.out hd hm hg, OKeep.of H1.out hm⟩
theorem finds10_ok (h : DG w W d seed same L Gs) (key : ByteArray) (hkey : key.size ≤ 140737488355328) (want no : Int) (h0 : 0 ≤ want ∧ 0 ≤ no) (hv : findV L key = (want.toNat, no.toNat)) :
    Calls Tryz.prog 37 #[dPtr d, .string key, .int .u32 want, .int .i64 no] W fun e w' => e = .returned (.bool true) ∧ Pure W w' := by
  obtain ⟨D, h1, h2, h3⟩ := h
  obtain ⟨want, rfl⟩ := Int.eq_ofNat_of_zero_le h0.1
  obtain ⟨no, rfl⟩ := Int.eq_ofNat_of_zero_le h0.2
  have HI := Lib.hid (Find_any h1 key hkey)
  unfold dfindPost at HI
  rw [hv] at HI
  simp only [Int.toNat_natCast] at HI
  clear h1 h2 h3 hv h0
  go_enter Tryz.func37, Tryz.ntmps37
  go_wp2_with (go_at_call 51; refine Calls.mono HI.out ?_; rintro e w1 ⟨rfl, hp⟩)
  go_ret
  exact ⟨by simp, hp⟩
theorem sizes10_ok (h : DG w W d seed same L Gs) (a b c : Int) (ha : (L.length : Int) = a) (hb : (Gs.length : Int) = b) (hc : (tombN Gs : Int) = c) :
    Calls Tryz.prog 16 #[dPtr d, .int .i64 a, .int .i64 b, .int .i64 c] W fun e w' => e = .returned (.bool true) ∧ Pure W w' := by
  subst ha hb hc
  obtain ⟨D, h1, h2, h3⟩ := h
  have HI := Lib.hid (dsizes_ok h1)
  clear h1 h2 h3
  go_enter Tryz.func16, Tryz.ntmps16
  go_wp2_with (go_at_call 50; refine Calls.mono HI.out ?_; rintro e w1 ⟨rfl, hp⟩)
  go_ret
  exact ⟨by simp, hp⟩
theorem len10_ok (h : DG w W d seed same L Gs) (n : Int) (hn : (liveOf L : Int) = n) : Calls Tryz.prog 22 #[dPtr d] W fun e w' => e = .returned (.int .i64 n) ∧ W = w' := by
  subst hn
  obtain ⟨D, h1, h2, h3⟩ := h
  exact dlen_ok h1
end
end Go.Proofs.YtpafcocciggfpaaGreat
