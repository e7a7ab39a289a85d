/- The contracts of the index, at an index that the law itself has made. -/
import Derived.Test.YtbjiebhbmpafpaaLay
namespace Go.Proofs.Ytbjiebhbmpafpaa
open Go.RowKit Go.Shelf
set_option maxRecDepth 100000

/-- An index that was made since w. -/
structure Has (w : World) (p : Nat) (sv : Value) (Gs : List Grp) (W : World) : Prop where
  ix : IxRow W (fun k => k = p ∨ sv.ownBlock = some k) p sv Gs
  pu : Pure w W
  fp : w.heap.size ≤ p
  fs : ∀ k, sv.ownBlock = some k → w.heap.size ≤ k
theorem Has.d {w W : World} {p : Nat} {sv : Value} {Gs : List Grp} (h : Has w p sv Gs W) (k : Nat) (hk : k = p ∨ sv.ownBlock = some k) : w.heap.size ≤ k := by
  rcases hk with rfl | hk
  · exact h.fp
  · exact h.fs k hk
theorem Has.pure {w W W' : World} {p : Nat} {sv : Value} {Gs : List Grp} (h : Has w p sv Gs W) (hp : Pure W W') : Has w p sv Gs W' := ⟨h.ix.pure hp, h.pu.trans hp, h.fp, h.fs⟩
theorem Has.put {w W W' : World} {p : Nat} {sv : Value} {Gs Gs' : List Grp} (h : Has w p sv Gs W) (hx : IxRow W' (fun k => k = p ∨ sv.ownBlock = some k) p sv Gs') (hm : Mod (fun k => k = p ∨ sv.ownBlock = some k) W W') : Has w p sv Gs' W' :=
  ⟨hx, h.pu.then hm (fun k hk hd => by have := h.d k hd; omega), h.fp, h.fs⟩
theorem Has.mk_new {w W W' : World} {g : Nat} {e : Ending} (hp : Pure w W) (h : newPost W g e W') : ∃ p sv, e = .returned (.tuple #[.pointer (some ⟨p, 0, none⟩), .int .i64 0]) ∧ Has w p sv (newG g) W' ∧ W.heap.size ≤ p ∧ (∀ k, sv.ownBlock = some k → W.heap.size ≤ k) ∧ Pure W W' := by
  obtain ⟨p, sv, he, hix, hpu, hlp, hls⟩ := h
  exact ⟨p, sv, he, ⟨hix, hp.trans hpu, Nat.le_trans hp.size hlp, fun k hk => Nat.le_trans hp.size (hls k hk)⟩, hlp, hls, hpu⟩
section
variable {w W : World} {p : Nat} {sv : Value} {Gs : List Grp}
theorem Has.ins (h : Has w p sv Gs W) {sum slot : Nat} {Gs' : List Grp} (hm : insM Gs sum slot = some Gs') (h1 : sum < 18446744073709551616) (h2 : slot ≤ 4294967295) :
    Calls Try.prog 37 #[.pointer (some ⟨p, 0, none⟩), .int .u64 sum, .int .u32 slot] W fun e w' => e = .returned (.int .i64 0) ∧ Has w p sv Gs' w' ∧ Mod (fun k => k = p ∨ sv.ownBlock = some k) W w' :=
  (Insert_ok h.ix sum slot h1 h2).mono (fun e w' hq => by
    unfold insPost at hq
    rw [hm] at hq
    exact ⟨hq.1, h.put hq.2.1 hq.2.2, hq.2.2⟩)
theorem Has.ins_full (h : Has w p sv Gs W) {sum slot : Nat} (hm : insM Gs sum slot = none) (h1 : sum < 18446744073709551616) (h2 : slot ≤ 4294967295) :
    Calls Try.prog 37 #[.pointer (some ⟨p, 0, none⟩), .int .u64 sum, .int .u32 slot] W fun e w' => e = .returned (.int .i64 7) ∧ Has w p sv Gs w' ∧ Mod (fun k => k = p ∨ sv.ownBlock = some k) W w' :=
  (Insert_ok h.ix sum slot h1 h2).mono (fun e w' hq => by
    unfold insPost at hq
    rw [hm] at hq
    exact ⟨hq.1, h.put hq.2.1 hq.2.2, hq.2.2⟩)
theorem Has.rem (h : Has w p sv Gs W) {sum slot i j : Nat} (hm : findM Gs sum (fun x => x == slot) = some (i, j)) (h1 : sum < 18446744073709551616) (h2 : slot ≤ 4294967295) :
    Calls Try.prog 41 #[.pointer (some ⟨p, 0, none⟩), .int .u64 sum, .int .u32 slot] W fun e w' => e = .returned (.int .i64 0) ∧ Has w p sv (delG Gs i j) w' ∧ Mod (fun k => k = p ∨ sv.ownBlock = some k) W w' :=
  (Remove_ok h.ix sum slot h1 h2).mono (fun e w' hq => by
    unfold remPost at hq
    rw [hm] at hq
    exact ⟨hq.1, h.put hq.2.1 hq.2.2, hq.2.2⟩)
theorem Has.rem_none (h : Has w p sv Gs W) {sum slot : Nat} (hm : findM Gs sum (fun x => x == slot) = none) (h1 : sum < 18446744073709551616) (h2 : slot ≤ 4294967295) :
    Calls Try.prog 41 #[.pointer (some ⟨p, 0, none⟩), .int .u64 sum, .int .u32 slot] W fun e w' => e = .returned (.int .i64 9) ∧ Has w p sv Gs w' ∧ Mod (fun k => k = p ∨ sv.ownBlock = some k) W w' :=
  (Remove_ok h.ix sum slot h1 h2).mono (fun e w' hq => by
    unfold remPost at hq
    rw [hm] at hq
    exact ⟨hq.1, h.put hq.2.1 hq.2.2, hq.2.2⟩)
theorem Has.rep (h : Has w p sv Gs W) {sum old slot i j : Nat} (hm : findM Gs sum (fun x => x == old) = some (i, j)) (h1 : sum < 18446744073709551616) (h2 : old ≤ 4294967295) (h3 : slot ≤ 4294967295) :
    Calls Try.prog 53 #[.pointer (some ⟨p, 0, none⟩), .int .u64 sum, .int .u32 old, .int .u32 slot] W fun e w' => e = .returned (.int .i64 0) ∧ Has w p sv (setG Gs i j (sum % 128) slot) w' ∧ Mod (fun k => k = p ∨ sv.ownBlock = some k) W w' :=
  (Replace_ok h.ix sum old slot h1 h2 h3).mono (fun e w' hq => by
    unfold repPost at hq
    rw [hm] at hq
    exact ⟨hq.1, h.put hq.2.1 hq.2.2, hq.2.2⟩)
theorem Has.finds (h : Has w p sv Gs W) {sum slot mod want no : Nat} {b : Bool} (hb : findsM Gs sum slot mod want no = b) (h1 : sum < 18446744073709551616) (h2 : slot ≤ 4294967295) (h3 : mod ≤ 4294967295) (h4 : want ≤ 4294967295) (h5 : no ≤ 100) :
    Calls Try.prog 40 #[.pointer (some ⟨p, 0, none⟩), .int .u64 sum, .int .u32 slot, .int .u32 mod, .int .u32 want, .int .i64 no] W fun e w' => e = .returned (.bool b) ∧ Has w p sv Gs w' ∧ Pure W w' :=
  (finds_ok h.ix sum slot mod want no h1 h2 h3 h4 h5).mono (fun e w' hq => ⟨by rw [← hb]; exact hq.1, h.pure hq.2.1, hq.2.1⟩)
theorem Has.len (h : Has w p sv Gs W) {n : Nat} (hn : usedN Gs = n) : Calls Try.prog 39 #[.pointer (some ⟨p, 0, none⟩)] W fun e w' => e = .returned (.int .i64 n) ∧ W = w' := by subst hn; exact ILen_ok h.ix
theorem Has.tombs (h : Has w p sv Gs W) {n : Nat} (hn : tombN Gs = n) : Calls Try.prog 44 #[.pointer (some ⟨p, 0, none⟩)] W fun e w' => e = .returned (.int .i64 n) ∧ W = w' := by subst hn; exact ITombs_ok h.ix
end
/-- Three is no power of two. -/
theorem PValid_three (W : World) : Calls Try.prog 77 #[.int .i64 3] W fun e w' => e = .returned (.bool false) ∧ W = w' := by
  go_enter Try.func77, Try.ntmps77
  go_wp2
  all_goals go_ret
  all_goals exact ⟨rfl, rfl⟩
theorem New_three (W : World) : Calls Try.prog 36 #[.int .i64 3] W fun e w' => e = .returned (.tuple #[.pointer none, .int .i64 2]) ∧ W = w' := by
  have HV := Lib.hid (fun W => PValid_three W)
  go_enter Try.func36, Try.ntmps36
  go_wp2_with (go_at_call 77; refine Calls.mono (HV.out _) ?_; rintro e w' ⟨rfl, rfl⟩)
  exact bodyPost_ret (v := .tuple #[.pointer none, .int .i64 2]) (by simp [results, Try.results36, go_sem]) rfl ⟨rfl, rfl⟩
/-- The bytes as a string. -/
def strOf (l : List Nat) : ByteArray := ⟨(l.map (fun x => UInt8.ofNat x)).toArray⟩
theorem conv_u8s {w : World} {a : Addr} {c : Nat} (l : List Nat) (hl : ∀ x ∈ l, x < 256) (h : ReadAt w (.slice (some a) l.length c) 1 (u8s l)) :
    (convert 44 9 (.slice (some a) l.length c)).run Try.prog w = .ok (.string (strOf l)) w := by
  obtain ⟨a', n', c', he, hlen, _, h0, hc⟩ := h
  cases he
  have := run_convert_bytes_back w _ _ _ a c (l.map (fun x => UInt8.ofNat x)) Try.underlying44 Try.underlying5 Try.underlying9 (fun j hj => by
    have hj' : j < l.length := by simpa using hj
    refine hc a rfl j _ ?_
    unfold u8s
    rw [List.getElem?_map, List.getElem?_eq_getElem hj']
    simp
    have := hl _ (List.getElem_mem hj')
    omega)
  rw [List.length_map] at this
  exact this
end Go.Proofs.Ytbjiebhbmpafpaa
