/- Lemmas and contracts of functions, strung together out of 10 texts. No condition. -/
import Derived.Test.YtlalpenfgkfkpaaGreatDoorJPfDuePlays9
import Derived.Test.YtlalpenfgkfkpaaGreatDoorJPfDuePlays7
import Derived.Test.YtlalpenfgkfkpaaGreatDoorJPfDuePlays6
import Derived.Test.YtlalpenfgkfkpaaGreatDoorJPfDuePlays8
/- The reference of cascade: Out, Advance. Conditions: the lists lie in memory. -/
namespace Go.Proofs.YtlalpenfgkfkpaaGreatDoor
open Go.RowKit Go.Shelf
set_option maxRecDepth 100000
set_option maxHeartbeats 2000000 in
theorem rout_ok {w : World} {a : Option Addr} {n c i : Nat} {L : List Td} (h : ReadAt w (.slice a n c) 3 (L.flatMap tdC)) (hn : L.length = n) (hl : n ≤ 4194304) (hnc : n ≤ c) (hi : i < n) :
    Calls Tryz.prog 42 #[.slice a n c, .int .i64 i] w fun e w' => ∃ a' c', e = .returned (.slice a' (n - 1) c') ∧ TdRow w' a' c' (L.eraseIdx i) ∧ FreshV w (.slice a' (n - 1) c') ∧ Pure w w' := by
  cases a with
  | none =>
    obtain ⟨_, _, _, e, _, _, h0, _⟩ := h
    injection e with e1 e2 e3
    have := h0 e1.symm
    omega
  | some ad =>
  obtain ⟨k, hk⟩ : ∃ k, i + 1 = k := ⟨_, rfl⟩
  have hkn : k ≤ n := by omega
  have hpre := rd_pre h (j := i) (by omega)
  have hsuf := rd_sufI h (j := k) hkn hnc
  have hpl : (L.take i).length = i := by rw [List.length_take, hn]; omega
  have hsl : (L.drop k).length = n - k := by rw [List.length_drop, hn]
  have her : (L.eraseIdx i).flatMap tdC = (L.take i).flatMap tdC ++ (L.drop k).flatMap tdC := by
    rw [List.eraseIdx_eq_take_drop_succ, List.flatMap_append, hk]
  have hel : (L.eraseIdx i).length = n - 1 := by rw [List.length_eraseIdx, hn, if_pos hi]
  obtain ⟨sv, hsv⟩ : ∃ v, (if c = k then some ad else some (ad.add (k * 3))) = v := ⟨_, rfl⟩
  rw [hsv] at hsuf
  have HSuf := Lib.hid hsuf; have HPre := Lib.hid hpre; have HPL := Lib.hid hpl; have HSL := Lib.hid hsl; have HSV := Lib.hid hsv; have HER := Lib.hid her; have HEL := Lib.hid hel
  obtain ⟨j0, hj, jz0, jz1, jz2⟩ := info_parts info_td
  have wi : IntKind.i64.wrap ((i : Int) + 1) = (k : Int) := by rw [← hk]; exact IntWalk.i64_in _ (by omega)
  have c1 : (i : Int) ≤ (c : Int) := by omega
  have c2 : (k : Int) ≤ (n : Int) := by omega
  have c3 : (i : Int) ≤ (n : Int) := by omega
  have c4 : (k : Int) ≤ (c : Int) := by omega
  have HK := Lib.hid hk
  clear h hpre hsuf hpl hsl hsv hn hk her hel
  go_enter Tryz.func42, Tryz.ntmps42
  go_upto_region 1 with fail
  refine wp_region_held_drew (S := fun _ => True) (by kernel_rfl) trivial (fun hHeld => ?_)
  ((refine wpAnyH_take (i := 0) (v := ?_) rfl (by kernel_rfl) (by kernel_rfl) (by kernel_rfl) (fun _ _ _ h => h) (Yields.yieldsIf (Or.inl ⟨by rfl, ?_⟩)) hHeld ?_; rotate_left 1; focus (intro w; go_simp; try with_reducible rfl)); try simp only [Act.put, List.getElem_toArray, List.getElem_cons_zero, List.getElem_cons_succ, List.setIfInBounds_toArray, List.set_cons_zero, List.set_cons_succ])
  ((refine wpAnyH_take (i := 1) (v := ?_) rfl (by kernel_rfl) (by kernel_rfl) (by kernel_rfl) (fun _ _ _ h => h) (Yields.yieldsIf (Or.inl ⟨by rfl, ?_⟩)) hHeld ?_; rotate_left 1; focus (intro w; go_simp; try with_reducible rfl)); try simp only [Act.put, List.getElem_toArray, List.getElem_cons_zero, List.getElem_cons_succ, List.setIfInBounds_toArray, List.set_cons_zero, List.set_cons_succ])
  ((refine wpAnyH_take (i := 2) (v := ?_) rfl (by kernel_rfl) (by kernel_rfl) (by kernel_rfl) (fun _ _ _ h => h) (Yields.yieldsIf (Or.inl ⟨by rfl, ?_⟩)) hHeld ?_; rotate_left 1; focus (intro w; go_simp; try with_reducible rfl)); try simp only [Act.put, List.getElem_toArray, List.getElem_cons_zero, List.getElem_cons_succ, List.setIfInBounds_toArray, List.set_cons_zero, List.set_cons_succ])
  ((refine wpAnyH_take (i := 4) (v := ?_) rfl (by kernel_rfl) (by kernel_rfl) (by kernel_rfl) (fun _ _ _ h => h) (Yields.yieldsIf (Or.inl ⟨by rfl, ?_⟩)) hHeld ?_; rotate_left 1; focus (intro w; go_simp; try with_reducible rfl)); try simp only [Act.put, List.getElem_toArray, List.getElem_cons_zero, List.getElem_cons_succ, List.setIfInBounds_toArray, List.set_cons_zero, List.set_cons_succ])
  ((refine wpAnyH_take (i := 5) (v := ?_) rfl (by kernel_rfl) (by kernel_rfl) (by kernel_rfl) (fun _ _ _ h => h) (Yields.yieldsIf (Or.inl ⟨by rfl, ?_⟩)) hHeld ?_; rotate_left 1; focus (intro w; go_simp; try with_reducible rfl)); try simp only [Act.put, List.getElem_toArray, List.getElem_cons_zero, List.getElem_cons_succ, List.setIfInBounds_toArray, List.set_cons_zero, List.set_cons_succ])
  ((refine wpAnyH_take (i := 6) (v := ?_) rfl (by kernel_rfl) (by kernel_rfl) (by kernel_rfl) (fun _ _ _ h => h) (Yields.yieldsIf (Or.inl ⟨by rfl, ?_⟩)) hHeld ?_; rotate_left 1; focus (intro w; go_simp; try with_reducible rfl)); try simp only [Act.put, List.getElem_toArray, List.getElem_cons_zero, List.getElem_cons_succ, List.setIfInBounds_toArray, List.set_cons_zero, List.set_cons_succ])
  ((refine wpAnyH_take (i := 7) (v := ?_) rfl (by kernel_rfl) (by kernel_rfl) (by kernel_rfl) (fun _ _ _ h => h) (Yields.yieldsIf (Or.inl ⟨by rfl, ?_⟩)) hHeld ?_; rotate_left 1; focus (intro w; go_simp; try with_reducible rfl)); try simp only [Act.put, List.getElem_toArray, List.getElem_cons_zero, List.getElem_cons_succ, List.setIfInBounds_toArray, List.set_cons_zero, List.set_cons_succ])
  rw [HSV.out]
  have hpq : Pure w w.drew := (Mod.refl _ _).drew
  refine wpAnyH_ready (rs := [3]) (by kernel_rfl) (by simp) ?_
  refine AllReadyH.cons rfl (fun K hK => ?_) AllReadyH.nil
  refine step_append_read _ (by rfl) _ _ 29 (by rfl) 45 j0 _ 3 24 Tryz.underlying29 hj jz0 jz1 jz2 rfl (by decide) (.slice none 0 0) 0 [] (by rfl) (World.ownsRow_nil _ _ _ _) (.slice (some ad) i c) _ i (by rfl) (HPre.out.frame hpq (fun _ _ h => h)) (by rw [flat_length tdC 3 (fun _ => rfl), HPL.out]) (by unfold maxLen; omega) (by omega) ?_
  intro a8 c8 w7 hr8 hg8 hb8
  rw [Nat.zero_add] at hr8 hb8 ⊢
  rw [List.nil_append] at hr8
  have p7 : Pure w w7 := hpq.trans (Mod.of_grown hg8 (fun k e _ => by cases e))
  refine hK.out _ _ trivial (fun hHeld => ?_)
  refine wpAnyH_ready (rs := [8]) (by kernel_rfl) (by simp) ?_
  refine AllReadyH.cons rfl (fun K' hK' => ?_) AllReadyH.nil
  refine step_append_read _ (by rfl) _ _ 29 (by rfl) 45 j0 _ 3 24 Tryz.underlying29 hj jz0 jz1 jz2 rfl (by decide) (.slice a8 i c8) i _ (by rfl) hr8 (.slice sv (n - k) (c - k)) _ (n - k) (by rfl) (HSuf.out.frame p7 (fun _ _ h => h)) (by rw [flat_length tdC 3 (fun _ => rfl), HSL.out]) (by unfold maxLen; omega) (by omega) ?_
  intro a9 c9 w8 hr9 hg9 hb9
  refine hK'.out _ _ trivial (fun hHeld => ?_)
  ((refine wpAnyH_take (i := 9) (v := ?_) rfl (by kernel_rfl) (by kernel_rfl) (by kernel_rfl) (fun _ _ _ h => h) (Yields.yieldsIf (Or.inl ⟨by rfl, ?_⟩)) hHeld ?_; rotate_left 1; focus (intro w; go_simp; try with_reducible rfl)); try simp only [Act.put, List.getElem_toArray, List.getElem_cons_zero, List.getElem_cons_succ, List.setIfInBounds_toArray, List.set_cons_zero, List.set_cons_succ])
  refine wpAnyH_done (by kernel_rfl) ?_ _
  have hm : i + (n - k) = n - 1 := by have := HK.out; omega
  rw [hm] at hr9 hb9 ⊢
  have h8f : ∀ g, (Value.slice a8 i c8).ownBlock = some g → w.heap.size ≤ g := fun g hg => by
    rcases hb8 with e | e
    · rw [e] at hg; cases hg
    · rw [e] at hg; injection hg with hg; have := hpq.size; omega
  have p8 : Pure w w8 := p7.then (Mod.of_grown (S := fun k' => (Value.slice a8 i c8).ownBlock = some k') hg9 (fun k e _ => e)) (fun k hk e => by have := h8f k e; omega)
  have hrow : TdRow w8 a9 c9 (L.eraseIdx i) := by
    show World.ownsRow _ 0 _ 3 (.slice a9 (L.eraseIdx i).length c9) (L.eraseIdx i).length ((L.eraseIdx i).flatMap tdC)
    rw [HEL.out, HER.out]
    exact hr9
  have hfin : FreshV w (.slice a9 (n - 1) c9) := fun g hg => by
    rcases hb9 with e | e
    · exact h8f g (e ▸ hg)
    · rw [e] at hg; injection hg with hg; have := p7.size; omega
  have HF := Lib.hid hfin; have HROW := Lib.hid hrow; have HP8 := Lib.hid p8
  clear hHeld hr9 hg9 hb9 h8f p8 hrow hfin hr8 hg8 hb8 p7 hpq hm
  go_wp2
  refine bodyPost_ret (v := .slice a9 (n - 1) c9) (by simp [results, Tryz.results42, go_sem]) rfl ⟨a9, c9, rfl, HROW.out, HF.out, HP8.out⟩
end Go.Proofs.YtlalpenfgkfkpaaGreatDoor

/- The reference of cascade: Advance. Conditions: the list is read. Printed by wip/gen_rce.py. -/
namespace Go.Proofs.YtlalpenfgkfkpaaGreatDoor
open Go.RowKit Go.Shelf
set_option maxRecDepth 100000
theorem tw_gen {L : List Td} {p : Td → Bool} {k : Nat} (h1 : ∀ i y, i < k → L[i]? = some y → p y = true) (h2 : ∀ y, L[k]? = some y → p y = false) (hk : k ≤ L.length) : L.take k = L.takeWhile p ∧ L.drop k = L.dropWhile p := by
  induction L generalizing k with
  | nil =>
    have : k = 0 := by simpa using hk
    subst this
    exact ⟨rfl, rfl⟩
  | cons a L ih =>
    cases k with
    | zero =>
      have := h2 a rfl
      simp [this]
    | succ k =>
      have := h1 0 a (by omega) rfl
      obtain ⟨i1, i2⟩ := ih (k := k) (fun i y hi hy => h1 (i + 1) y (by omega) hy) (fun y hy => h2 y hy) (by simpa using hk)
      simp [this, i1, i2]
theorem whbox {w : World} {b : Nat} {x y : Value} {T : Nat} (h : w.heap[b]? = some (.cells #[x, y] T (0, 0))) : w.cell? ⟨b, 0, none⟩ = some x ∧ w.cell? ⟨b, 1, none⟩ = some y := ⟨by rw [cell_of_row _ _ 0 _ _ _ h]; rfl, by rw [cell_of_row _ _ 1 _ _ _ h]; rfl⟩
end Go.Proofs.YtlalpenfgkfkpaaGreatDoor

/- The reference of cascade: Advance and Put of any list. Conditions: the list is read. -/
namespace Go.Proofs.YtlalpenfgkfkpaaGreatDoor
open Go.RowKit Go.Shelf
set_option maxRecDepth 100000
section
variable {w : World} {a : Option Addr} {n c now tt : Nat} {L : List Td}
theorem rd_none (h : ReadAt w (.slice none n c) 3 (L.flatMap tdC)) (hn : L.length = n) : L = [] := by
  obtain ⟨_, _, _, e, hl, _, h0, _⟩ := h
  injection e with e1 e2 e3
  have h1 := h0 e1.symm
  subst h1
  have : L.length = 0 := by omega
  exact List.eq_nil_of_length_eq_zero this
/-- A list's slice: it is read, it has the length, nothing has no room. -/
structure RdL (w : World) (a : Option Addr) (n c : Nat) (L : List Td) : Prop where
  rd : ReadAt w (.slice a n c) 3 (L.flatMap tdC)
  len : L.length = n
  cap : n ≤ c
  nil : a = none → c = 0
theorem RdL.pure {w' : World} (h : RdL w a n c L) (hp : Pure w w') : RdL w' a n c L := ⟨h.rd.frame hp (fun _ _ h => h), h.len, h.cap, h.nil⟩
theorem RdL.of_row (h : TdRow w a c L) : RdL w a L.length c L := by
  refine ⟨h.rd, rfl, ?_, fun e => ?_⟩
  · obtain ⟨_, ⟨e, e0⟩ | ⟨g, cap, cur, e, _, _, h1, _⟩⟩ := h
    · omega
    · injection e with e1 e2 e3; omega
  · obtain ⟨_, ⟨e', e0⟩ | ⟨g, cap, cur, e', _, _, h1, _⟩⟩ := h
    · injection e' with e1 e2 e3
    · injection e' with e1 e2 e3; rw [e] at e1; cases e1
theorem RdL.zero (h : RdL w none n c L) : n = 0 ∧ c = 0 ∧ L = [] := by
  have h1 := rd_none h.rd h.len
  have h2 := h.len
  subst h1
  exact ⟨h2.symm, h.nil rfl, rfl⟩
theorem rput_ok (h : RdL w a n c L) (hl : n ≤ 4194304) (x : Td) :
    Calls Tryz.prog 43 #[.slice a n c, tdV x] w fun e w' => ∃ a' c', e = .returned (.slice a' (n + 1) c') ∧ TdRow w' a' c' (putL L x) ∧ FreshV w (.slice a' (n + 1) c') ∧ Pure w w' := by
  cases a with
  | some ad => exact rput_some h.rd h.len hl h.cap x
  | none =>
    obtain ⟨rfl, rfl, rfl⟩ := h.zero
    exact rput_none w x
end
end Go.Proofs.YtlalpenfgkfkpaaGreatDoor

/- law21: gets, lens, timed; deadlines that were made since. Conditions: the deadlines lie in memory, the table too. -/
namespace Go.Proofs.YtlalpenfgkfkpaaGreatDoor
open Go.RowKit Go.Shelf
set_option maxRecDepth 100000
theorem timed21_ok (s d b : Nat) (w : World) : Calls Tryz.prog 12 #[.int .u32 s, .int .u64 d, .int .u64 b] w fun e w' => e = .returned (tdV ⟨s, d, b⟩) ∧ Pure w w' := by
  have hal : Pure w (w.alloc (.cells #[.int .u32 0, .int .u64 0, .int .u64 0] 45)) := (Mod.refl _ w).alloc _
  have h6 := heap_new (w := w) (o := .cells #[.int .u32 0, .int .u64 0, .int .u64 0] 45 (0, 0)) rfl
  obtain ⟨b6, hb6⟩ : ∃ b6, w.heap.size = b6 := ⟨_, rfl⟩
  have HAL := Lib.hid hal
  clear hal
  go_enter Tryz.func12, Tryz.ntmps12
  go_upto_region 1 with fail
  generalize w.alloc (.cells #[.int .u32 0, .int .u64 0, .int .u64 0] 45) = W1 at *
  (try rw [hb6] at h6)
  have HB6 := Lib.hid hb6
  clear hb6
  have h6_0 := cell_of_row _ _ 0 _ _ _ h6; have h6_1 := cell_of_row _ _ 1 _ _ _ h6; have h6_2 := cell_of_row _ _ 2 _ _ _ h6; have h6_f := (fun j => frozen_of_row _ _ j _ _ h6); have h6_l := lt_of_block h6; simp at h6_0 h6_1 h6_2; have H_h6 := Lib.hid h6; clear h6
  go_wp2
  have hm : Mod (fun k => k = b6) W1 (((W1.setCell ⟨b6, 0, none⟩ (.int .u32 s)).setCell ⟨b6, 1, none⟩ (.int .u64 d)).setCell ⟨b6, 2, none⟩ (.int .u64 b)) :=
    (((Mod.refl (fun k => k = b6) W1).setCell (p := ⟨b6, 0, none⟩) (fun _ => rfl) _).setCell (p := ⟨b6, 1, none⟩) (fun _ => rfl) _).setCell (p := ⟨b6, 2, none⟩) (fun _ => rfl) _
  have hp := HAL.out.then hm (fun k hk e => by have := HB6.out; omega)
  exact bodyPost_ret (v := tdV ⟨s, d, b⟩) (by simp [results, Tryz.results12, go_sem, h6_0, h6_1, h6_2, h6_l, tdV]) rfl ⟨rfl, hp⟩
section
variable {w w' : World} {D : Nat → Prop} {p now q bb bs : Nat} {Dc : Nat → Prop} {Db Ds : DataW Unit} {M M' L acc : List Td} {x : Td} {tv : List Nat}
theorem DueAt.get (h : DueAt w D p now M) {s : Nat} (h32 : s ≤ 4294967295) :
    Calls Tryz.prog 40 #[lkP p, .int .u32 s] w fun e w' => e = .returned (.tuple #[.int .u64 (getT M s).1.dl, .int .u64 (getT M s).1.birth, .int .i64 (getT M s).2]) ∧ Pure w w' := by
  obtain ⟨q, bb, bs, Dc, Db, Ds, h1, h2⟩ := h
  exact dget_ok h1 h32
theorem DueAt.next (h : DueAt w D p now M) (hT : TabW w) : Calls Tryz.prog 14 #[lkP p] w fun e w' => e = .returned (.int .u64 (nextD M)) ∧ Pure w w' := by
  obtain ⟨q, bb, bs, Dc, Db, Ds, h1, h2⟩ := h
  rw [← nextD_timed h2]
  exact dnext_ok h1 hT
theorem DueAt.now_ (h : DueAt w D p now M) : Calls Tryz.prog 16 #[lkP p] w fun e w' => e = .returned (.int .u64 now) ∧ w = w' := by
  obtain ⟨q, bb, bs, Dc, Db, Ds, h1, h2⟩ := h
  exact dnow_ok h1
theorem DueAt.len_ (h : DueAt w D p now M) : Calls Tryz.prog 36 #[lkP p] w fun e w' => e = .returned (.tuple #[.int .i64 M.length, .int .i64 (timedL M).length]) ∧ Pure w w' := by
  obtain ⟨q, bb, bs, Dc, Db, Ds, h1, h2⟩ := h
  exact dlen_ok h1
theorem DueAt.all (h : DueAt w D p now M) : Calls Tryz.prog 11 #[lkP p] w fun e w' => ∃ a c, e = .returned (.slice a M.length c) ∧ TdRow w' a c M ∧ FreshV w (.slice a M.length c) ∧ Pure w w' := by
  obtain ⟨q, bb, bs, Dc, Db, Ds, h1, h2⟩ := h
  exact duall_ok h1 h2
theorem gets_ok (h : DueAt w D p now M) {s dl b : Nat} {er : Int} (h32 : s ≤ 4294967295) (h1 : (getT M s).1.dl = dl) (h2 : (getT M s).1.birth = b) (h3 : (getT M s).2 = er) :
    Calls Tryz.prog 17 #[lkP p, .int .u32 s, .int .u64 dl, .int .u64 b, .int .i64 er] w fun e w' => e = .returned (.bool true) ∧ Pure w w' := by
  have hg := h.get h32
  rw [h1, h2, h3] at hg
  have HG := Lib.hid hg
  clear h h1 h2 h3 hg h32
  go_enter Tryz.func17, Tryz.ntmps17
  go_wp2_with (go_at_call 40; refine Calls.mono HG.out ?_; rintro e w' ⟨rfl, hp⟩)
  go_ret
  exact ⟨by simp, hp⟩
theorem lens_ok (h : DueAt w D p now M) {a b : Nat} (h1 : M.length = a) (h2 : (timedL M).length = b) :
    Calls Tryz.prog 13 #[lkP p, .int .i64 a, .int .i64 b] w fun e w' => e = .returned (.bool true) ∧ Pure w w' := by
  have hg := h.len_
  rw [h1, h2] at hg
  have HG := Lib.hid hg
  clear h h1 h2 hg
  go_enter Tryz.func13, Tryz.ntmps13
  go_wp2_with (go_at_call 36; refine Calls.mono HG.out ?_; rintro e w' ⟨rfl, hp⟩)
  go_ret
  exact ⟨by simp, hp⟩
end
structure DueT (w : World) (D : Nat → Prop) (p now : Nat) (M : List Td) : Prop where
  at_ : DueAt w D p now M
  tab : TabW w
  off : ¬ D 0
section
variable {w0 w w' : World} {D : Nat → Prop} {p now tt : Nat} {M M' : List Td} {x : Td} {tv : List Nat}
theorem DueT.frame {S : Nat → Prop} (h : DueT w D p now M) (hm : Mod S w w') (hd : ∀ k, D k → ¬ S k) (h0 : ¬ S 0) : DueT w' D p now M := ⟨h.at_.frame hm hd, h.tab.mod hm h0, h.off⟩
theorem DueT.pure (h : DueT w D p now M) (hm : Pure w w') : DueT w' D p now M := h.frame hm (fun _ _ h => h) (fun h => h)
theorem DueT.next {D' : Nat → Prop} {now' : Nat} {M' : List Td} (h : DueT w D p now M) (hc : DueAt w' D' p now' M') (hg : grewD D D' w) (hm : Mod D w w') : DueT w' D' p now' M' :=
  ⟨hc, h.tab.mod hm h.off, fun e => by
    rcases hg 0 e with e | e
    · exact h.off e
    · have := h.tab.lt; omega⟩
theorem DueT.new (hT : TabW w) (hn : now < 18446744073709551616) : Calls Tryz.prog 6 #[.int .u64 now] w fun e w' => ∃ p D, e = .returned (lkP p) ∧ DueT w' D p now [] ∧ Pure w w' ∧ ∀ k, D k → w.heap.size ≤ k := by
  refine (dunew_ok w hn).mono ?_
  rintro e w' ⟨p, D, rfl, hc, hp, hf⟩
  exact ⟨p, D, rfl, ⟨hc, hT.pure hp, fun e => by have := hf 0 e; have := hT.lt; omega⟩, hp, hf⟩
/-- Deadlines that were made since w0. -/
structure KnD (w0 w : World) (D : Nat → Prop) (p now : Nat) (M : List Td) : Prop where
  t : DueT w D p now M
  ge : ∀ k, D k → w0.heap.size ≤ k
  pu : Pure w0 w
theorem KnD.pure (h : KnD w0 w D p now M) (hm : Pure w w') : KnD w0 w' D p now M := ⟨h.t.pure hm, h.ge, h.pu.trans hm⟩
theorem KnD.step (h : KnD w0 w D p now M) {D' : Nat → Prop} {now' : Nat} {M' : List Td} (hc : DueAt w' D' p now' M') (hg : grewD D D' w) (hm : Mod D w w') : KnD w0 w' D' p now' M' :=
  ⟨h.t.next hc hg hm, fun k hk => by
    rcases hg k hk with e | e
    · exact h.ge k e
    · have := h.pu.size; omega, h.pu.then hm (fun k hk e => by have := h.ge k e; omega)⟩
theorem KnD.new (hT : TabW w) (hn : now < 18446744073709551616) : Calls Tryz.prog 6 #[.int .u64 now] w fun e w' => ∃ p D, e = .returned (lkP p) ∧ KnD w w' D p now [] := by
  refine (DueT.new hT hn).mono ?_
  rintro e w' ⟨p, D, rfl, hc, hp, hf⟩
  exact ⟨p, D, rfl, hc, hf, hp⟩
theorem KnD.set (h : KnD w0 w D p now M) {s dl b : Nat} (h32 : s ≤ 4294967295) (hd : dl ≤ 18446744073709551615) (hb : b ≤ 18446744073709551615) {r : Int} (hr : setR now M s dl b = r) (hL : setL now M s dl b = M') :
    Calls Tryz.prog 9 #[lkP p, .int .u32 s, .int .u64 dl, .int .u64 b] w fun e w' => e = .returned (.int .i64 r) ∧ ∃ D', KnD w0 w' D' p now M' := by
  refine (h.t.at_.set h32 hd hb).mono ?_
  rintro e w' ⟨rfl, ⟨D', hc, hg⟩, hm⟩
  rw [hL] at hc
  exact ⟨by rw [hr], D', h.step hc hg hm⟩
theorem KnD.remove (h : KnD w0 w D p now M) {s : Nat} (h32 : s ≤ 4294967295) {r : Int} (hr : (getT M s).2 = r) (hL : canL M s = M') :
    Calls Tryz.prog 19 #[lkP p, .int .u32 s] w fun e w' => e = .returned (.int .i64 r) ∧ ∃ D', KnD w0 w' D' p now M' := by
  refine (h.t.at_.remove h32).mono ?_
  rintro e w' ⟨rfl, ⟨D', hc, hg⟩, hm⟩
  rw [hL] at hc
  exact ⟨by rw [hr], D', h.step hc hg hm⟩
theorem KnD.expire (h : KnD w0 w D p now M) {t0 : Nat} (ht0 : t0 ≤ 18446744073709551615) {now' : Nat} {E : List Td} {n : Nat} (hN : max now t0 = now') (hE : dueE now' M = E) (hL : restE now' M = M') (hn : E.length = n) :
    Calls Tryz.prog 15 #[lkP p, .int .u64 t0] w fun e w' => ∃ a c, e = .returned (.slice a n c) ∧ RdL w' a n c E ∧ ∃ D', KnD w0 w' D' p now' M' := by
  refine (h.t.at_.expire h.t.tab h.t.off ht0).mono ?_
  rintro e w' ⟨a, c, rfl, hr, ⟨D', hc, hg, _⟩, hm⟩
  rw [hN, hE] at hr
  rw [hN, hL] at hc
  refine ⟨a, c, by rw [hN, hE, hn], ?_, D', h.step hc hg hm⟩
  have := RdL.of_row hr
  rw [hn] at this
  exact this
theorem KnD.all (h : KnD w0 w D p now M) {n : Nat} (hn : M.length = n) :
    Calls Tryz.prog 11 #[lkP p] w fun e w' => ∃ a c, e = .returned (.slice a n c) ∧ RdL w' a n c M ∧ KnD w0 w' D p now M := by
  refine h.t.at_.all.mono ?_
  rintro e w' ⟨a, c, rfl, hr, _, hp⟩
  refine ⟨a, c, by rw [hn], ?_, h.pure hp⟩
  have := RdL.of_row hr
  rw [hn] at this
  exact this
theorem KnD.renumber (h : KnD w0 w D p now M) {a0 : Option Addr} {n0 c0 : Nat} (hto : ReadAt w (.slice a0 n0 c0) 1 (nums tv)) (hn0 : tv.length = n0) (hn4 : n0 ≤ 4194304) (ht32 : ∀ t ∈ tv, t ≤ 4294967295) {r : Int} (hr : renR tv M = r) (hL : renM tv M = M') :
    Calls Tryz.prog 18 #[lkP p, .slice a0 n0 c0] w fun e w' => e = .returned (.int .i64 r) ∧ ∃ D', KnD w0 w' D' p now M' := by
  refine (h.t.at_.renumber hto hn0 hn4 ht32).mono ?_
  rintro e w' ⟨rfl, ⟨D', hc, hg⟩, hm⟩
  rw [hL] at hc
  exact ⟨by rw [hr], D', h.step hc hg hm⟩
theorem KnD.gets (h : KnD w0 w D p now M) {s dl b : Nat} {er : Int} (h32 : s ≤ 4294967295) (h1 : (getT M s).1.dl = dl) (h2 : (getT M s).1.birth = b) (h3 : (getT M s).2 = er) :
    Calls Tryz.prog 17 #[lkP p, .int .u32 s, .int .u64 dl, .int .u64 b, .int .i64 er] w fun e w' => e = .returned (.bool true) ∧ KnD w0 w' D p now M := by
  refine (gets_ok h.t.at_ h32 h1 h2 h3).mono ?_
  rintro e w' ⟨rfl, hp⟩
  exact ⟨rfl, h.pure hp⟩
theorem KnD.lens (h : KnD w0 w D p now M) {a b : Nat} (h1 : M.length = a) (h2 : (timedL M).length = b) :
    Calls Tryz.prog 13 #[lkP p, .int .i64 a, .int .i64 b] w fun e w' => e = .returned (.bool true) ∧ KnD w0 w' D p now M := by
  refine (lens_ok h.t.at_ h1 h2).mono ?_
  rintro e w' ⟨rfl, hp⟩
  exact ⟨rfl, h.pure hp⟩
theorem KnD.next (h : KnD w0 w D p now M) {n : Nat} (hn : nextD M = n) : Calls Tryz.prog 14 #[lkP p] w fun e w' => e = .returned (.int .u64 n) ∧ KnD w0 w' D p now M := by
  refine (h.t.at_.next h.t.tab).mono ?_
  rintro e w' ⟨rfl, hp⟩
  exact ⟨by rw [hn], h.pure hp⟩
theorem KnD.now_ (h : KnD w0 w D p now M) : Calls Tryz.prog 16 #[lkP p] w fun e w' => e = .returned (.int .u64 now) ∧ KnD w0 w' D p now M := by
  refine h.t.at_.now_.mono ?_
  rintro e w' ⟨rfl, rfl⟩
  exact ⟨rfl, h⟩
end
end Go.Proofs.YtlalpenfgkfkpaaGreatDoor

/- The reference of cascade: Schedule. Conditions: the list is read. -/
namespace Go.Proofs.YtlalpenfgkfkpaaGreatDoor
open Go.RowKit Go.Shelf
set_option maxRecDepth 100000
/-- A slice of the reference: the one that was, or a new one. -/
def Kept (w : World) (a : Option Addr) (n c : Nat) (a' : Option Addr) (n' c' : Nat) : Prop := (a' = a ∧ n' = n ∧ c' = c) ∨ FreshV w (.slice a' n' c')
section
variable {w : World} {a : Option Addr} {n c now tt : Nat} {L : List Td} {x : Td}
theorem findR_pos {s : Nat} (h : hasB L s = true) : 0 ≤ findR L s := by unfold findR; rw [if_pos h]; omega
theorem findR_neg {s : Nat} (h : hasB L s = false) : findR L s = -1 := by unfold findR; rw [if_neg (by rw [h]; decide)]
end
end Go.Proofs.YtlalpenfgkfkpaaGreatDoor

/- The reference of cascade: Schedule in one, Cancel. Conditions: the list is read. -/
namespace Go.Proofs.YtlalpenfgkfkpaaGreatDoor
open Go.RowKit Go.Shelf
set_option maxRecDepth 100000
section
variable {w : World} {a : Option Addr} {n c now tt : Nat} {L : List Td} {x : Td}
theorem mod_wt {W : World} {b1 b2 : Nat} (v0 v1 u0 u1 u2 : Value) : Mod (fun k => k = b1 ∨ k = b2) W (((((W.setCell ⟨b1, 0, none⟩ v0).setCell ⟨b1, 1, none⟩ v1).setCell ⟨b2, 0, none⟩ u0).setCell ⟨b2, 1, none⟩ u1).setCell ⟨b2, 2, none⟩ u2) :=
  (((((Mod.refl (fun k => k = b1 ∨ k = b2) W).setCell (p := ⟨b1, 0, none⟩) (fun _ => .inl rfl) _).setCell (p := ⟨b1, 1, none⟩) (fun _ => .inl rfl) _).setCell (p := ⟨b2, 0, none⟩) (fun _ => .inr rfl) _).setCell (p := ⟨b2, 1, none⟩) (fun _ => .inr rfl) _).setCell (p := ⟨b2, 2, none⟩) (fun _ => .inr rfl) _
end
end Go.Proofs.YtlalpenfgkfkpaaGreatDoor

/- The reference of cascade: Cancel. Conditions: the list is read. -/
namespace Go.Proofs.YtlalpenfgkfkpaaGreatDoor
open Go.RowKit Go.Shelf
set_option maxRecDepth 100000
section
variable {w : World} {a : Option Addr} {n c now tt : Nat} {L : List Td} {x : Td}
end
end Go.Proofs.YtlalpenfgkfkpaaGreatDoor

/- The reference of cascade: Reschedule. Conditions: the list is read. -/
namespace Go.Proofs.YtlalpenfgkfkpaaGreatDoor
open Go.RowKit Go.Shelf
set_option maxRecDepth 100000
section
variable {w : World} {a : Option Addr} {n c now : Nat} {L : List Td} {x : Td}
theorem Kept.mono {w1 w2 : World} {a1 : Option Addr} {n1 c1 : Nat} (h : Kept w2 a n c a1 n1 c1) (hs : w1.heap.size ≤ w2.heap.size) : Kept w1 a n c a1 n1 c1 := by
  rcases h with h | h
  · exact .inl h
  · exact .inr (fun g hg => Nat.le_trans hs (h g hg))
theorem Kept.trans {a1 a2 : Option Addr} {n1 c1 n2 c2 : Nat} (h : Kept w a n c a1 n1 c1) (h' : Kept w a1 n1 c1 a2 n2 c2) : Kept w a n c a2 n2 c2 := by
  rcases h' with ⟨rfl, rfl, rfl⟩ | h'
  · exact h
  · exact .inr h'
theorem Kept.rd {a1 : Option Addr} {n1 c1 g : Nat} (h : Kept w a n c a1 n1 c1) (hg : rdBlock (.slice a1 n1 c1) = some g) : rdBlock (.slice a n c) = some g ∨ w.heap.size ≤ g := by
  rcases h with ⟨rfl, rfl, rfl⟩ | h
  · exact .inl hg
  · exact .inr (h g (rdBlock_own hg))
theorem RdL.frame {w' : World} {S : Nat → Prop} (h : RdL w a n c L) (hm : Mod S w w') (hn : ∀ g, rdBlock (.slice a n c) = some g → ¬ S g) : RdL w' a n c L := ⟨h.rd.frame hm hn, h.len, h.cap, h.nil⟩
theorem RdL.lt (h : RdL w a n c L) {g : Nat} (hg : rdBlock (.slice a n c) = some g) : g < w.heap.size := h.rd.lt (by decide) hg
end
end Go.Proofs.YtlalpenfgkfkpaaGreatDoor

/- law20.is. Conditions: the cascade lies in memory, the reference's list is read. -/
namespace Go.Proofs.YtlalpenfgkfkpaaGreatDoor
open Go.RowKit Go.Shelf
set_option maxRecDepth 100000
section
variable {w : World} {D : Nat → Prop} {p : Nat} {a : Option Addr} {n c now s : Nat} {L : List Td} {x : Td}
theorem get_self (h : CasAt w D p now L) (hx : x ∈ L) : getT L x.slot = (x, 0) ∧ whE now L x.slot = .tuple #[.int .i64 (lvl now x.dl : Nat), .int .i64 (bkt now x.dl : Nat), .int .i64 0] := by
  have h1 : getT L x.slot = (x, 0) := by
    rcases getT_cases L x.slot with ⟨hs, hh, y, e1, e2, e3, e4, e5⟩ | ⟨hs, _⟩
    · have hy : y ∈ L := e5.mem_iff.2 List.mem_cons_self
      rw [h.uniq.1 y hy x hx e2] at e1
      exact e1
    · rcases hs with hs | hs
      · exact absurd (h.rng x hx).1 hs
      · rw [hasB_iff.2 ⟨x, hx, rfl⟩] at hs; cases hs
  refine ⟨h1, ?_⟩
  unfold whE
  rw [h1]
  rfl
theorem get_none (h : ¬ (s < 4194304 ∧ hasB L s = true)) : getT L s = (zTd, if s < 4194304 then 9 else 2) ∧ whE now L s = .tuple #[.int .i64 0, .int .i64 0, .int .i64 (if s < 4194304 then 9 else 2)] := by
  have h1 : getT L s = (zTd, if s < 4194304 then 9 else 2) := by
    by_cases hs : s < 4194304
    · rw [if_pos hs]
      have : hasB L s = false := by cases hb : hasB L s with | false => rfl | true => exact absurd ⟨hs, hb⟩ h
      exact getT_miss hs (find_none this)
    · rw [if_neg hs]
      exact getT_arg hs
  refine ⟨h1, ?_⟩
  unfold whE
  rw [h1, if_neg]
  dsimp only
  split <;> decide
end
end Go.Proofs.YtlalpenfgkfkpaaGreatDoor

/- law20.known: it returns true. Condition: the table of math/bits lies in memory. -/
namespace Go.Proofs.YtlalpenfgkfkpaaGreatDoor
open Go.RowKit
set_option maxRecDepth 100000
/-- A cascade that was made since w0. -/
structure KnS (w0 w : World) (D : Nat → Prop) (p now : Nat) (L : List Td) : Prop where
  t : CasT w D p now L
  ge : ∀ k, D k → w0.heap.size ≤ k
  pu : Pure w0 w
section
variable {w0 w w' : World} {D : Nat → Prop} {p now tt : Nat} {L : List Td}
theorem KnS.pure (h : KnS w0 w D p now L) (hm : Pure w w') : KnS w0 w' D p now L := ⟨h.t.pure hm, h.ge, h.pu.trans hm⟩
theorem KnS.step (h : KnS w0 w D p now L) {D' : Nat → Prop} {now' : Nat} {L' : List Td} (hc : CasT w' D' p now' L') (hg : grewD D D' w) (hm : Mod D w w') : KnS w0 w' D' p now' L' :=
  ⟨hc, fun k hk => by
    rcases hg k hk with e | e
    · exact h.ge k e
    · have := h.pu.size; omega, h.pu.then hm (fun k hk e => by have := h.ge k e; omega)⟩
theorem KnS.new (hT : TabW w) (hn : now < 18446744073709551616) : Calls Tryz.prog 20 #[.int .u64 now] w fun e w' => ∃ p D, e = .returned (lkP p) ∧ KnS w w' D p now [] := by
  refine (cnew_ok w hn).mono ?_
  rintro e w' ⟨p, D, rfl, hc, hp, hf⟩
  exact ⟨p, D, rfl, ⟨hc, hT.pure hp, fun e => by have := hf 0 e; have := hT.lt; omega⟩, hf, hp⟩
theorem KnS.sched (h : KnS w0 w D p now L) {x : Td} {r : Int} {L' : List Td} (hr : schR now L x = r) (hL : schL now L x = L') (h32 : x.slot ≤ 4294967295) (hd : x.dl ≤ 18446744073709551615) (hb : x.birth ≤ 18446744073709551615) :
    Calls Tryz.prog 48 #[lkP p, tdV x] w fun e w' => e = .returned (.int .i64 r) ∧ ∃ D', KnS w0 w' D' p now L' := by
  refine (h.t.at_.sched h32 hd hb (by have := h.t.at_.count; unfold maxLen; omega)).mono ?_
  rintro e w' ⟨rfl, ⟨D', hc, hg⟩, hm⟩
  rw [hL] at hc
  exact ⟨by rw [hr], D', h.step (h.t.next hc hg hm) hg hm⟩
theorem KnS.next (h : KnS w0 w D p now L) {n : Nat} (hn : nextD L = n) : Calls Tryz.prog 37 #[lkP p] w fun e w' => e = .returned (.int .u64 n) ∧ KnS w0 w' D p now L := by
  refine (h.t.at_.next h.t.tab).mono ?_
  rintro e w' ⟨rfl, hp⟩
  exact ⟨by rw [hn], h.pure hp⟩
theorem KnS.len (h : KnS w0 w D p now L) {n : Nat} (hn : L.length = n) : Calls Tryz.prog 54 #[lkP p] w fun e w' => e = .returned (.int .i64 n) ∧ KnS w0 w' D p now L := by
  refine h.t.at_.len_.mono ?_
  rintro e w' ⟨rfl, rfl⟩
  exact ⟨by rw [hn], h⟩
theorem KnS.lt (h : KnS w0 w D p now L) {k : Nat} (hk : D k) : k < w.heap.size := h.t.at_.lt hk
/-- A list that is made on the spot. -/
theorem lit_read (l : List Td) {n : Nat} (hn : l.length = n) : ReadAt (w.alloc (.cells (l.flatMap tdC).toArray 45)) (.slice (some ⟨w.heap.size, 0, none⟩) n n) 3 (l.flatMap tdC) := by
  have := ReadAt.of_block (w := w.alloc (.cells (l.flatMap tdC).toArray 45)) n n 3 (heap_new rfl) (by rw [List.toList_toArray, flat_length tdC 3 (fun _ => rfl), hn]) (by rw [List.toList_toArray]; exact tdC_one l)
  exact this
theorem lit_off (h : KnS w0 w D p now L) {n : Nat} : ∀ g, rdBlock (.slice (some ⟨w.heap.size, 0, none⟩) n n) = some g → ¬ D g := fun g hg hk => by
  have := h.lt hk
  have e := rdBlock_own hg
  injection e with e
  subst e
  exact Nat.lt_irrefl _ this
end
abbrev ka : Td := ⟨1, 255, 1⟩
abbrev kb : Td := ⟨2, 256, 2⟩
abbrev kc : Td := ⟨3, 300, 3⟩
abbrev kd : Td := ⟨4, 70000, 4⟩
abbrev ke : Td := ⟨4, 300, 4⟩
abbrev kf : Td := ⟨7, 18446744073709551614, 9⟩
theorem q1 : schR 250 [] ka = 0 ∧ schL 250 [] ka = [ka] := ⟨by decide, rfl⟩
theorem q2 : schR 250 [ka] kb = 0 ∧ schL 250 [ka] kb = [ka, kb] := ⟨by decide, rfl⟩
theorem q3 : schR 250 [ka, kb] kc = 0 ∧ schL 250 [ka, kb] kc = [ka, kb, kc] := ⟨by decide, rfl⟩
theorem q4 : schR 250 [ka, kb, kc] kd = 0 ∧ schL 250 [ka, kb, kc] kd = [ka, kb, kc, kd] := ⟨by decide, rfl⟩
theorem q5 : whE 250 [ka, kb, kc, kd] 1 = .tuple #[.int .i64 0, .int .i64 255, .int .i64 0] := rfl
theorem q6 : whE 250 [ka, kb, kc, kd] 3 = .tuple #[.int .i64 1, .int .i64 1, .int .i64 0] := rfl
theorem q7 : whE 250 [ka, kb, kc, kd] 4 = .tuple #[.int .i64 2, .int .i64 1, .int .i64 0] := rfl
theorem q8 : aOut 250 255 [ka, kb, kc, kd] = [ka] ∧ aNow 250 255 = 255 ∧ aRest 250 255 [ka, kb, kc, kd] = [kb, kc, kd] ∧ 0 = aErr 250 255 := ⟨rfl, rfl, rfl, rfl⟩
theorem q9 : whE 255 [kb, kc, kd] 3 = .tuple #[.int .i64 1, .int .i64 1, .int .i64 0] := rfl
theorem q10 : aOut 255 256 [kb, kc, kd] = [kb] ∧ aNow 255 256 = 256 ∧ aRest 255 256 [kb, kc, kd] = [kc, kd] ∧ 0 = aErr 255 256 := ⟨rfl, rfl, rfl, rfl⟩
theorem q11 : whE 256 [kc, kd] 3 = .tuple #[.int .i64 0, .int .i64 44, .int .i64 0] := rfl
theorem q12 : resR 256 [kc, kd] 4 300 = 0 ∧ resL 256 [kc, kd] 4 300 = [kc, ke] := ⟨by decide, rfl⟩
theorem q13 : schR 256 [kc, ke] ⟨5, 300, 0⟩ = 2 ∧ schL 256 [kc, ke] ⟨5, 300, 0⟩ = [kc, ke] := ⟨by decide, rfl⟩
theorem q14 : schR 256 [kc, ke] ⟨5, 256, 9⟩ = 3 ∧ schL 256 [kc, ke] ⟨5, 256, 9⟩ = [kc, ke] := ⟨by decide, rfl⟩
theorem q15 : schR 256 [kc, ke] ⟨5, 300, 3⟩ = 11 ∧ schL 256 [kc, ke] ⟨5, 300, 3⟩ = [kc, ke] := ⟨by decide, rfl⟩
theorem q16 : aOut 256 1000 [kc, ke] = [kc, ke] ∧ aNow 256 1000 = 1000 ∧ aRest 256 1000 [kc, ke] = [] ∧ 0 = aErr 256 1000 := ⟨rfl, rfl, rfl, rfl⟩
theorem q17 : schR 1000 [] ⟨7, 18446744073709551615, 9⟩ = 2 ∧ schL 1000 [] ⟨7, 18446744073709551615, 9⟩ = [] := ⟨by decide, rfl⟩
theorem q18 : schR 1000 [] kf = 0 ∧ schL 1000 [] kf = [kf] := ⟨by decide, rfl⟩
theorem q19 : whE 1000 [kf] 7 = .tuple #[.int .i64 7, .int .i64 255, .int .i64 0] := rfl
theorem q20 : aOut 1000 999 [kf] = [] ∧ aNow 1000 999 = 1000 ∧ aRest 1000 999 [kf] = [kf] ∧ 3 = aErr 1000 999 := ⟨rfl, rfl, rfl, rfl⟩
theorem q21 : aOut 1000 18446744073709551615 [kf] = [kf] ∧ aNow 1000 18446744073709551615 = 18446744073709551615 ∧ aRest 1000 18446744073709551615 [kf] = [] ∧ 0 = aErr 1000 18446744073709551615 := ⟨rfl, rfl, rfl, rfl⟩
end Go.Proofs.YtlalpenfgkfkpaaGreatDoor
