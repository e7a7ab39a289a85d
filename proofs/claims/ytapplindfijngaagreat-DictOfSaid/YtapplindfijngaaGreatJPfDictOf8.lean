/- Lemmas and contracts of functions, strung together out of 4 texts. No condition. -/
import Derived.Test.YtapplindfijngaaGreatJPfDictOf7
/- law11.same answers true for a log and the reference's log of the same slots. Conditions: both are made of valid entries. -/
namespace Go.Proofs.YtapplindfijngaaGreat
open Go.RowKit Go.Shelf
set_option maxRecDepth 100000

@[go_sem] theorem eql_nil_log (w : World) (a : Addr) : (binOp .eql 58 (.pointer (some a)) (.pointer none)).run Tryz.prog w = .ok (.bool false) w := by
  simp [go_sem]
theorem liveQ_slots (Q : List RQ) : liveQ Q = liveOf (slotsR (Q.map absQ)) := by
  unfold liveQ liveOf slotsR
  rw [List.map_map, List.countP_map]
  refine List.countP_congr (fun q _ => ?_)
  obtain ⟨x, v, g⟩ := q
  cases g <;> simp [absQ]
structure SmInv (w : World) (b : Nat) (aL : Option Addr) (cL : Nat) (aG : Option Addr) (cG n : Nat) (wr : World) : Prop where
  pu : Pure w wr
  r3 : wr.heap[b]? = some (.cells #[.slice aL n cL, .slice aG n cG] 32 (0, 0))
theorem SmInv.pure {w : World} {b : Nat} {aL : Option Addr} {cL : Nat} {aG : Option Addr} {cG n : Nat} {wr wr' : World} (h : SmInv w b aL cL aG cG n wr) (hq : Pure wr wr') : SmInv w b aL cL aG cG n wr' := ⟨h.pu.trans hq, hq.heap (fun h => h) h.r3⟩

/-- What both Get say of a slot. -/
theorem same_slot {Q : List RQ} {i : Nat} : (∃ x v, Q[i]? = some (x, v, false) ∧ (slotsR (Q.map absQ))[i]? = some (some x)) ∨ ((∀ x, (slotsR (Q.map absQ))[i]? ≠ some (some x)) ∧ ∀ x v, Q[i]? ≠ some (x, v, false)) := by
  cases e : Q[i]? with
  | none => exact .inr ⟨(fun x h => by unfold slotsR at h; rw [List.getElem?_map, List.getElem?_map, e] at h; cases h), (fun x v h => by cases h)⟩
  | some q =>
    obtain ⟨x, v, g⟩ := q
    cases g
    · exact .inl ⟨x, v, rfl, by unfold slotsR; rw [List.getElem?_map, List.getElem?_map, e]; rfl⟩
    · exact .inr ⟨(fun y h => by unfold slotsR at h; rw [List.getElem?_map, List.getElem?_map, e] at h; cases h), (fun y u h => by cases h)⟩
theorem getA_hit {w : World} {D : Nat → Prop} {p : Nat} {L : List (Option Ent)} (h : LogAt w D p L) (i : Nat) (x : Ent) (hi : L[i]? = some (some x)) : Calls Tryz.prog 97 #[logPtr p, .int .u32 i] w (getPost (some x) w) := by
  obtain ⟨sv, M, rfl, h⟩ := h
  rw [List.getElem?_map] at hi
  cases e : M[i]? with
  | none => rw [e] at hi; cases hi
  | some m =>
    obtain ⟨o, v⟩ := m
    rw [e] at hi
    cases hi
    exact Get_hit h e
theorem getA_miss {w : World} {D : Nat → Prop} {p : Nat} {L : List (Option Ent)} (h : LogAt w D p L) (i : Nat) (hu : i ≤ 4294967295) (hi : ∀ x, L[i]? ≠ some (some x)) : Calls Tryz.prog 97 #[logPtr p, .int .u32 i] w (getPost none w) := by
  obtain ⟨sv, M, rfl, h⟩ := h
  refine Get_miss h hu ?_
  unfold slotOf
  cases e : M[i]? with
  | none => rfl
  | some m =>
    obtain ⟨o, v⟩ := m
    cases o with
    | none => rfl
    | some x => exact absurd (by rw [List.getElem?_map, e]; rfl) (hi x)
theorem refGet_hit {w : World} {aL : Option Addr} {cL : Nat} {aG : Option Addr} {cG : Nat} {Q : List RQ} (h : RefRow w aL cL aG cG Q) (s : Nat) (hs : s ≤ 4294967295) (x : Ent) (v : Value) (hi : Q[s]? = some (x, v, false)) :
    Calls Tryz.prog 85 #[refV aL cL aG cG Q.length, .int .u32 s] w fun e w' => e = .returned (.tuple #[.agg #[.string x.key, v, .int .u64 x.dl, .int .u64 x.birth], .int .i64 0]) ∧ Pure w w' := by
  refine Calls.mono (ref_Get h s hs) ?_
  rintro e w' ⟨h1, h2⟩
  rw [hi] at h2
  exact ⟨h2, h1⟩
theorem refGet_miss {w : World} {aL : Option Addr} {cL : Nat} {aG : Option Addr} {cG : Nat} {Q : List RQ} (h : RefRow w aL cL aG cG Q) (s : Nat) (hs : s ≤ 4294967295) (hi : ∀ x v, Q[s]? ≠ some (x, v, false)) :
    Calls Tryz.prog 85 #[refV aL cL aG cG Q.length, .int .u32 s] w fun e w' => e = .returned (.tuple #[.agg #[.string ⟨#[]⟩, .slice none 0 0, .int .u64 0, .int .u64 0], .int .i64 9]) ∧ Pure w w' := by
  refine Calls.mono (ref_Get h s hs) ?_
  rintro e w' ⟨h1, h2⟩
  split at h2
  · rename_i e; exact absurd e (hi _ _)
  · exact ⟨h2, h1⟩
theorem ref_Equal_zero {w : World} : Calls Tryz.prog 18 #[.agg #[.string ⟨#[]⟩, .slice none 0 0, .int .u64 0, .int .u64 0], .agg #[.string ⟨#[]⟩, .slice none 0 0, .int .u64 0, .int .u64 0]] w fun e w' => e = .returned (.bool true) ∧ Pure w w' :=
  ref_Equal_same ⟨⟨#[]⟩, [], 0, 0⟩ none none 0 0 0 0 (ReadAt.nil _ _) (ReadAt.nil _ _)

set_option maxHeartbeats 1000000 in
theorem same_true {w : World} {D : Nat → Prop} {p : Nat} {aL : Option Addr} {cL : Nat} {aG : Option Addr} {cG : Nat} {Q : List RQ} (h : LogAt w D p (slotsR (Q.map absQ))) (hR : RefRow w aL cL aG cG Q) :
    Calls Tryz.prog 38 #[logPtr p, refV aL cL aG cG Q.length] w fun e w' => e = .returned (.bool true) ∧ Pure w w' := by
  have H := Lib.hid h
  have HR := Lib.hid hR
  have hlen := hR.len
  have hlq := liveQ_slots Q
  have hsl : (slotsR (Q.map absQ)).length = Q.length := by rw [slotsR_length, List.length_map]
  have HLQ := Lib.hid hlq; have HSL := Lib.hid hsl
  have hI : SmInv w w.heap.size aL cL aG cG Q.length (w.alloc (.cells #[.slice aL Q.length cL, .slice aG Q.length cG] 32)) := ⟨(Mod.refl _ w).alloc _, heap_new rfl⟩
  have HI := Lib.hid hI
  clear h hR hlq hsl hI
  go_enter Tryz.func38, Tryz.ntmps38
  go_upto_region 1 with fail
  generalize w.alloc (.cells #[.slice aL Q.length cL, .slice aG Q.length cG] 32) = W at HI ⊢
  generalize w.heap.size = b at HI ⊢
  have hr := HI.out.r3
  have hr_0 := cell_of_row _ _ 0 _ _ _ hr; have hr_1 := cell_of_row _ _ 1 _ _ _ hr; have hr_f := (fun j => frozen_of_row _ _ j _ _ hr); have hr_l := lt_of_block hr; simp at hr_0 hr_1; have H_hr := Lib.hid hr; clear hr
  go_region_held3 (fun w' => w'.cell? ⟨b, 0, none⟩ = some (.slice aL Q.length cL) ∧ w'.cell? ⟨b, 1, none⟩ = some (.slice aG Q.length cG)) (go_keep)
    (first
      | (go_at_call 28; refine Calls.mono (lenA (H.out.pure (Mod.trans HI.out.pu (by (repeat' (first | (with_reducible exact Mod.refl _ _) | (with_reducible refine Mod.alloc ?_ _) | (with_reducible refine Mod.drew ?_) | (with_reducible refine Mod.drewN ?_ _) | (with_reducible refine Mod.setCell ?_ ?_ _) | (refine Mod.then ?_ (by with_reducible assumption) ?_))))))) ?_; rintro e w1 ⟨rfl, rfl⟩; rw [HSL.out])
      | (go_at_call 69; refine Calls.mono (liveA (H.out.pure (Mod.trans HI.out.pu (by (repeat' (first | (with_reducible exact Mod.refl _ _) | (with_reducible refine Mod.alloc ?_ _) | (with_reducible refine Mod.drew ?_) | (with_reducible refine Mod.drewN ?_ _) | (with_reducible refine Mod.setCell ?_ ?_ _) | (refine Mod.then ?_ (by with_reducible assumption) ?_))))))) ?_; rintro e w1 ⟨rfl, rfl⟩; rw [← HLQ.out])
      | (go_at_call 20; refine Calls.mono (ref_Live (HR.out.pure (Mod.trans HI.out.pu (by (repeat' (first | (with_reducible exact Mod.refl _ _) | (with_reducible refine Mod.alloc ?_ _) | (with_reducible refine Mod.drew ?_) | (with_reducible refine Mod.drewN ?_ _) | (with_reducible refine Mod.setCell ?_ ?_ _) | (refine Mod.then ?_ (by with_reducible assumption) ?_))))))) ?_; rintro e w1 ⟨rfl, hq⟩; have hq1 : Pure W w1 := Mod.of_drew hq; have y0 := hq1.cell (fun h => h) hr_0; have y1 := hq1.cell (fun h => h) hr_1; have HQ1 := Lib.hid hq1; clear hq hq1))
  replace HI := Lib.hid (HI.out.pure HQ1.out)
  clear y0 y1 HQ1
  clear hr_0 hr_1 hr_f hr_l
  go_wp2
  go_loopw [5] (fun i wr => ∃ k : Nat, k ≤ Q.length + 1 ∧ i = .int .i64 k ∧ SmInv w b aL cL aG cG Q.length wr) (fun i _ => Q.length + 1 - (intOf i).toNat)
  case atStart => exact ⟨0, by omega, rfl, HI.out⟩
  case round =>
    obtain ⟨k, hk, rfl, hI⟩ := hrel
    have HI := Lib.hid hI
    clear hI
    have hr := HI.out.r3
    have hr_0 := cell_of_row _ _ 0 _ _ _ hr; have hr_1 := cell_of_row _ _ 1 _ _ _ hr; have hr_f := (fun j => frozen_of_row _ _ j _ _ hr); have hr_l := lt_of_block hr; simp at hr_0 hr_1; have H_hr := Lib.hid hr; clear hr
    by_cases hlt : k ≤ Q.length
    · have hk1 : (k : Int) ≤ (Q.length : Int) := by omega
      have hk2 : (k : Int) ≤ 4294967295 := by omega
      rcases same_slot (Q := Q) (i := k) with ⟨x, v, hq, hx⟩ | ⟨hx, hq⟩
      · obtain ⟨va, vc, hve, _⟩ := owns_form (HR.out.vals _ (List.mem_of_getElem? hq))
        dsimp only at hve
        subst hve
        have HQs := Lib.hid hq; have HX := Lib.hid hx
        clear hq hx
        go_upto_region 7 with (go_at_call 97; refine Calls.mono (getA_hit (H.out.pure HI.out.pu) k x HX.out) ?_; rintro e w1 ⟨a1, n1, c1, rfl, hb1, hf1, hp1⟩)
        have hal : Pure w1 (w1.alloc (.cells #[.string x.key, .slice a1 n1 c1, .int .u64 x.dl, .int .u64 x.birth] 42)) := (Mod.refl _ w1).alloc _
        have z6 := heap_new (w := w1) (o := .cells #[.string x.key, .slice a1 n1 c1, .int .u64 x.dl, .int .u64 x.birth] 42 (0, 0)) rfl
        have hrd := (hb1.read (bytesOf_one _)).frame hal (fun _ _ h => h)
        replace HI := Lib.hid ((HI.out.pure hp1).pure hal)
        generalize w1.alloc (.cells #[.string x.key, .slice a1 n1 c1, .int .u64 x.dl, .int .u64 x.birth] 42) = W1 at z6 hrd HI ⊢
        generalize w1.heap.size = b6 at z6 ⊢
        have HRD := Lib.hid hrd; have HZ6 := Lib.hid z6
        clear hr_0 hr_1 hr_f hr_l
        clear hal hp1 hb1 hf1 hrd z6
        have hr := HI.out.r3
        have hr_0 := cell_of_row _ _ 0 _ _ _ hr; have hr_1 := cell_of_row _ _ 1 _ _ _ hr; have hr_f := (fun j => frozen_of_row _ _ j _ _ hr); have hr_l := lt_of_block hr; simp at hr_0 hr_1; have H_hr := Lib.hid hr; clear hr
        go_upto_region 8 with (go_at_call 85; refine Calls.mono (refGet_hit (HR.out.pure HI.out.pu) k (by omega) x _ HQs.out) ?_; rintro e w2 ⟨rfl, hp2⟩)
        have hal : Pure w2 (w2.alloc (.cells #[.string x.key, .slice va (bytesOf x.val).length vc, .int .u64 x.dl, .int .u64 x.birth] 42)) := (Mod.refl _ w2).alloc _
        have z8 := heap_new (w := w2) (o := .cells #[.string x.key, .slice va (bytesOf x.val).length vc, .int .u64 x.dl, .int .u64 x.birth] 42 (0, 0)) rfl
        replace HI := Lib.hid ((HI.out.pure hp2).pure hal)
        have z6 := hal.heap (fun h => h) (hp2.heap (fun h => h) HZ6.out)
        have HRD1 := Lib.hid (HRD.out.frame (hp2.trans hal) (fun _ _ h => h))
        generalize w2.alloc (.cells #[.string x.key, .slice va (bytesOf x.val).length vc, .int .u64 x.dl, .int .u64 x.birth] 42) = W2 at z6 z8 HRD1 HI ⊢
        generalize w2.heap.size = b8 at z8 ⊢
        have HRD2 := Lib.hid (BytesAt.read (HR.out.pure HI.out.pu |>.vals _ (List.mem_of_getElem? HQs.out)) (bytesOf_one _))
        clear hr_0 hr_1 hr_f hr_l
        clear hal hp2
        have z6_0 := cell_of_row _ _ 0 _ _ _ z6; have z6_1 := cell_of_row _ _ 1 _ _ _ z6; have z6_2 := cell_of_row _ _ 2 _ _ _ z6; have z6_3 := cell_of_row _ _ 3 _ _ _ z6; have z6_f := (fun j => frozen_of_row _ _ j _ _ z6); have z6_l := lt_of_block z6; simp at z6_0 z6_1 z6_2 z6_3; have H_z6 := Lib.hid z6; clear z6
        have z8_0 := cell_of_row _ _ 0 _ _ _ z8; have z8_1 := cell_of_row _ _ 1 _ _ _ z8; have z8_2 := cell_of_row _ _ 2 _ _ _ z8; have z8_3 := cell_of_row _ _ 3 _ _ _ z8; have z8_f := (fun j => frozen_of_row _ _ j _ _ z8); have z8_l := lt_of_block z8; simp at z8_0 z8_1 z8_2 z8_3; have H_z8 := Lib.hid z8; clear z8
        go_upto_region 5 with (go_at_call 18; refine Calls.mono (ref_Equal_same x a1 va n1 _ c1 vc HRD1.out HRD2.out) ?_; rintro e w3 ⟨rfl, hp3⟩; replace HI := Lib.hid (HI.out.pure hp3); clear hp3)
        go_wp2
        go_roundw
        case rel => exact ⟨k + 1, by omega, by go_num, HI.out⟩
        case measure => simp [intOf]; omega
      · have HQs := Lib.hid hq; have HX := Lib.hid hx
        clear hq hx
        go_upto_region 7 with (go_at_call 97; refine Calls.mono (getA_miss (H.out.pure HI.out.pu) k (by omega) HX.out) ?_; rintro e w1 ⟨rfl, hp1⟩)
        have hal : Pure w1 (w1.alloc (.cells #[.string ⟨#[]⟩, .slice none 0 0, .int .u64 0, .int .u64 0] 42)) := (Mod.refl _ w1).alloc _
        have z6 := heap_new (w := w1) (o := .cells #[.string ⟨#[]⟩, .slice none 0 0, .int .u64 0, .int .u64 0] 42 (0, 0)) rfl
        replace HI := Lib.hid ((HI.out.pure hp1).pure hal)
        generalize w1.alloc (.cells #[.string ⟨#[]⟩, .slice none 0 0, .int .u64 0, .int .u64 0] 42) = W1 at z6 HI ⊢
        generalize w1.heap.size = b6 at z6 ⊢
        have HZ6 := Lib.hid z6
        clear hr_0 hr_1 hr_f hr_l
        clear hal hp1 z6
        have hr := HI.out.r3
        have hr_0 := cell_of_row _ _ 0 _ _ _ hr; have hr_1 := cell_of_row _ _ 1 _ _ _ hr; have hr_f := (fun j => frozen_of_row _ _ j _ _ hr); have hr_l := lt_of_block hr; simp at hr_0 hr_1; have H_hr := Lib.hid hr; clear hr
        go_upto_region 8 with (go_at_call 85; refine Calls.mono (refGet_miss (HR.out.pure HI.out.pu) k (by omega) HQs.out) ?_; rintro e w2 ⟨rfl, hp2⟩)
        have hal : Pure w2 (w2.alloc (.cells #[.string ⟨#[]⟩, .slice none 0 0, .int .u64 0, .int .u64 0] 42)) := (Mod.refl _ w2).alloc _
        have z8 := heap_new (w := w2) (o := .cells #[.string ⟨#[]⟩, .slice none 0 0, .int .u64 0, .int .u64 0] 42 (0, 0)) rfl
        replace HI := Lib.hid ((HI.out.pure hp2).pure hal)
        have z6 := hal.heap (fun h => h) (hp2.heap (fun h => h) HZ6.out)
        generalize w2.alloc (.cells #[.string ⟨#[]⟩, .slice none 0 0, .int .u64 0, .int .u64 0] 42) = W2 at z6 z8 HI ⊢
        generalize w2.heap.size = b8 at z8 ⊢
        clear hr_0 hr_1 hr_f hr_l
        clear hal hp2
        have z6_0 := cell_of_row _ _ 0 _ _ _ z6; have z6_1 := cell_of_row _ _ 1 _ _ _ z6; have z6_2 := cell_of_row _ _ 2 _ _ _ z6; have z6_3 := cell_of_row _ _ 3 _ _ _ z6; have z6_f := (fun j => frozen_of_row _ _ j _ _ z6); have z6_l := lt_of_block z6; simp at z6_0 z6_1 z6_2 z6_3; have H_z6 := Lib.hid z6; clear z6
        have z8_0 := cell_of_row _ _ 0 _ _ _ z8; have z8_1 := cell_of_row _ _ 1 _ _ _ z8; have z8_2 := cell_of_row _ _ 2 _ _ _ z8; have z8_3 := cell_of_row _ _ 3 _ _ _ z8; have z8_f := (fun j => frozen_of_row _ _ j _ _ z8); have z8_l := lt_of_block z8; simp at z8_0 z8_1 z8_2 z8_3; have H_z8 := Lib.hid z8; clear z8
        go_upto_region 5 with (go_at_call 18; refine Calls.mono ref_Equal_zero ?_; rintro e w3 ⟨rfl, hp3⟩; replace HI := Lib.hid (HI.out.pure hp3); clear hp3)
        go_wp2
        go_roundw
        case rel => exact ⟨k + 1, by omega, by go_num, HI.out⟩
        case measure => simp [intOf]; omega
    · have hk1 : (Q.length : Int) < (k : Int) := by omega
      go_wp2
      go_ret
      exact ⟨rfl, HI.out.pu⟩
end Go.Proofs.YtapplindfijngaaGreat

/- The reference's From of layer 11. Conditions: the row is owned, the slot numbers rise and are below the length. -/
namespace Go.Proofs.YtapplindfijngaaGreat
open Go.RowKit Go.Shelf
set_option maxRecDepth 100000

/-- No slot number below k goes to s. -/
def FrInv (w : World) (a : Option Addr) (c n : Nat) (m : Int) (xs : List Nat) (s : Nat) (i : Value) (wr : World) : Prop :=
  ∃ k : Nat, k ≤ n ∧ i = .int .i64 k ∧ (∀ j, j < k → j ∈ xs → below xs j ≠ s) ∧ Pure w wr ∧ wr.heap[w.heap.size]? = some (.cells #[.slice a n c, .int .i64 m] 86 (0, 0))
theorem below_at {xs : List Nat} (h : xs.Pairwise (· < ·)) {s x : Nat} (hs : xs[s]? = some x) : below xs x = s := by
  refine below_of h (Nat.le_of_lt (List.getElem?_eq_some_iff.1 hs).1) (fun k y hk hy => rising_lt h hk hy hs) (fun k y hk hy => ?_)
  rcases Nat.lt_or_eq_of_le hk with hlt | rfl
  · exact Nat.le_of_lt (rising_lt h hlt hs hy)
  · rw [hs] at hy; cases hy; exact Nat.le_refl _
theorem at_below {xs : List Nat} (h : xs.Pairwise (· < ·)) {x : Nat} (hx : x ∈ xs) : xs[below xs x]? = some x := by
  obtain ⟨s, hs⟩ := List.mem_iff_getElem?.1 hx
  rw [below_at h hs]; exact hs
theorem fromM_hit {xs : List Nat} (h : xs.Pairwise (· < ·)) {x : Nat} (hx : x ∈ xs) : fromM xs (below xs x) = (x, 0) := by
  have h1 := at_below h hx
  have hlt := (List.getElem?_eq_some_iff.1 h1).1
  unfold fromM
  rw [if_pos hlt]
  simp [List.getD, h1]
theorem fromM_miss {xs : List Nat} (h : xs.Pairwise (· < ·)) {n s : Nat} (hx : ∀ x ∈ xs, x < n) (hno : ∀ j, j < n → j ∈ xs → below xs j ≠ s) : fromM xs s = (0, 9) := by
  unfold fromM
  rw [if_neg]
  intro hlt
  have h1 := List.getElem?_eq_getElem hlt
  have hm := List.mem_of_getElem? h1
  exact hno _ (hx _ hm) hm (below_at h h1)

set_option maxHeartbeats 1000000 in
theorem ref_From {w : World} {a : Option Addr} {c n : Nat} {xs : List Nat} (h : MvX w a c n xs) (hr : Rising xs) (hn : n ≤ 4194304) (hx : ∀ x ∈ xs, x < n) (m : Int) (s : Nat) (hs : s ≤ 4294967295) :
    Calls Tryz.prog 96 #[.agg #[.slice a n c, .int .i64 m], .int .u32 s] w fun e w' => e = .returned (.tuple #[.int .u32 (fromM xs s).1, .int .i64 (fromM xs s).2]) ∧ Pure w w' := by
  have H := Lib.hid h
  have HR := Lib.hid hr
  have HX := Lib.hid hx
  have hl : xs.length ≤ 4194304 := hr.len
  clear h hr hx
  go_enter Tryz.func96, Tryz.ntmps96
  go_wp2
  go_loopw [6] (fun i wr => FrInv w a c n m xs s i wr) (fun i _ => n - (intOf i).toNat)
  case atStart => exact ⟨0, Nat.zero_le _, rfl, fun j hj => by omega, (Mod.refl _ w).alloc _, heap_new rfl⟩
  case round =>
    obtain ⟨k, hk, rfl, hno, hpu, hr1⟩ := hrel
    have HW := Lib.hid (H.out.pure hpu)
    have HPU := Lib.hid hpu
    have HNO := Lib.hid hno
    clear hpu hno
    have hr1_0 := cell_of_row _ _ 0 _ _ _ hr1; have hr1_1 := cell_of_row _ _ 1 _ _ _ hr1; have hr1_f := (fun j => frozen_of_row _ _ j _ _ hr1); have hr1_l := lt_of_block hr1; simp at hr1_0 hr1_1; have H_hr1 := Lib.hid hr1; clear hr1
    by_cases hlt : k < n
    · have hk1 : (k : Int) < (n : Int) := by omega
      obtain ⟨g, hga, hg, hc⟩ := HW.out.cell hlt
      subst hga
      by_cases hm : k ∈ xs
      · rw [if_pos hm] at hc
        have hb1 : (below xs k : Int) ≤ 4294967295 := by have := below_le xs k; omega
        have hb0 : (0 : Int) ≤ (below xs k : Int) := by omega
        by_cases he : below xs k = s
        · have E := Lib.hid (he ▸ fromM_hit HR.out.up hm : fromM xs s = (k, 0))
          have hb2 : (s : Int) ≤ 4294967295 := by omega
          have hb3 : (0 : Int) ≤ (s : Int) := by omega
          rw [he] at hc
          clear he hb0 hb1 hm
          go_wp2
          go_ret2
          exact ⟨by rw [E.out]; simp, HPU.out⟩
        · have hne : ¬ ((below xs k : Int) = (s : Int)) := by omega
          have hne2 : ((below xs k : Int) == (s : Int)) = false := by simp; omega
          have HN2 : Hid (∀ j, j < k + 1 → j ∈ xs → below xs j ≠ s) := fun j hj hjm => by
            rcases Nat.lt_or_eq_of_le (Nat.lt_succ_iff.1 hj) with hlt | rfl
            · exact HNO.out j hlt hjm
            · exact he
          clear he hm
          generalize below xs k = bl at hc hb0 hb1 hne hne2
          go_wp2
          go_roundw
          case rel =>
            unfold FrInv
            exact ⟨k + 1, by omega, by go_num, HN2.out, HPU.out, H_hr1.out⟩
          case measure => simp [intOf]; omega
      · rw [if_neg hm] at hc
        have HN2 : Hid (∀ j, j < k + 1 → j ∈ xs → below xs j ≠ s) := fun j hj hjm => by
          rcases Nat.lt_or_eq_of_le (Nat.lt_succ_iff.1 hj) with hlt | rfl
          · exact HNO.out j hlt hjm
          · exact absurd hjm hm
        clear hm
        go_wp2
        go_roundw
        case rel =>
          unfold FrInv
          exact ⟨k + 1, by omega, by go_num, HN2.out, HPU.out, H_hr1.out⟩
        case measure => simp [intOf]; omega
    · have hk1 : (n : Int) ≤ (k : Int) := by omega
      have E := Lib.hid (fromM_miss HR.out.up HX.out (fun j hj => HNO.out j (by omega)))
      go_wp2
      go_ret2
      exact ⟨by rw [E.out]; simp, HPU.out⟩
end Go.Proofs.YtapplindfijngaaGreat

/- law11.moves answers true where the reference's list is that of the moves; law11.many. Conditions: rows owned, slot numbers rise and are below the length. -/
namespace Go.Proofs.YtapplindfijngaaGreat
open Go.RowKit Go.Shelf
set_option maxRecDepth 100000

theorem many_any (n : Int) (a : Option Addr) (l c : Nat) (w : World) (hl : l ≤ 9223372036854775807) (r : Bool) (hr : (decide (n < 0) || decide (100 < n) || decide (100 < (l : Int))) = r) :
    Calls Tryz.prog 32 #[.int .i64 n, .slice a l c] w fun e w' => e = .returned (.bool r) ∧ w = w' := by
  have HR := Lib.hid hr
  clear hr
  by_cases h1 : n < 0
  · have h2 : decide (n < 0) = true := by simp [h1]
    go_enter Tryz.func32, Tryz.ntmps32
    go_wp2
    go_ret
    exact ⟨by rw [← HR.out]; simp [h1], rfl⟩
  · by_cases h3 : 100 < n
    · have h4 : decide (100 < n) = true := by simp [h3]
      go_enter Tryz.func32, Tryz.ntmps32
      go_wp2
      go_ret
      exact ⟨by rw [← HR.out]; simp [h1, h3], rfl⟩
    · go_enter Tryz.func32, Tryz.ntmps32
      go_wp2
      go_ret
      exact ⟨by rw [← HR.out]; simp [h1, h3]; try omega, rfl⟩

structure MvInv (w : World) (b : Nat) (a a2 : Option Addr) (c c2 n : Nat) (xs : List Nat) (wr : World) : Prop where
  pu : Pure w wr
  r2 : wr.heap[b]? = some (.cells #[.slice a xs.length c, .int .i64 n] 81 (0, 0))
  r3 : wr.heap[b + 1]? = some (.cells #[.slice a2 n c2, .int .i64 xs.length] 86 (0, 0))
theorem MvInv.pure {w : World} {b : Nat} {a a2 : Option Addr} {c c2 n : Nat} {xs : List Nat} {wr wr' : World} (h : MvInv w b a a2 c c2 n xs wr) (hq : Pure wr wr') : MvInv w b a a2 c c2 n xs wr' :=
  ⟨h.pu.trans hq, hq.heap (fun h => h) h.r2, hq.heap (fun h => h) h.r3⟩
theorem toM_u32 (xs : List Nat) (hl : ∀ x ∈ xs, x < 4194304) : toM xs 4294967295 = (0, 9) := by
  have : 4294967295 ∉ xs := fun h => by have := hl _ h; omega
  simp [toM, this]
theorem fromM_u32 (xs : List Nat) (hl : xs.length ≤ 4194304) : fromM xs 4294967295 = (0, 9) := by
  have : ¬ 4294967295 < xs.length := by omega
  simp [fromM, this]
theorem toM_le (xs : List Nat) (o : Nat) : (toM xs o).1 ≤ xs.length ∧ (toM xs o).2 ≤ 9 := by
  unfold toM; split
  · exact ⟨below_le _ _, by simp⟩
  · simp
theorem fromM_le {xs : List Nat} (h : ∀ x ∈ xs, x ≤ 4294967295) (o : Nat) : (fromM xs o).1 ≤ 4294967295 ∧ (fromM xs o).2 ≤ 9 := by
  unfold fromM; split
  · rename_i hlt
    exact ⟨by have := h _ (List.getElem_mem hlt); simpa [List.getD, List.getElem?_eq_getElem hlt] using this, by simp⟩
  · simp

theorem ref_ToE {w : World} {a : Option Addr} {c n : Nat} {xs : List Nat} (h : MvX w a c n xs) (hn : n ≤ 4194304) (hx : ∀ x ∈ xs, x < n) (hl : xs.length ≤ 4194304) (m : Int) (o : Nat) (ho : o ≤ 4294967295) (t1 t2 : Nat) (ht : toM xs o = (t1, t2)) :
    Calls Tryz.prog 95 #[.agg #[.slice a n c, .int .i64 m], .int .u32 o] w fun e w' => e = .returned (.tuple #[.int .u32 t1, .int .i64 t2]) ∧ Pure w w' := by
  have := ref_To h hn hx hl m o ho
  rw [ht] at this
  exact this
theorem ref_FromE {w : World} {a : Option Addr} {c n : Nat} {xs : List Nat} (h : MvX w a c n xs) (hr : Rising xs) (hn : n ≤ 4194304) (hx : ∀ x ∈ xs, x < n) (m : Int) (o : Nat) (ho : o ≤ 4294967295) (t1 t2 : Nat) (ht : fromM xs o = (t1, t2)) :
    Calls Tryz.prog 96 #[.agg #[.slice a n c, .int .i64 m], .int .u32 o] w fun e w' => e = .returned (.tuple #[.int .u32 t1, .int .i64 t2]) ∧ Pure w w' := by
  have := ref_From h hr hn hx m o ho
  rw [ht] at this
  exact this
theorem law_toE {w : World} {a : Option Addr} {c : Nat} {xs : List Nat} (h : U32Row w a c xs) (hr : Rising xs) (n : Int) (o t1 t2 : Nat) (ho : o ≤ 4294967295) (ht : toM xs o = (t1, t2)) :
    Calls Tryz.prog 90 #[.agg #[.slice a xs.length c, .int .i64 n], .int .u32 o, .int .u32 t1, .int .i64 t2] w fun e w' => e = .returned (.bool true) ∧ Pure w w' := by
  have := law_to h hr n o t1 t2 ho
  rw [ht] at this
  simpa using this
theorem law_fromE {w : World} {a : Option Addr} {c : Nat} {xs : List Nat} (h : U32Row w a c xs) (hr : Rising xs) (n : Int) (o t1 t2 : Nat) (ho : o ≤ 4294967295) (ht : fromM xs o = (t1, t2)) :
    Calls Tryz.prog 91 #[.agg #[.slice a xs.length c, .int .i64 n], .int .u32 o, .int .u32 t1, .int .i64 t2] w fun e w' => e = .returned (.bool true) ∧ Pure w w' := by
  have := law_from h hr.len n o t1 t2 ho
  rw [ht] at this
  simpa using this

set_option maxHeartbeats 1000000 in
theorem moves_true {w : World} {a a2 : Option Addr} {c c2 n : Nat} {xs : List Nat} (h : U32Row w a c xs) (hr : Rising xs) (h2 : MvX w a2 c2 n xs) (hn : n ≤ 4194300) (hx : ∀ x ∈ xs, x < n) :
    Calls Tryz.prog 37 #[.agg #[.slice a xs.length c, .int .i64 n], .agg #[.slice a2 n c2, .int .i64 xs.length]] w fun e w' => e = .returned (.bool true) ∧ Pure w w' := by
  have H := Lib.hid h
  have H2 := Lib.hid h2
  have HR := Lib.hid hr
  have HX := Lib.hid hx
  have hl : xs.length ≤ 4194304 := hr.len
  clear h h2 hr hx
  have hp : Pure w ((w.alloc (.cells #[.slice a xs.length c, .int .i64 n] 81)).alloc (.cells #[.slice a2 n c2, .int .i64 xs.length] 86)) := ((Mod.refl _ w).alloc _).alloc _
  have hI : MvInv w w.heap.size a a2 c c2 n xs ((w.alloc (.cells #[.slice a xs.length c, .int .i64 n] 81)).alloc (.cells #[.slice a2 n c2, .int .i64 xs.length] 86)) := ⟨hp, heap_keep (heap_new rfl), heap_new (by simp)⟩
  have HI := Lib.hid hI
  clear hI hp
  go_enter Tryz.func37, Tryz.ntmps37
  go_upto_region 1 with fail
  generalize (w.alloc (.cells #[.slice a xs.length c, .int .i64 n] 81)).alloc (.cells #[.slice a2 n c2, .int .i64 xs.length] 86) = W at HI ⊢
  generalize w.heap.size = b at HI ⊢
  have hr2 := HI.out.r2; have hr3 := HI.out.r3
  have hr2_0 := cell_of_row _ _ 0 _ _ _ hr2; have hr2_1 := cell_of_row _ _ 1 _ _ _ hr2; have hr2_f := (fun j => frozen_of_row _ _ j _ _ hr2); have hr2_l := lt_of_block hr2; simp at hr2_0 hr2_1; have H_hr2 := Lib.hid hr2; clear hr2
  have hr3_0 := cell_of_row _ _ 0 _ _ _ hr3; have hr3_1 := cell_of_row _ _ 1 _ _ _ hr3; have hr3_f := (fun j => frozen_of_row _ _ j _ _ hr3); have hr3_l := lt_of_block hr3; simp at hr3_0 hr3_1; have H_hr3 := Lib.hid hr3; clear hr3
  go_upto_region 3 with (go_at_call 89; refine Calls.mono (lensZ _ _ xs.length n xs.length n true (by simp)) ?_; rintro e W2 ⟨rfl, hq⟩; replace HI := Lib.hid (HI.out.pure hq); clear hq)
  clear hr2_0 hr2_1 hr2_f hr2_l
  clear hr3_0 hr3_1 hr3_f hr3_l
  go_wp2
  go_loopw [5] (fun i wr => ∃ k : Nat, k ≤ n + 2 ∧ i = .int .i64 k ∧ MvInv w b a a2 c c2 n xs wr) (fun i _ => n + 2 - (intOf i).toNat)
  case atStart => exact ⟨0, by omega, rfl, HI.out⟩
  case round =>
    obtain ⟨k, hk, rfl, hI⟩ := hrel
    have HI := Lib.hid hI
    clear hI
    have hr2 := HI.out.r2; have hr3 := HI.out.r3
    have hr2_0 := cell_of_row _ _ 0 _ _ _ hr2; have hr2_1 := cell_of_row _ _ 1 _ _ _ hr2; have hr2_f := (fun j => frozen_of_row _ _ j _ _ hr2); have hr2_l := lt_of_block hr2; simp at hr2_0 hr2_1; have H_hr2 := Lib.hid hr2; clear hr2
    have hr3_0 := cell_of_row _ _ 0 _ _ _ hr3; have hr3_1 := cell_of_row _ _ 1 _ _ _ hr3; have hr3_f := (fun j => frozen_of_row _ _ j _ _ hr3); have hr3_l := lt_of_block hr3; simp at hr3_0 hr3_1; have H_hr3 := Lib.hid hr3; clear hr3
    by_cases hlt : k < n + 2
    · have hk1 : (k : Int) ≤ (n : Int) + 1 := by omega
      have hk2 : (k : Int) ≤ 4294967295 := by omega
      obtain ⟨t1, t2, ht⟩ : ∃ t1 t2, toM xs k = (t1, t2) := ⟨_, _, rfl⟩
      obtain ⟨f1, f2, hf⟩ : ∃ t1 t2, fromM xs k = (t1, t2) := ⟨_, _, rfl⟩
      have ht1 := toM_le xs k; have hf1 := fromM_le HR.out.lt k
      rw [ht] at ht1
      rw [hf] at hf1
      obtain ⟨ht1, ht2⟩ := ht1
      obtain ⟨hf1, hf2⟩ := hf1
      have q1 : (t1 : Int) ≤ 4294967295 := by simp only at ht1; omega
      have q2 : (t2 : Int) ≤ 9 := by simp only at ht2; omega
      have q3 : (f1 : Int) ≤ 4294967295 := by simp only at hf1; omega
      have q4 : (f2 : Int) ≤ 9 := by simp only at hf2; omega
      have HT := Lib.hid ht; have HF := Lib.hid hf
      clear ht hf ht1 ht2 hf1 hf2
      go_upto_region 5 with (first
        | (go_at_call 95; refine Calls.mono (ref_ToE (H2.out.pure HI.out.pu) (by omega) HX.out hl _ k (by omega) t1 t2 HT.out) ?_; rintro e W2 ⟨rfl, hq⟩; replace HI := Lib.hid (HI.out.pure hq); have hr2 := HI.out.r2; have hr3 := HI.out.r3; clear hr2_0 hr2_1 hr2_f hr2_l H_hr2 hr3_0 hr3_1 hr3_f hr3_l H_hr3 hq; have hr2_0 := cell_of_row _ _ 0 _ _ _ hr2; have hr2_1 := cell_of_row _ _ 1 _ _ _ hr2; have hr2_f := (fun j => frozen_of_row _ _ j _ _ hr2); have hr2_l := lt_of_block hr2; simp at hr2_0 hr2_1; have H_hr2 := Lib.hid hr2; clear hr2; have hr3_0 := cell_of_row _ _ 0 _ _ _ hr3; have hr3_1 := cell_of_row _ _ 1 _ _ _ hr3; have hr3_f := (fun j => frozen_of_row _ _ j _ _ hr3); have hr3_l := lt_of_block hr3; simp at hr3_0 hr3_1; have H_hr3 := Lib.hid hr3; clear hr3)
        | (go_at_call 96; refine Calls.mono (ref_FromE (H2.out.pure HI.out.pu) HR.out (by omega) HX.out _ k (by omega) f1 f2 HF.out) ?_; rintro e W2 ⟨rfl, hq⟩; replace HI := Lib.hid (HI.out.pure hq); have hr2 := HI.out.r2; have hr3 := HI.out.r3; clear hr2_0 hr2_1 hr2_f hr2_l H_hr2 hr3_0 hr3_1 hr3_f hr3_l H_hr3 hq; have hr2_0 := cell_of_row _ _ 0 _ _ _ hr2; have hr2_1 := cell_of_row _ _ 1 _ _ _ hr2; have hr2_f := (fun j => frozen_of_row _ _ j _ _ hr2); have hr2_l := lt_of_block hr2; simp at hr2_0 hr2_1; have H_hr2 := Lib.hid hr2; clear hr2; have hr3_0 := cell_of_row _ _ 0 _ _ _ hr3; have hr3_1 := cell_of_row _ _ 1 _ _ _ hr3; have hr3_f := (fun j => frozen_of_row _ _ j _ _ hr3); have hr3_l := lt_of_block hr3; simp at hr3_0 hr3_1; have H_hr3 := Lib.hid hr3; clear hr3)
        | (go_at_call 90; refine Calls.mono (law_toE (owns_mod H.out HI.out.pu (fun _ _ h => h)) HR.out n k t1 t2 (by omega) HT.out) ?_; rintro e W2 ⟨rfl, hq⟩; replace HI := Lib.hid (HI.out.pure hq); have hr2 := HI.out.r2; have hr3 := HI.out.r3; clear hr2_0 hr2_1 hr2_f hr2_l H_hr2 hr3_0 hr3_1 hr3_f hr3_l H_hr3 hq; have hr2_0 := cell_of_row _ _ 0 _ _ _ hr2; have hr2_1 := cell_of_row _ _ 1 _ _ _ hr2; have hr2_f := (fun j => frozen_of_row _ _ j _ _ hr2); have hr2_l := lt_of_block hr2; simp at hr2_0 hr2_1; have H_hr2 := Lib.hid hr2; clear hr2; have hr3_0 := cell_of_row _ _ 0 _ _ _ hr3; have hr3_1 := cell_of_row _ _ 1 _ _ _ hr3; have hr3_f := (fun j => frozen_of_row _ _ j _ _ hr3); have hr3_l := lt_of_block hr3; simp at hr3_0 hr3_1; have H_hr3 := Lib.hid hr3; clear hr3)
        | (go_at_call 91; refine Calls.mono (law_fromE (owns_mod H.out HI.out.pu (fun _ _ h => h)) HR.out n k f1 f2 (by omega) HF.out) ?_; rintro e W2 ⟨rfl, hq⟩; replace HI := Lib.hid (HI.out.pure hq); have hr2 := HI.out.r2; have hr3 := HI.out.r3; clear hr2_0 hr2_1 hr2_f hr2_l H_hr2 hr3_0 hr3_1 hr3_f hr3_l H_hr3 hq; have hr2_0 := cell_of_row _ _ 0 _ _ _ hr2; have hr2_1 := cell_of_row _ _ 1 _ _ _ hr2; have hr2_f := (fun j => frozen_of_row _ _ j _ _ hr2); have hr2_l := lt_of_block hr2; simp at hr2_0 hr2_1; have H_hr2 := Lib.hid hr2; clear hr2; have hr3_0 := cell_of_row _ _ 0 _ _ _ hr3; have hr3_1 := cell_of_row _ _ 1 _ _ _ hr3; have hr3_f := (fun j => frozen_of_row _ _ j _ _ hr3); have hr3_l := lt_of_block hr3; simp at hr3_0 hr3_1; have H_hr3 := Lib.hid hr3; clear hr3))
      go_wp2
      go_roundw
      case rel => exact ⟨k + 1, by omega, by go_num, HI.out⟩
      case measure => simp [intOf]; omega
    · have hk1 : ¬ ((k : Int) ≤ (n : Int) + 1) := by omega
      have hk2 : (n : Int) + 1 < (k : Int) := by omega
      go_wp2_with (first
        | (go_at_call 90; refine Calls.mono (law_toE (owns_mod H.out HI.out.pu (fun _ _ h => h)) HR.out n 4294967295 0 9 (by omega) (toM_u32 xs (fun x hx => by have := HX.out x hx; omega))) ?_; rintro e W2 ⟨rfl, hq⟩; replace HI := Lib.hid (HI.out.pure hq); have hr2 := HI.out.r2; have hr3 := HI.out.r3; clear hr2_0 hr2_1 hr2_f hr2_l H_hr2 hr3_0 hr3_1 hr3_f hr3_l H_hr3 hq; have hr2_0 := cell_of_row _ _ 0 _ _ _ hr2; have hr2_1 := cell_of_row _ _ 1 _ _ _ hr2; have hr2_f := (fun j => frozen_of_row _ _ j _ _ hr2); have hr2_l := lt_of_block hr2; simp at hr2_0 hr2_1; have H_hr2 := Lib.hid hr2; clear hr2; have hr3_0 := cell_of_row _ _ 0 _ _ _ hr3; have hr3_1 := cell_of_row _ _ 1 _ _ _ hr3; have hr3_f := (fun j => frozen_of_row _ _ j _ _ hr3); have hr3_l := lt_of_block hr3; simp at hr3_0 hr3_1; have H_hr3 := Lib.hid hr3; clear hr3)
        | (go_at_call 91; refine Calls.mono (law_fromE (owns_mod H.out HI.out.pu (fun _ _ h => h)) HR.out n 4294967295 0 9 (by omega) (fromM_u32 xs hl)) ?_; rintro e W2 ⟨rfl, hq⟩; replace HI := Lib.hid (HI.out.pure hq); have hr2 := HI.out.r2; have hr3 := HI.out.r3; clear hr2_0 hr2_1 hr2_f hr2_l H_hr2 hr3_0 hr3_1 hr3_f hr3_l H_hr3 hq; have hr2_0 := cell_of_row _ _ 0 _ _ _ hr2; have hr2_1 := cell_of_row _ _ 1 _ _ _ hr2; have hr2_f := (fun j => frozen_of_row _ _ j _ _ hr2); have hr2_l := lt_of_block hr2; simp at hr2_0 hr2_1; have H_hr2 := Lib.hid hr2; clear hr2; have hr3_0 := cell_of_row _ _ 0 _ _ _ hr3; have hr3_1 := cell_of_row _ _ 1 _ _ _ hr3; have hr3_f := (fun j => frozen_of_row _ _ j _ _ hr3); have hr3_l := lt_of_block hr3; simp at hr3_0 hr3_1; have H_hr3 := Lib.hid hr3; clear hr3))
      go_ret
      exact ⟨rfl, HI.out.pu⟩
end Go.Proofs.YtapplindfijngaaGreat

/- The reference's compaction of a log (layer 11). Condition: the log's rows are its own (RefRow). -/
namespace Go.Proofs.YtapplindfijngaaGreat
open Go.RowKit Go.Shelf
set_option maxRecDepth 100000

theorem info_int : (Tryz.prog.info? 3).map (fun i => (i.zero, i.size, i.bytes)) = some (some (.int .i64 0), 1, 8) := by kernel_rfl

/-- The old slot numbers of the first k. -/
def oldsQ (Q : List RQ) (k : Nat) : List Nat := olds (slotsR ((Q.take k).map absQ))
theorem oldsQ_lt (Q : List RQ) (k : Nat) : ∀ x ∈ oldsQ Q k, x < k := fun x hx => by
  have := olds_lt x hx
  rw [slotsR_length, List.length_map, List.length_take] at this
  omega
theorem oldsQ_len (Q : List RQ) (k : Nat) (hk : k ≤ Q.length) : (oldsQ Q k).length ≤ k := by
  have h1 := live_length (slotsR ((Q.take k).map absQ))
  rw [slotsR_length, List.length_map, List.length_take] at h1
  unfold oldsQ
  rw [olds_length]
  omega
theorem take_abs {Q : List RQ} {k : Nat} {q : RQ} (h : Q[k]? = some q) : (Q.take (k + 1)).map absQ = (Q.take k).map absQ ++ [absQ q] := by
  rw [List.take_add_one, h, List.map_append]; rfl
theorem oldsQ_gone {Q : List RQ} {k : Nat} {x : Ent} {v : Value} (h : Q[k]? = some (x, v, true)) : oldsQ Q (k + 1) = oldsQ Q k := by
  unfold oldsQ
  rw [take_abs h]
  show olds (slotsR (_ ++ [(x, true)])) = _
  have : slotsR ((Q.take k).map absQ ++ [(x, true)]) = slotsR ((Q.take k).map absQ) ++ [none] := by simp [slotsR]
  rw [this, olds_append_none]
theorem oldsQ_live {Q : List RQ} {k : Nat} {x : Ent} {v : Value} (h : Q[k]? = some (x, v, false)) : oldsQ Q (k + 1) = oldsQ Q k ++ [k] := by
  unfold oldsQ
  rw [take_abs h]
  show olds (slotsR (_ ++ [(x, false)])) = _
  have : slotsR ((Q.take k).map absQ ++ [(x, false)]) = slotsR ((Q.take k).map absQ) ++ [some x] := by simp [slotsR]
  have hl : ((Q.take k).map absQ).length = k := by
    have := (List.getElem?_eq_some_iff.1 h).1
    rw [List.length_map, List.length_take]; omega
  rw [this, olds_append_some, slotsR_length, hl]
theorem pack_gone {Q : List RQ} {k : Nat} {x : Ent} {v : Value} (h : Q[k]? = some (x, v, true)) : packR ((Q.take (k + 1)).map absQ) = packR ((Q.take k).map absQ) := by
  rw [take_abs h]
  show (_ ++ [(x, true)]).filter _ = _
  simp [packR, List.filter_append]
theorem pack_live {Q : List RQ} {k : Nat} {x : Ent} {v : Value} (h : Q[k]? = some (x, v, false)) : packR ((Q.take (k + 1)).map absQ) = packR ((Q.take k).map absQ) ++ [(x, false)] := by
  rw [take_abs h]
  show (_ ++ [(x, false)]).filter _ = _
  simp [packR, List.filter_append]

/-- The five blocks of the call (b: the parameter's), the log and the moves under way. -/
structure LgInv (w : World) (b : Nat) (aL : Option Addr) (cL : Nat) (aG : Option Addr) (cG : Nat) (Q : List RQ) (k : Nat) (wr : World) : Prop where
  le : k ≤ Q.length
  pu : Pure w wr
  r1 : wr.heap[b]? = some (.cells #[.slice aL Q.length cL, .slice aG Q.length cG] 32 (0, 0))
  r2 : wr.heap[b + 1]? = some (.cells #[.slice none 0 0, .slice none 0 0] 32 (0, 0))
  r3 : wr.heap[b + 1 + 1]? = some (.cells #[.slice none 0 0, .int .i64 0] 86 (0, 0))
  r4 : ∃ aL' cL' aG' cG' Q', Q'.map absQ = packR ((Q.take k).map absQ) ∧ wr.heap[b + 1 + 1 + 1]? = some (.cells #[.slice aL' Q'.length cL', .slice aG' Q'.length cG'] 32 (0, 0)) ∧ RefRow wr aL' cL' aG' cG' Q' ∧
    (∀ g, (Value.slice aL' Q'.length cL').ownBlock = some g → b + 1 + 1 + 1 + 1 < g) ∧ (∀ g, (Value.slice aG' Q'.length cG').ownBlock = some g → b + 1 + 1 + 1 + 1 < g)
  r5 : ∃ aN cN, wr.heap[b + 1 + 1 + 1 + 1]? = some (.cells #[.slice aN k cN, .int .i64 (oldsQ Q k).length] 86 (0, 0)) ∧ MvX wr aN cN k (oldsQ Q k) ∧ (∀ g, (Value.slice aN k cN).ownBlock = some g → b + 1 + 1 + 1 + 1 < g)

/-- Between the append and the moves. -/
structure LgMid (w : World) (b : Nat) (aL : Option Addr) (cL : Nat) (aG : Option Addr) (cG : Nat) (Q : List RQ) (k : Nat) (R' : List (Ent × Bool)) (u : Nat) (v7 v8 : Value) (wr : World) : Prop where
  pu : Pure w wr
  r1 : wr.heap[b]? = some (.cells #[.slice aL Q.length cL, .slice aG Q.length cG] 32 (0, 0))
  r2 : wr.heap[b + 1]? = some (.cells #[.slice none 0 0, .slice none 0 0] 32 (0, 0))
  r3 : wr.heap[b + 1 + 1]? = some (.cells #[.slice none 0 0, .int .i64 0] 86 (0, 0))
  r4 : ∃ u0 u1, wr.heap[b + 1 + 1 + 1]? = some (.cells #[u0, u1] 32 (0, 0))
  r7 : ∃ b7 aL' cL' aG' cG' Q', v7 = .pointer (some ⟨b7, 0, none⟩) ∧ v8 = .int .u32 u ∧ b + 1 + 1 + 1 + 1 < b7 ∧ Q'.map absQ = R' ∧ wr.heap[b7]? = some (.cells #[.slice aL' Q'.length cL', .slice aG' Q'.length cG'] 32 (0, 0)) ∧ RefRow wr aL' cL' aG' cG' Q' ∧
    (∀ g, (Value.slice aL' Q'.length cL').ownBlock = some g → b + 1 + 1 + 1 + 1 < g) ∧ (∀ g, (Value.slice aG' Q'.length cG').ownBlock = some g → b + 1 + 1 + 1 + 1 < g)
  r5 : ∃ aN cN, wr.heap[b + 1 + 1 + 1 + 1]? = some (.cells #[.slice aN k cN, .int .i64 (oldsQ Q k).length] 86 (0, 0)) ∧ MvX wr aN cN k (oldsQ Q k) ∧ (∀ g, (Value.slice aN k cN).ownBlock = some g → b + 1 + 1 + 1 + 1 < g)

/-- A change of the moves' blocks alone leaves the log's rows. -/
theorem RefRow.modM {w w' : World} {S : Nat → Prop} {aL : Option Addr} {cL : Nat} {aG : Option Addr} {cG : Nat} {Q : List RQ} (h : RefRow w aL cL aG cG Q) (hm : Mod S w w')
    (hS : ∀ i, S i → i < w.heap.size → ∃ cs T fz, w.heap[i]? = some (.cells cs T fz) ∧ (T = 32 ∨ T = 86 ∨ T = 3)) : RefRow w' aL cL aG cG Q :=
  have hS' : ∀ (T : Nat), 32 ≠ T → 86 ≠ T → 3 ≠ T → ∀ i, S i → i < w.heap.size → ∃ cs T' fz, w.heap[i]? = some (.cells cs T' fz) ∧ T' ≠ T := fun T h1 h2 h3 i hi hl => by
    obtain ⟨cs, T', fz, e, hT⟩ := hS i hi hl
    refine ⟨cs, _, fz, e, ?_⟩
    rcases hT with rfl | rfl | rfl
    · exact h1
    · exact h2
    · exact h3
  ⟨owns_modT h.L hm (hS' _ (by decide) (by decide) (by decide)), owns_modT h.G hm (hS' _ (by decide) (by decide) (by decide)), fun q hq => owns_modT (h.vals q hq) hm (hS' _ (by decide) (by decide) (by decide)), h.ok, h.len⟩

/-- m.New = append(m.New, ..). -/
theorem lg_append {w wg w5 : World} {b k c c7 : Nat} {a a7 : Option Addr} {m : Value} {xs ys : List Nat} {n : Int}
    (r5 : w.heap[b]? = some (.cells #[.slice a k c, m] 86 (0, 0))) (ho : MvX w a c k xs) (hp : Pure w wg)
    (ho5 : w5.ownsRow 0 3 1 (.slice a7 (k + 1) c7) (k + 1) (ints (newX xs k) ++ [.int .i64 n])) (hn : newX ys (k + 1) = newX xs k ++ [n])
    (hg : wg.grownBy w5 (Value.slice a k c).ownBlock) (hat : (Value.slice a7 (k + 1) c7).ownBlock = (Value.slice a k c).ownBlock ∨ (Value.slice a7 (k + 1) c7).ownBlock = some wg.heap.size) :
    (w5.setCell ⟨b, 0, none⟩ (.slice a7 (k + 1) c7)).heap[b]? = some (.cells #[.slice a7 (k + 1) c7, m] 86 (0, 0)) ∧ MvX (w5.setCell ⟨b, 0, none⟩ (.slice a7 (k + 1) c7)) a7 c7 (k + 1) ys ∧
      Mod (fun i => i = b ∨ (Value.slice a k c).ownBlock = some i) w (w5.setCell ⟨b, 0, none⟩ (.slice a7 (k + 1) c7)) ∧ (∀ g, (Value.slice a7 (k + 1) c7).ownBlock = some g → (Value.slice a k c).ownBlock = some g ∨ w.heap.size ≤ g) := by
  obtain ⟨h1, h2, h3, h4⟩ := field_append (j := 0) r5 ho (by decide) hp ho5 hg hat
  refine ⟨by simpa using h1, ?_, h3, h4⟩
  unfold MvX
  rw [hn]
  simpa [ints] using h2

theorem oldsQ_all (Q : List RQ) : oldsQ Q Q.length = olds (slotsR (Q.map absQ)) := by unfold oldsQ; rw [List.take_length]
theorem lg_mid {w wr w' : World} {b : Nat} {aL aG aN a7 a8 : Option Addr} {cL cG cN c7 c8 : Nat} {Q Q2 : List RQ} {k u b7 : Nat} {R' : List (Ent × Bool)} {u0 u1 : Value}
    (pu : Pure w wr) (r1 : wr.heap[b]? = some (.cells #[.slice aL Q.length cL, .slice aG Q.length cG] 32 (0, 0)))
    (r2 : wr.heap[b + 1]? = some (.cells #[.slice none 0 0, .slice none 0 0] 32 (0, 0))) (r3 : wr.heap[b + 1 + 1]? = some (.cells #[.slice none 0 0, .int .i64 0] 86 (0, 0)))
    (r4 : wr.heap[b + 1 + 1 + 1]? = some (.cells #[u0, u1] 32 (0, 0)))
    (r5 : wr.heap[b + 1 + 1 + 1 + 1]? = some (.cells #[.slice aN k cN, .int .i64 (oldsQ Q k).length] 86 (0, 0))) (hN : MvX wr aN cN k (oldsQ Q k)) (fN : ∀ g, (Value.slice aN k cN).ownBlock = some g → b + 1 + 1 + 1 + 1 < g)
    (hp : Pure wr w') (hb7 : b + 1 + 1 + 1 + 1 < b7) (r7 : w'.heap[b7]? = some (.cells #[.slice a7 Q2.length c7, .slice a8 Q2.length c8] 32 (0, 0))) (R : RefRow w' a7 c7 a8 c8 Q2) (hQ2 : Q2.map absQ = R')
    (f7 : ∀ g, (Value.slice a7 Q2.length c7).ownBlock = some g → b + 1 + 1 + 1 + 1 < g) (f8 : ∀ g, (Value.slice a8 Q2.length c8).ownBlock = some g → b + 1 + 1 + 1 + 1 < g) :
    LgMid w b aL cL aG cG Q k R' u (.pointer (some ⟨b7, 0, none⟩)) (.int .u32 u) w' :=
  ⟨pu.trans hp, hp.heap (fun h => h) r1, hp.heap (fun h => h) r2, hp.heap (fun h => h) r3, ⟨u0, u1, hp.heap (fun h => h) r4⟩, ⟨b7, a7, c7, a8, c8, Q2, rfl, rfl, hb7, hQ2, r7, R, f7, f8⟩, aN, cN, hp.heap (fun h => h) r5, hN.pure hp, fN⟩
theorem lg_mid2 {w wc : World} {b : Nat} {aL aG aN a7 a8 : Option Addr} {cL cG cN c7 c8 : Nat} {Q Q2 : List RQ} {k : Nat} {u0 u1 m : Value} {xs : List Nat}
    (pu : Pure w wc) (r1 : wc.heap[b]? = some (.cells #[.slice aL Q.length cL, .slice aG Q.length cG] 32 (0, 0)))
    (r2 : wc.heap[b + 1]? = some (.cells #[.slice none 0 0, .slice none 0 0] 32 (0, 0))) (r3 : wc.heap[b + 1 + 1]? = some (.cells #[.slice none 0 0, .int .i64 0] 86 (0, 0)))
    (r4 : wc.heap[b + 1 + 1 + 1]? = some (.cells #[u0, u1] 32 (0, 0)))
    (r5 : wc.heap[b + 1 + 1 + 1 + 1]? = some (.cells #[.slice aN k cN, m] 86 (0, 0))) (hN : MvX wc aN cN k xs) (fN : ∀ g, (Value.slice aN k cN).ownBlock = some g → b + 1 + 1 + 1 + 1 < g)
    (R : RefRow wc a7 c7 a8 c8 Q2) (v0 v1 : Value) (hb : w.heap.size ≤ b) :
    let W6 := (wc.setCell ⟨b + 1 + 1 + 1, 0, none⟩ v0).setCell ⟨b + 1 + 1 + 1, 1, none⟩ v1
    Pure w W6 ∧ W6.heap[b]? = some (.cells #[.slice aL Q.length cL, .slice aG Q.length cG] 32 (0, 0)) ∧ W6.heap[b + 1]? = some (.cells #[.slice none 0 0, .slice none 0 0] 32 (0, 0)) ∧
      W6.heap[b + 1 + 1]? = some (.cells #[.slice none 0 0, .int .i64 0] 86 (0, 0)) ∧ W6.heap[b + 1 + 1 + 1]? = some (.cells #[v0, v1] 32 (0, 0)) ∧
      W6.heap[b + 1 + 1 + 1 + 1]? = some (.cells #[.slice aN k cN, m] 86 (0, 0)) ∧ MvX W6 aN cN k xs ∧ RefRow W6 a7 c7 a8 c8 Q2 := by
  have hm : Mod (fun i => i = b + 1 + 1 + 1) wc ((wc.setCell ⟨b + 1 + 1 + 1, 0, none⟩ v0).setCell ⟨b + 1 + 1 + 1, 1, none⟩ v1) := Mod.set2 _ _ _ _ _
  refine ⟨pu.then hm (fun i hi h => by omega), hm.heap (by omega) r1, hm.heap (by omega) r2, hm.heap (by omega) r3, heap_set12 r4, hm.heap (by omega) r5, ?_, R.modT hm (fun i hi _ => by subst hi; exact ⟨_, _, r4⟩)⟩
  exact owns_mod hN hm (fun g hg h => by have := fN g hg; omega)
theorem lg_next {w W8 : World} {b : Nat} {aL aG a7 aL2 aG2 : Option Addr} {cL cG c7 cL2 cG2 : Nat} {Q Q2 : List RQ} {k : Nat} {x : Ent} {v : Value}
    (hb : w.heap.size = b) (he : Q[k]? = some (x, v, false)) (pu : Pure w W8) (r1 : W8.heap[b]? = some (.cells #[.slice aL Q.length cL, .slice aG Q.length cG] 32 (0, 0)))
    (r2 : W8.heap[b + 1]? = some (.cells #[.slice none 0 0, .slice none 0 0] 32 (0, 0))) (r3 : W8.heap[b + 1 + 1]? = some (.cells #[.slice none 0 0, .int .i64 0] 86 (0, 0)))
    (r4 : W8.heap[b + 1 + 1 + 1]? = some (.cells #[.slice aL2 Q2.length cL2, .slice aG2 Q2.length cG2] 32 (0, 0))) (R : RefRow W8 aL2 cL2 aG2 cG2 Q2) (hq2 : Q2.map absQ = packR ((Q.take k).map absQ) ++ [(x, false)])
    (f2 : ∀ g, (Value.slice aL2 Q2.length cL2).ownBlock = some g → b + 1 + 1 + 1 + 1 < g) (f3 : ∀ g, (Value.slice aG2 Q2.length cG2).ownBlock = some g → b + 1 + 1 + 1 + 1 < g)
    (r5 : W8.heap[b + 1 + 1 + 1 + 1]? = some (.cells #[.slice a7 (k + 1) c7, .int .i64 (oldsQ Q k).length] 86 (0, 0))) (hN : MvX W8 a7 c7 (k + 1) (oldsQ Q (k + 1))) (fN : ∀ g, (Value.slice a7 (k + 1) c7).ownBlock = some g → b + 1 + 1 + 1 + 1 < g) :
    LgInv w b aL cL aG cG Q (k + 1) (W8.setCell ⟨b + 1 + 1 + 1 + 1, 1, none⟩ (.int .i64 ((oldsQ Q k).length + 1))) := by
  have hm : Mod (fun i => i = b + 1 + 1 + 1 + 1) W8 (W8.setCell ⟨b + 1 + 1 + 1 + 1, 1, none⟩ (.int .i64 ((oldsQ Q k).length + 1))) := Mod.set1 _ _ _
  have hlt := (List.getElem?_eq_some_iff.1 he).1
  refine ⟨hlt, pu.then hm (fun i hi h => by omega), hm.heap (by omega) r1, hm.heap (by omega) r2, hm.heap (by omega) r3, ⟨aL2, cL2, aG2, cG2, Q2, by rw [pack_live he]; exact hq2, hm.heap (by omega) r4, R.modM hm (fun i hi _ => by subst hi; exact ⟨_, _, _, r5, .inr (.inl rfl)⟩), f2, f3⟩, a7, c7, ?_, owns_mod hN hm (fun g hg h => by have := fN g hg; omega), fN⟩
  have := heap_set1 (j := 1) (v := .int .i64 ((oldsQ Q k).length + 1)) r5
  rw [oldsQ_live he, List.length_append]
  simpa using this
def refLogPost (w : World) (Q : List RQ) (e : Ending) (w' : World) : Prop :=
  ∃ aL' cL' aG' cG' Q' aN cN, e = .returned (.tuple #[refV aL' cL' aG' cG' Q'.length, .agg #[.slice aN Q.length cN, .int .i64 (olds (slotsR (Q.map absQ))).length]]) ∧ Q'.map absQ = packR (Q.map absQ) ∧ RefRow w' aL' cL' aG' cG' Q' ∧
    MvX w' aN cN Q.length (olds (slotsR (Q.map absQ))) ∧ Fresh w (.slice aL' Q'.length cL') ∧ Pure w w'

set_option maxHeartbeats 1000000 in
theorem ref_Log_any {w : World} {aL : Option Addr} {cL : Nat} {aG : Option Addr} {cG : Nat} {Q : List RQ} (h : RefRow w aL cL aG cG Q) :
    Calls Tryz.prog 94 #[refV aL cL aG cG Q.length] w (refLogPost w Q) := by
  have H := Lib.hid h
  have hlen := h.len
  clear h
  go_enter Tryz.func94, Tryz.ntmps94
  go_wp2
  generalize hb : w.heap.size = b at *
  go_loopw [6] (fun i wr => ∃ k : Nat, i = .int .i64 k ∧ LgInv w b aL cL aG cG Q k wr) (fun i _ => Q.length - (intOf i).toNat)
  case atStart =>
    refine ⟨0, rfl, Nat.zero_le _, by (repeat' (first | (with_reducible exact Mod.refl _ _) | (with_reducible refine Mod.alloc ?_ _) | (with_reducible refine Mod.drew ?_) | (with_reducible refine Mod.drewN ?_ _) | (with_reducible refine Mod.setCell ?_ ?_ _) | (refine Mod.then ?_ (by with_reducible assumption) ?_))) <;> (all_goals (intros; first | (exfalso; assumption) | omega | (simp at *; done) | (simp at *; omega))), heap_keep (heap_keep (heap_keep (heap_keep (heap_new hb.symm)))), heap_keep (heap_keep (heap_keep (heap_new (by simp [hb])))), heap_keep (heap_keep (heap_new (by simp [hb]))), ⟨none, 0, none, 0, [], rfl, heap_keep (heap_new (by simp [hb])), RefRow.nil _, (fun g e => by cases e), (fun g e => by cases e)⟩, none, 0, heap_new (by simp [hb]), World.ownsRow_nil _ _ _ _, (fun g e => by cases e)⟩
  case round =>
    obtain ⟨k, rfl, hI⟩ := hrel
    obtain ⟨hk, hpu, hr1, hr2, hr3, ⟨aL', cL', aG', cG', Q', hq', hr4, hR', hfL, hfG⟩, aN, cN, hr5, hN, hfN⟩ := hI
    have HW := Lib.hid (H.out.pure hpu)
    have HPU := Lib.hid hpu
    have HQ' := Lib.hid hq'; have HR' := Lib.hid hR'; have HFL := Lib.hid hfL; have HFG := Lib.hid hfG; have HN := Lib.hid hN; have HFN := Lib.hid hfN
    clear hpu hq' hR' hfL hfG hN hfN
    have hol := oldsQ_len Q k hk
    have hr1_0 := cell_of_row _ _ 0 _ _ _ hr1; have hr1_1 := cell_of_row _ _ 1 _ _ _ hr1; have hr1_f := (fun j => frozen_of_row _ _ j _ _ hr1); have hr1_l := lt_of_block hr1; simp at hr1_0 hr1_1; have H_hr1 := Lib.hid hr1; clear hr1
    have HR2 := Lib.hid hr2; have HR3 := Lib.hid hr3
    clear hr2 hr3
    have hr4_0 := cell_of_row _ _ 0 _ _ _ hr4; have hr4_1 := cell_of_row _ _ 1 _ _ _ hr4; have hr4_f := (fun j => frozen_of_row _ _ j _ _ hr4); have hr4_l := lt_of_block hr4; simp at hr4_0 hr4_1; have H_hr4 := Lib.hid hr4; clear hr4
    have hr5_0 := cell_of_row _ _ 0 _ _ _ hr5; have hr5_1 := cell_of_row _ _ 1 _ _ _ hr5; have hr5_f := (fun j => frozen_of_row _ _ j _ _ hr5); have hr5_l := lt_of_block hr5; simp at hr5_0 hr5_1; have H_hr5 := Lib.hid hr5; clear hr5
    have hsz : b + 1 + 1 + 1 + 1 < wr.heap.size := hr5_l
    obtain ⟨i0, hi, iz0, iz1, iz2⟩ := info_parts info_int
    by_cases hlt : k < Q.length
    · have hk1 : (k : Int) < (Q.length : Int) := by omega
      have he := List.getElem?_eq_getElem hlt
      generalize Q[k] = q at he
      obtain ⟨x, v, gone⟩ := q
      obtain ⟨g2, _, hsv, _, hg2, hc2, hf2, _⟩ := owns_at HW.out.G (by omega)
      cases hsv
      have sg : wr.cell? ⟨g2, k, none⟩ = some (.bool gone) := hc2 k _ (by rw [List.getElem?_map, he]; rfl)
      have HE := Lib.hid he
      clear hc2 hf2 he
      have hn5 : ∀ g, g ≤ b + 1 + 1 + 1 → ¬ (g = b + 1 + 1 + 1 + 1 ∨ (Value.slice aN k cN).ownBlock = some g) := by
        rintro g hg (h | h)
        · omega
        · have := HFN.out g h; omega
      have hql : Q'.length = (oldsQ Q k).length := by have := congrArg List.length HQ'.out; rw [List.length_map, packR_length] at this; exact this
      have HQL := Lib.hid hql
      have HN5 := Lib.hid hn5
      have hol2 : Q'.length ≤ k := by omega
      clear hql hn5
      cases gone
      · obtain ⟨g3, _, hsv, _, hg3, hc3, hf3, _⟩ := owns_at HW.out.L (by omega)
        cases hsv
        have hcc : ∀ j u, (cellsQ (x, v, false))[j]? = some u → wr.cell? ⟨g3, k * 4 + j, none⟩ = some u := by
          intro j u hu
          have hj : j < 4 := by rw [← cellsQ_length (x, v, false)]; exact (List.getElem?_eq_some_iff.1 hu).1
          refine hc3 _ _ ?_
          rw [flat_get cellsQ 4 cellsQ_length j hj, HE.out]
          exact hu
        have hv := HW.out.vals _ (List.mem_of_getElem? HE.out)
        obtain ⟨va, vc, hve, _⟩ := owns_form hv
        dsimp only at hve
        subst hve
        have s0 : wr.cell? ⟨g3, k * 4, none⟩ = _ := hcc 0 _ rfl; have s1 := hcc 1 _ rfl; have s2 := hcc 2 _ rfl; have s3 := hcc 3 _ rfl
        dsimp only at s0 s1 s2 s3
        have HV := Lib.hid (BytesAt.read hv (bytesOf_one _))
        have hxo := H.out.ok _ (List.mem_of_getElem? HE.out)
        have HXO := Lib.hid hxo
        clear hc3 hf3 hcc hv hxo
        go_upto_region 8 with fail
        clear sg
        go_cut [7, 8] (fun v7 v8 wc => LgMid w b (some ⟨g3, 0, none⟩) cL (some ⟨g2, 0, none⟩) cG Q k (packR ((Q.take k).map absQ) ++ [(x, false)]) Q'.length v7 v8 wc)
        case first =>
          go_region_held3 (fun w' => w'.cell? ⟨b, 0, none⟩ = some (.slice (some ⟨g3, 0, none⟩) Q.length cL) ∧ w'.cell? ⟨b + 1 + 1 + 1, 0, none⟩ = some (.slice aL' Q'.length cL') ∧ w'.cell? ⟨b + 1 + 1 + 1, 1, none⟩ = some (.slice aG' Q'.length cG') ∧ w'.cell? ⟨g3, k * 4, none⟩ = some (.string x.key) ∧ w'.cell? ⟨g3, k * 4 + 1, none⟩ = some (.slice va (bytesOf x.val).length vc) ∧ w'.cell? ⟨g3, k * 4 + 2, none⟩ = some (.int .u64 x.dl) ∧ w'.cell? ⟨g3, k * 4 + 3, none⟩ = some (.int .u64 x.birth))
            (first | go_keep | exact ⟨(Mod.set2 _ _ _ _ _).cell (by simp; omega) y0, (Mod.set2 _ _ _ _ _).cell (by simp; omega) y1, (Mod.set2 _ _ _ _ _).cell (by simp; omega) y2, (Mod.set2 _ _ _ _ _).cell (by simp; omega) y3, (Mod.set2 _ _ _ _ _).cell (by simp; omega) y4, (Mod.set2 _ _ _ _ _).cell (by simp; omega) y5, (Mod.set2 _ _ _ _ _).cell (by simp; omega) y6⟩)
            (first | (go_at_call 23; refine Calls.mono (ref_Append (HR'.out.pure (by (repeat' (first | (with_reducible exact Mod.refl _ _) | (with_reducible refine Mod.alloc ?_ _) | (with_reducible refine Mod.drew ?_) | (with_reducible refine Mod.drewN ?_ _) | (with_reducible refine Mod.setCell ?_ ?_ _) | (refine Mod.then ?_ (by with_reducible assumption) ?_))) <;> (all_goals (intros; first | (exfalso; assumption) | omega | (simp at *; done) | (simp at *; omega))))) (by omega) x HXO.out va _ vc (HV.out.frame (S := fun _ => False) (by (repeat' (first | (with_reducible exact Mod.refl _ _) | (with_reducible refine Mod.alloc ?_ _) | (with_reducible refine Mod.drew ?_) | (with_reducible refine Mod.drewN ?_ _) | (with_reducible refine Mod.setCell ?_ ?_ _) | (refine Mod.then ?_ (by with_reducible assumption) ?_))) <;> (all_goals (intros; first | (exfalso; assumption) | omega | (simp at *; done) | (simp at *; omega)))) (fun _ _ h => h))) ?_; rintro e w1 ⟨aL2, cL2, aG2, cG2, Q2, rfl, hq2, hR2, hf2, hf3, hp1⟩; have hq1 : Pure wr w1 := Mod.trans (by (repeat' (first | (with_reducible exact Mod.refl _ _) | (with_reducible refine Mod.alloc ?_ _) | (with_reducible refine Mod.drew ?_) | (with_reducible refine Mod.drewN ?_ _) | (with_reducible refine Mod.setCell ?_ ?_ _) | (refine Mod.then ?_ (by with_reducible assumption) ?_)))) hp1; have y0 := hq1.cell (fun h => h) hr1_0; have y1 := hq1.cell (fun h => h) hr4_0; have y2 := hq1.cell (fun h => h) hr4_1; have y3 := hq1.cell (fun h => h) s0; have y4 := hq1.cell (fun h => h) s1; have y5 := hq1.cell (fun h => h) s2; have y6 := hq1.cell (fun h => h) s3; (try (have zb := hp1.heap (fun h => h) (heap_new (w := wr.drew) (o := .cells #[.slice none 0 0, .slice none 0 0] 32 (0, 0)) (n := wr.heap.size) rfl); have zb_0 := cell_of_row _ _ 0 _ _ _ zb; have zb_1 := cell_of_row _ _ 1 _ _ _ zb; have zb_f := (fun j => frozen_of_row _ _ j _ _ zb); have zb_l := lt_of_block zb; simp at zb_0 zb_1; have H_zb := Lib.hid zb; clear zb)); have HQ1 := Lib.hid hq1; have HQ2 := Lib.hid hq2; have HR2' := Lib.hid hR2; have HF2 := Lib.hid hf2; have HF3 := Lib.hid hf3; have HP1 := Lib.hid hp1; clear hq1 hq2 hR2 hf2 hf3 hp1))
          all_goals
            clear s0 s1 s2 s3 y0 y1 y2 y3 y4 y5 y6
            go_wp2_with fail
            go_meet
            first
              | exact lg_mid HPU.out H_hr1.out HR2.out HR3.out H_hr4.out H_hr5.out HN.out HFN.out (HQ1.out.alloc _) (by have := HQ1.out.size; omega) (heap_new rfl) (HR2'.out.pure ((Mod.refl _ _).alloc _)) (by rw [HQ2.out, HQ'.out]) (fun g hg => by have := HF2.out g hg; (try simp at this); omega) (fun g hg => by have := HF3.out g hg; (try simp at this); omega)
              | exact lg_mid HPU.out H_hr1.out HR2.out HR3.out H_hr4.out H_hr5.out HN.out HFN.out (HQ1.out.then (Mod.set2 _ _ _ _ _) (fun i hi h => by omega)) hsz (heap_set12 H_zb.out) (HR2'.out.modT (Mod.set2 _ _ _ _ _) (fun i hi _ => by subst hi; exact ⟨_, _, H_zb.out⟩)) (by rw [HQ2.out, HQ'.out]) (fun g hg => by have := HF2.out g hg; (try simp at this); omega) (fun g hg => by have := HF3.out g hg; (try simp at this); omega)
        case rest =>
          obtain ⟨hpu, k1, k2, k3, ⟨u0, u1, k4⟩, ⟨b7, aL2, cL2, aG2, cG2, Q2, rfl, rfl, hb7, hq2, k7, hR2, hf2, hf3⟩, aN2, cN2, k5, hN2, hfN2⟩ := hcut
          clear s0 s1 s2 s3
          clear hr1_0 hr1_1 hr1_f hr1_l
          clear hr4_0 hr4_1 hr4_f hr4_l
          clear hr5_0 hr5_1 hr5_f hr5_l
          have J := lg_mid2 (b := b) hpu k1 k2 k3 k4 k5 hN2 hfN2 hR2 (.slice aL2 Q2.length cL2) (.slice aG2 Q2.length cG2) (by omega)
          have HQ2 := Lib.hid hq2; have HF2 := Lib.hid hf2; have HF3 := Lib.hid hf3
          clear hq2 hf2 hf3 hpu k1 k2 k3 k5 hN2 hR2
          have k4_0 := cell_of_row _ _ 0 _ _ _ k4; have k4_1 := cell_of_row _ _ 1 _ _ _ k4; have k4_f := (fun j => frozen_of_row _ _ j _ _ k4); have k4_l := lt_of_block k4; simp at k4_0 k4_1; have H_k4 := Lib.hid k4; clear k4
          have k7_0 := cell_of_row _ _ 0 _ _ _ k7; have k7_1 := cell_of_row _ _ 1 _ _ _ k7; have k7_f := (fun j => frozen_of_row _ _ j _ _ k7); have k7_l := lt_of_block k7; simp at k7_0 k7_1; have H_k7 := Lib.hid k7; clear k7
          go_upto_region 10 with fail
          clear k4_0 k4_1 k4_f k4_l
          clear k7_0 k7_1 k7_f k7_l
          generalize (wc.setCell ⟨b + 1 + 1 + 1, 0, none⟩ (.slice aL2 Q2.length cL2)).setCell ⟨b + 1 + 1 + 1, 1, none⟩ (.slice aG2 Q2.length cG2) = W6 at J ⊢
          obtain ⟨j0, j1, j2, j3, j4, j5, jN, jR⟩ := J
          have J0 := Lib.hid j0; have J1 := Lib.hid j1; have J2 := Lib.hid j2; have J3 := Lib.hid j3; have J4 := Lib.hid j4; have JN := Lib.hid jN; have JR := Lib.hid jR; have HFN2 := Lib.hid hfN2
          clear j0 j1 j2 j3 j4 jN jR hfN2
          have j5_0 := cell_of_row _ _ 0 _ _ _ j5; have j5_1 := cell_of_row _ _ 1 _ _ _ j5; have j5_f := (fun j => frozen_of_row _ _ j _ _ j5); have j5_l := lt_of_block j5; simp at j5_0 j5_1; have H_j5 := Lib.hid j5; clear j5
          go_upto_region 11 with (at_builtin; refine wpList_append_read _ rfl _ _ 84 rfl 3 i0 _ 1 8 Tryz.underlying84 hi iz0 iz1 iz2 rfl (by decide) (.slice aN2 k cN2) k (ints (newX (oldsQ Q k) k)) rfl (owns_mod JN.out ((Mod.refl (fun _ => False) W6).alloc _) (fun _ _ h => h)) _ [.int .i64 (Q'.length : Int)] 1 rfl (ReadAt.of_block 1 1 1 (heap_new rfl) (by rfl) (by simp [Value.oneCell'])) rfl (by unfold maxLen; omega) (by omega) ?_; intro a7 c7 w5 hr7 hg7 hb7; have m7 := Mod.heap (Mod.of_grown (S := fun k' => (Value.slice aN2 k cN2).ownBlock = some k') hg7 (fun k e _ => e)) (fun e => (by have := HFN2.out _ e; omega)) (heap_keep H_j5.out); have m7_0 := cell_of_row _ _ 0 _ _ _ m7; have m7_1 := cell_of_row _ _ 1 _ _ _ m7; have m7_f := (fun j => frozen_of_row _ _ j _ _ m7); have m7_l := lt_of_block m7; simp at m7_0 m7_1; have H_m7 := Lib.hid m7; clear m7)
          have L := lg_append (ys := oldsQ Q (k + 1)) H_j5.out JN.out ((Mod.refl _ W6).alloc _) hr7 (by rw [oldsQ_live HE.out, HQL.out]; exact newX_live (oldsQ_lt Q k)) hg7 hb7
          obtain ⟨L1, L2, L3, L4⟩ := L
          clear m7_0 m7_1 m7_f m7_l H_m7 hr7 hg7 hb7
          generalize w5.setCell ⟨b + 1 + 1 + 1 + 1, 0, none⟩ (.slice a7 (k + 1) c7) = W8 at L1 L2 L3 ⊢
          have hn5 : ∀ g, g ≤ b + 1 + 1 + 1 → ¬ (g = b + 1 + 1 + 1 + 1 ∨ (Value.slice aN2 k cN2).ownBlock = some g) := by
            rintro g hg (h | h)
            · omega
            · have := HFN2.out g h; omega
          have hfin := lg_next (b := b) hb HE.out (J0.out.then L3 (fun i hi h => hn5 i (by omega) h)) (L3.heap (hn5 _ (by omega)) J1.out) (L3.heap (hn5 _ (by omega)) J2.out) (L3.heap (hn5 _ (by omega)) J3.out) (L3.heap (hn5 _ (by omega)) J4.out) (JR.out.modM L3 (fun i hi _ => by
            rcases hi with rfl | hi
            · exact ⟨_, _, _, H_j5.out, .inr (.inl rfl)⟩
            · obtain ⟨c, e⟩ := owns_type JN.out hi
              exact ⟨_, _, _, e, .inr (.inr rfl)⟩)) HQ2.out HF2.out HF3.out L1 L2 (fun g hg => by
            rcases L4 g hg with h | h
            · exact HFN2.out g h
            · omega)
          clear j5_0 j5_1 j5_f j5_l
          have HFIN := Lib.hid hfin
          clear hfin L2 L3 L4 hn5
          have L1_0 := cell_of_row _ _ 0 _ _ _ L1; have L1_1 := cell_of_row _ _ 1 _ _ _ L1; have L1_f := (fun j => frozen_of_row _ _ j _ _ L1); have L1_l := lt_of_block L1; simp at L1_0 L1_1; have H_L1 := Lib.hid L1; clear L1
          go_upto_region 5 with fail
          clear L1_0 L1_1 L1_f L1_l
          go_wp2
          go_roundw
          case rel => exact ⟨k + 1, by go_num, HFIN.out⟩
          case measure => simp [intOf]; omega
      · go_upto_region 5 with (at_builtin; refine wpList_append_read _ rfl _ _ 84 rfl 3 i0 _ 1 8 Tryz.underlying84 hi iz0 iz1 iz2 rfl (by decide) (.slice aN k cN) k (ints (newX (oldsQ Q k) k)) rfl (owns_mod HN.out ((Mod.refl (fun _ => False) wr).alloc _) (fun _ _ h => h)) _ [.int .i64 (-1)] 1 rfl (ReadAt.of_block 1 1 1 (heap_new rfl) (by rfl) (by simp [Value.oneCell'])) rfl (by unfold maxLen; omega) (by omega) ?_; intro a7 c7 w5 hr7 hg7 hb7; have m7 := Mod.heap (Mod.of_grown (S := fun k' => (Value.slice aN k cN).ownBlock = some k') hg7 (fun k e _ => e)) (fun e => (by have := HFN.out _ e; omega)) (heap_keep H_hr5.out); have m7_0 := cell_of_row _ _ 0 _ _ _ m7; have m7_1 := cell_of_row _ _ 1 _ _ _ m7; have m7_f := (fun j => frozen_of_row _ _ j _ _ m7); have m7_l := lt_of_block m7; simp at m7_0 m7_1; have H_m7 := Lib.hid m7; clear m7)
        have L := lg_append (ys := oldsQ Q (k + 1)) H_hr5.out HN.out ((Mod.refl _ wr).alloc _) hr7 (by rw [oldsQ_gone HE.out]; exact newX_gone (oldsQ_lt Q k)) hg7 hb7
        obtain ⟨L1, L2, L3, L4⟩ := L
        clear m7_0 m7_1 m7_f m7_l H_m7 hr7 hg7 hb7 sg
        clear hr4_0 hr4_1 hr4_f hr4_l
        clear hr5_0 hr5_1 hr5_f hr5_l
        generalize w5.setCell ⟨b + 1 + 1 + 1 + 1, 0, none⟩ (.slice a7 (k + 1) c7) = W6 at L1 L2 L3 ⊢
        have K1 := Lib.hid L1; have K2 := Lib.hid L2; have K3 := Lib.hid L3; have K4 := Lib.hid L4
        clear L1 L2 L3 L4
        go_wp2
        go_roundw
        case rel =>
          refine ⟨k + 1, by go_num, by omega, HPU.out.then K3.out (fun i hi h => by rcases h with h | h; omega; have := HFN.out i h; omega), K3.out.heap (HN5.out _ (by omega)) H_hr1.out, K3.out.heap (HN5.out _ (by omega)) HR2.out, K3.out.heap (HN5.out _ (by omega)) HR3.out, ⟨aL', cL', aG', cG', Q', by rw [pack_gone HE.out]; exact HQ'.out, K3.out.heap (HN5.out _ (by omega)) H_hr4.out, ?_, HFL.out, HFG.out⟩, a7, c7, by rw [oldsQ_gone HE.out]; exact K1.out, K2.out, fun g hg => ?_⟩
          · refine HR'.out.modM K3.out (fun i hi _ => ?_)
            rcases hi with rfl | hi
            · exact ⟨_, _, _, H_hr5.out, .inr (.inl rfl)⟩
            · obtain ⟨c, e⟩ := owns_type HN.out hi
              exact ⟨_, _, _, e, .inr (.inr rfl)⟩
          · rcases K4.out g hg with h | h
            · exact HFN.out g h
            · omega
        case measure => simp [intOf]; omega
    · go_upto_region 12 with fail
      have hkk : Q.length = k := by omega
      have HKK := Lib.hid hkk
      clear hkk
      have hr2 := HR2.out; have hr3 := HR3.out
      have hr2_0 := cell_of_row _ _ 0 _ _ _ hr2; have hr2_1 := cell_of_row _ _ 1 _ _ _ hr2; have hr2_f := (fun j => frozen_of_row _ _ j _ _ hr2); have hr2_l := lt_of_block hr2; simp at hr2_0 hr2_1; have H_hr2 := Lib.hid hr2; clear hr2
      have hr3_0 := cell_of_row _ _ 0 _ _ _ hr3; have hr3_1 := cell_of_row _ _ 1 _ _ _ hr3; have hr3_f := (fun j => frozen_of_row _ _ j _ _ hr3); have hr3_l := lt_of_block hr3; simp at hr3_0 hr3_1; have H_hr3 := Lib.hid hr3; clear hr3
      go_region
      go_wp2
      refine bodyPost_ret (v := .tuple #[refV aL' cL' aG' cG' Q'.length, .agg #[.slice aN k cN, .int .i64 (oldsQ Q k).length]]) (by simp [results, Tryz.results94, go_sem, hr2_0, hr2_1, hr3_0, hr3_1, hr2_f, hr3_f]) rfl ?_
      have hm1 : Mod (fun i => i = b + 1) wr ((wr.setCell ⟨b + 1, 0, none⟩ (.slice aL' Q'.length cL')).setCell ⟨b + 1, 1, none⟩ (.slice aG' Q'.length cG')) := Mod.set2 _ _ _ _ _
      have R1 := HR'.out.modT hm1 (fun i hi _ => by subst hi; exact ⟨_, _, H_hr2.out⟩)
      have r3 := hm1.heap (by omega) H_hr3.out
      have N1 := owns_mod HN.out hm1 (fun g hg h => by have := HFN.out g hg; omega)
      generalize (wr.setCell ⟨b + 1, 0, none⟩ (.slice aL' Q'.length cL')).setCell ⟨b + 1, 1, none⟩ (.slice aG' Q'.length cG') = W7 at hm1 R1 r3 N1 ⊢
      have hm2 : Mod (fun i => i = b + 1 + 1) W7 (((W7.setCell ⟨b + 1 + 1, 0, none⟩ (.slice aN k cN)).setCell ⟨b + 1 + 1, 1, none⟩ (.int .i64 (oldsQ Q k).length)).drew) := (Mod.set2 _ _ _ _ _).drew
      have R2 := R1.modM hm2 (fun i hi _ => by subst hi; exact ⟨_, _, _, r3, .inr (.inl rfl)⟩)
      have N2 := owns_mod N1 hm2 (fun g hg h => by have := HFN.out g hg; omega)
      refine ⟨aL', cL', aG', cG', Q', aN, cN, by rw [← oldsQ_all, HKK.out], by rw [HQ'.out, ← HKK.out, List.take_length], R2, ?_, fun g hg => by have := HFL.out g hg; omega, (HPU.out.then hm1 (fun i hi h => by omega)).then hm2 (fun i hi h => by omega)⟩
      rw [← oldsQ_all, HKK.out]
      exact N2
end Go.Proofs.YtapplindfijngaaGreat
