/- law11.same answers true for a log and the reference's log of the same slots. Conditions: both are made of valid entries. -/
import Derived.Test.YtbjiebhbmpafpaaMade2
namespace Go.Proofs.Ytbjiebhbmpafpaa
open Go.RowKit Go.Shelf
set_option maxRecDepth 100000

@[go_sem] theorem eql_nil_log (w : World) (a : Addr) : (binOp .eql 26 (.pointer (some a)) (.pointer none)).run Try.prog w = .ok (.bool false) w := by
  simp [go_sem]
theorem liveQ_slots (Q : List RQ) : liveQ Q = liveOf (slotsR (Q.map absQ)) := by
  unfold liveQ liveOf slotsR
  rw [List.map_map, List.countP_map]
  refine List.countP_congr (fun q _ => ?_)
  obtain ⟨x, v, g⟩ := q
  cases g <;> simp [absQ]
structure SmInv (w : World) (b : Nat) (aL : Option Addr) (cL : Nat) (aG : Option Addr) (cG n : Nat) (wr : World) : Prop where
  pu : Pure w wr
  r3 : wr.heap[b]? = some (.cells #[.slice aL n cL, .slice aG n cG] 30 (0, 0))
theorem SmInv.pure {w : World} {b : Nat} {aL : Option Addr} {cL : Nat} {aG : Option Addr} {cG n : Nat} {wr wr' : World} (h : SmInv w b aL cL aG cG n wr) (hq : Pure wr wr') : SmInv w b aL cL aG cG n wr' := ⟨h.pu.trans hq, hq.heap (fun h => h) h.r3⟩

/-- What both Get say of a slot. -/
theorem same_slot {Q : List RQ} {i : Nat} : (∃ x v, Q[i]? = some (x, v, false) ∧ (slotsR (Q.map absQ))[i]? = some (some x)) ∨ ((∀ x, (slotsR (Q.map absQ))[i]? ≠ some (some x)) ∧ ∀ x v, Q[i]? ≠ some (x, v, false)) := by
  cases e : Q[i]? with
  | none => exact .inr ⟨(fun x h => by unfold slotsR at h; rw [List.getElem?_map, List.getElem?_map, e] at h; cases h), (fun x v h => by cases h)⟩
  | some q =>
    obtain ⟨x, v, g⟩ := q
    cases g
    · exact .inl ⟨x, v, rfl, by unfold slotsR; rw [List.getElem?_map, List.getElem?_map, e]; rfl⟩
    · exact .inr ⟨(fun y h => by unfold slotsR at h; rw [List.getElem?_map, List.getElem?_map, e] at h; cases h), (fun y u h => by cases h)⟩
theorem getA_hit {w : World} {D : Nat → Prop} {p : Nat} {L : List (Option Ent)} (h : LogAt w D p L) (i : Nat) (x : Ent) (hi : L[i]? = some (some x)) : Calls Try.prog 28 #[logPtr p, .int .u32 i] w (getPost (some x) w) := by
  obtain ⟨sv, M, rfl, h⟩ := h
  rw [List.getElem?_map] at hi
  cases e : M[i]? with
  | none => rw [e] at hi; cases hi
  | some m =>
    obtain ⟨o, v⟩ := m
    rw [e] at hi
    cases hi
    exact Get_hit h e
theorem getA_miss {w : World} {D : Nat → Prop} {p : Nat} {L : List (Option Ent)} (h : LogAt w D p L) (i : Nat) (hu : i ≤ 4294967295) (hi : ∀ x, L[i]? ≠ some (some x)) : Calls Try.prog 28 #[logPtr p, .int .u32 i] w (getPost none w) := by
  obtain ⟨sv, M, rfl, h⟩ := h
  refine Get_miss h hu ?_
  unfold slotOf
  cases e : M[i]? with
  | none => rfl
  | some m =>
    obtain ⟨o, v⟩ := m
    cases o with
    | none => rfl
    | some x => exact absurd (by rw [List.getElem?_map, e]; rfl) (hi x)
theorem refGet_hit {w : World} {aL : Option Addr} {cL : Nat} {aG : Option Addr} {cG : Nat} {Q : List RQ} (h : RefRow w aL cL aG cG Q) (s : Nat) (hs : s ≤ 4294967295) (x : Ent) (v : Value) (hi : Q[s]? = some (x, v, false)) :
    Calls Try.prog 75 #[refV aL cL aG cG Q.length, .int .u32 s] w fun e w' => e = .returned (.tuple #[.agg #[.string x.key, v, .int .u64 x.dl, .int .u64 x.birth], .int .i64 0]) ∧ Pure w w' := by
  refine Calls.mono (ref_Get h s hs) ?_
  rintro e w' ⟨h1, h2⟩
  rw [hi] at h2
  exact ⟨h2, h1⟩
theorem refGet_miss {w : World} {aL : Option Addr} {cL : Nat} {aG : Option Addr} {cG : Nat} {Q : List RQ} (h : RefRow w aL cL aG cG Q) (s : Nat) (hs : s ≤ 4294967295) (hi : ∀ x v, Q[s]? ≠ some (x, v, false)) :
    Calls Try.prog 75 #[refV aL cL aG cG Q.length, .int .u32 s] w fun e w' => e = .returned (.tuple #[.agg #[.string ⟨#[]⟩, .slice none 0 0, .int .u64 0, .int .u64 0], .int .i64 9]) ∧ Pure w w' := by
  refine Calls.mono (ref_Get h s hs) ?_
  rintro e w' ⟨h1, h2⟩
  split at h2
  · rename_i e; exact absurd e (hi _ _)
  · exact ⟨h2, h1⟩
theorem ref_Equal_zero {w : World} : Calls Try.prog 29 #[.agg #[.string ⟨#[]⟩, .slice none 0 0, .int .u64 0, .int .u64 0], .agg #[.string ⟨#[]⟩, .slice none 0 0, .int .u64 0, .int .u64 0]] w fun e w' => e = .returned (.bool true) ∧ Pure w w' :=
  ref_Equal_same ⟨⟨#[]⟩, [], 0, 0⟩ none none 0 0 0 0 (ReadAt.nil _ _) (ReadAt.nil _ _)

set_option maxHeartbeats 1000000 in
theorem same_true {w : World} {D : Nat → Prop} {p : Nat} {aL : Option Addr} {cL : Nat} {aG : Option Addr} {cG : Nat} {Q : List RQ} (h : LogAt w D p (slotsR (Q.map absQ))) (hR : RefRow w aL cL aG cG Q) :
    Calls Try.prog 33 #[logPtr p, refV aL cL aG cG Q.length] w fun e w' => e = .returned (.bool true) ∧ Pure w w' := by
  have H := Lib.hid h
  have HR := Lib.hid hR
  have hlen := hR.len
  have hlq := liveQ_slots Q
  have hsl : (slotsR (Q.map absQ)).length = Q.length := by rw [slotsR_length, List.length_map]
  have HLQ := Lib.hid hlq; have HSL := Lib.hid hsl
  have hI : SmInv w w.heap.size aL cL aG cG Q.length (w.alloc (.cells #[.slice aL Q.length cL, .slice aG Q.length cG] 30)) := ⟨(Mod.refl _ w).alloc _, heap_new rfl⟩
  have HI := Lib.hid hI
  clear h hR hlq hsl hI
  go_enter Try.func33, Try.ntmps33
  go_upto_region 1 with fail
  generalize w.alloc (.cells #[.slice aL Q.length cL, .slice aG Q.length cG] 30) = W at HI ⊢
  generalize w.heap.size = b at HI ⊢
  have hr := HI.out.r3
  have hr_0 := cell_of_row _ _ 0 _ _ _ hr; have hr_1 := cell_of_row _ _ 1 _ _ _ hr; have hr_f := (fun j => frozen_of_row _ _ j _ _ hr); have hr_l := lt_of_block hr; simp at hr_0 hr_1; have H_hr := Lib.hid hr; clear hr
  go_region_held3 (fun w' => w'.cell? ⟨b, 0, none⟩ = some (.slice aL Q.length cL) ∧ w'.cell? ⟨b, 1, none⟩ = some (.slice aG Q.length cG)) (go_keep)
    (first
      | (go_at_call 25; refine Calls.mono (lenA (H.out.pure (Mod.trans HI.out.pu (by (repeat' (first | (with_reducible exact Mod.refl _ _) | (with_reducible refine Mod.alloc ?_ _) | (with_reducible refine Mod.drew ?_) | (with_reducible refine Mod.drewN ?_ _) | (with_reducible refine Mod.setCell ?_ ?_ _) | (refine Mod.then ?_ (by with_reducible assumption) ?_))))))) ?_; rintro e w1 ⟨rfl, rfl⟩; rw [HSL.out])
      | (go_at_call 26; refine Calls.mono (liveA (H.out.pure (Mod.trans HI.out.pu (by (repeat' (first | (with_reducible exact Mod.refl _ _) | (with_reducible refine Mod.alloc ?_ _) | (with_reducible refine Mod.drew ?_) | (with_reducible refine Mod.drewN ?_ _) | (with_reducible refine Mod.setCell ?_ ?_ _) | (refine Mod.then ?_ (by with_reducible assumption) ?_))))))) ?_; rintro e w1 ⟨rfl, rfl⟩; rw [← HLQ.out])
      | (go_at_call 74; refine Calls.mono (ref_Live (HR.out.pure (Mod.trans HI.out.pu (by (repeat' (first | (with_reducible exact Mod.refl _ _) | (with_reducible refine Mod.alloc ?_ _) | (with_reducible refine Mod.drew ?_) | (with_reducible refine Mod.drewN ?_ _) | (with_reducible refine Mod.setCell ?_ ?_ _) | (refine Mod.then ?_ (by with_reducible assumption) ?_))))))) ?_; rintro e w1 ⟨rfl, hq⟩; have hq1 : Pure W w1 := Mod.of_drew hq; have y0 := hq1.cell (fun h => h) hr_0; have y1 := hq1.cell (fun h => h) hr_1; have HQ1 := Lib.hid hq1; clear hq hq1))
  replace HI := Lib.hid (HI.out.pure HQ1.out)
  clear y0 y1 HQ1
  clear hr_0 hr_1 hr_f hr_l
  go_wp2
  go_loopw [5] (fun i wr => ∃ k : Nat, k ≤ Q.length + 1 ∧ i = .int .i64 k ∧ SmInv w b aL cL aG cG Q.length wr) (fun i _ => Q.length + 1 - (intOf i).toNat)
  case atStart => exact ⟨0, by omega, rfl, HI.out⟩
  case round =>
    obtain ⟨k, hk, rfl, hI⟩ := hrel
    have HI := Lib.hid hI
    clear hI
    have hr := HI.out.r3
    have hr_0 := cell_of_row _ _ 0 _ _ _ hr; have hr_1 := cell_of_row _ _ 1 _ _ _ hr; have hr_f := (fun j => frozen_of_row _ _ j _ _ hr); have hr_l := lt_of_block hr; simp at hr_0 hr_1; have H_hr := Lib.hid hr; clear hr
    by_cases hlt : k ≤ Q.length
    · have hk1 : (k : Int) ≤ (Q.length : Int) := by omega
      have hk2 : (k : Int) ≤ 4294967295 := by omega
      rcases same_slot (Q := Q) (i := k) with ⟨x, v, hq, hx⟩ | ⟨hx, hq⟩
      · obtain ⟨va, vc, hve, _⟩ := owns_form (HR.out.vals _ (List.mem_of_getElem? hq))
        dsimp only at hve
        subst hve
        have HQs := Lib.hid hq; have HX := Lib.hid hx
        clear hq hx
        go_upto_region 7 with (go_at_call 28; refine Calls.mono (getA_hit (H.out.pure HI.out.pu) k x HX.out) ?_; rintro e w1 ⟨a1, n1, c1, rfl, hb1, hf1, hp1⟩)
        have hal : Pure w1 (w1.alloc (.cells #[.string x.key, .slice a1 n1 c1, .int .u64 x.dl, .int .u64 x.birth] 48)) := (Mod.refl _ w1).alloc _
        have z6 := heap_new (w := w1) (o := .cells #[.string x.key, .slice a1 n1 c1, .int .u64 x.dl, .int .u64 x.birth] 48 (0, 0)) rfl
        have hrd := (hb1.read (bytesOf_one _)).frame hal (fun _ _ h => h)
        replace HI := Lib.hid ((HI.out.pure hp1).pure hal)
        generalize w1.alloc (.cells #[.string x.key, .slice a1 n1 c1, .int .u64 x.dl, .int .u64 x.birth] 48) = W1 at z6 hrd HI ⊢
        generalize w1.heap.size = b6 at z6 ⊢
        have HRD := Lib.hid hrd; have HZ6 := Lib.hid z6
        clear hr_0 hr_1 hr_f hr_l
        clear hal hp1 hb1 hf1 hrd z6
        have hr := HI.out.r3
        have hr_0 := cell_of_row _ _ 0 _ _ _ hr; have hr_1 := cell_of_row _ _ 1 _ _ _ hr; have hr_f := (fun j => frozen_of_row _ _ j _ _ hr); have hr_l := lt_of_block hr; simp at hr_0 hr_1; have H_hr := Lib.hid hr; clear hr
        go_upto_region 8 with (go_at_call 75; refine Calls.mono (refGet_hit (HR.out.pure HI.out.pu) k (by omega) x _ HQs.out) ?_; rintro e w2 ⟨rfl, hp2⟩)
        have hal : Pure w2 (w2.alloc (.cells #[.string x.key, .slice va (bytesOf x.val).length vc, .int .u64 x.dl, .int .u64 x.birth] 48)) := (Mod.refl _ w2).alloc _
        have z8 := heap_new (w := w2) (o := .cells #[.string x.key, .slice va (bytesOf x.val).length vc, .int .u64 x.dl, .int .u64 x.birth] 48 (0, 0)) rfl
        replace HI := Lib.hid ((HI.out.pure hp2).pure hal)
        have z6 := hal.heap (fun h => h) (hp2.heap (fun h => h) HZ6.out)
        have HRD1 := Lib.hid (HRD.out.frame (hp2.trans hal) (fun _ _ h => h))
        generalize w2.alloc (.cells #[.string x.key, .slice va (bytesOf x.val).length vc, .int .u64 x.dl, .int .u64 x.birth] 48) = W2 at z6 z8 HRD1 HI ⊢
        generalize w2.heap.size = b8 at z8 ⊢
        have HRD2 := Lib.hid (BytesAt.read (HR.out.pure HI.out.pu |>.vals _ (List.mem_of_getElem? HQs.out)) (bytesOf_one _))
        clear hr_0 hr_1 hr_f hr_l
        clear hal hp2
        have z6_0 := cell_of_row _ _ 0 _ _ _ z6; have z6_1 := cell_of_row _ _ 1 _ _ _ z6; have z6_2 := cell_of_row _ _ 2 _ _ _ z6; have z6_3 := cell_of_row _ _ 3 _ _ _ z6; have z6_f := (fun j => frozen_of_row _ _ j _ _ z6); have z6_l := lt_of_block z6; simp at z6_0 z6_1 z6_2 z6_3; have H_z6 := Lib.hid z6; clear z6
        have z8_0 := cell_of_row _ _ 0 _ _ _ z8; have z8_1 := cell_of_row _ _ 1 _ _ _ z8; have z8_2 := cell_of_row _ _ 2 _ _ _ z8; have z8_3 := cell_of_row _ _ 3 _ _ _ z8; have z8_f := (fun j => frozen_of_row _ _ j _ _ z8); have z8_l := lt_of_block z8; simp at z8_0 z8_1 z8_2 z8_3; have H_z8 := Lib.hid z8; clear z8
        go_upto_region 5 with (go_at_call 29; refine Calls.mono (ref_Equal_same x a1 va n1 _ c1 vc HRD1.out HRD2.out) ?_; rintro e w3 ⟨rfl, hp3⟩; replace HI := Lib.hid (HI.out.pure hp3); clear hp3)
        go_wp2
        go_roundw
        case rel => exact ⟨k + 1, by omega, by go_num, HI.out⟩
        case measure => simp [intOf]; omega
      · have HQs := Lib.hid hq; have HX := Lib.hid hx
        clear hq hx
        go_upto_region 7 with (go_at_call 28; refine Calls.mono (getA_miss (H.out.pure HI.out.pu) k (by omega) HX.out) ?_; rintro e w1 ⟨rfl, hp1⟩)
        have hal : Pure w1 (w1.alloc (.cells #[.string ⟨#[]⟩, .slice none 0 0, .int .u64 0, .int .u64 0] 48)) := (Mod.refl _ w1).alloc _
        have z6 := heap_new (w := w1) (o := .cells #[.string ⟨#[]⟩, .slice none 0 0, .int .u64 0, .int .u64 0] 48 (0, 0)) rfl
        replace HI := Lib.hid ((HI.out.pure hp1).pure hal)
        generalize w1.alloc (.cells #[.string ⟨#[]⟩, .slice none 0 0, .int .u64 0, .int .u64 0] 48) = W1 at z6 HI ⊢
        generalize w1.heap.size = b6 at z6 ⊢
        have HZ6 := Lib.hid z6
        clear hr_0 hr_1 hr_f hr_l
        clear hal hp1 z6
        have hr := HI.out.r3
        have hr_0 := cell_of_row _ _ 0 _ _ _ hr; have hr_1 := cell_of_row _ _ 1 _ _ _ hr; have hr_f := (fun j => frozen_of_row _ _ j _ _ hr); have hr_l := lt_of_block hr; simp at hr_0 hr_1; have H_hr := Lib.hid hr; clear hr
        go_upto_region 8 with (go_at_call 75; refine Calls.mono (refGet_miss (HR.out.pure HI.out.pu) k (by omega) HQs.out) ?_; rintro e w2 ⟨rfl, hp2⟩)
        have hal : Pure w2 (w2.alloc (.cells #[.string ⟨#[]⟩, .slice none 0 0, .int .u64 0, .int .u64 0] 48)) := (Mod.refl _ w2).alloc _
        have z8 := heap_new (w := w2) (o := .cells #[.string ⟨#[]⟩, .slice none 0 0, .int .u64 0, .int .u64 0] 48 (0, 0)) rfl
        replace HI := Lib.hid ((HI.out.pure hp2).pure hal)
        have z6 := hal.heap (fun h => h) (hp2.heap (fun h => h) HZ6.out)
        generalize w2.alloc (.cells #[.string ⟨#[]⟩, .slice none 0 0, .int .u64 0, .int .u64 0] 48) = W2 at z6 z8 HI ⊢
        generalize w2.heap.size = b8 at z8 ⊢
        clear hr_0 hr_1 hr_f hr_l
        clear hal hp2
        have z6_0 := cell_of_row _ _ 0 _ _ _ z6; have z6_1 := cell_of_row _ _ 1 _ _ _ z6; have z6_2 := cell_of_row _ _ 2 _ _ _ z6; have z6_3 := cell_of_row _ _ 3 _ _ _ z6; have z6_f := (fun j => frozen_of_row _ _ j _ _ z6); have z6_l := lt_of_block z6; simp at z6_0 z6_1 z6_2 z6_3; have H_z6 := Lib.hid z6; clear z6
        have z8_0 := cell_of_row _ _ 0 _ _ _ z8; have z8_1 := cell_of_row _ _ 1 _ _ _ z8; have z8_2 := cell_of_row _ _ 2 _ _ _ z8; have z8_3 := cell_of_row _ _ 3 _ _ _ z8; have z8_f := (fun j => frozen_of_row _ _ j _ _ z8); have z8_l := lt_of_block z8; simp at z8_0 z8_1 z8_2 z8_3; have H_z8 := Lib.hid z8; clear z8
        go_upto_region 5 with (go_at_call 29; refine Calls.mono ref_Equal_zero ?_; rintro e w3 ⟨rfl, hp3⟩; replace HI := Lib.hid (HI.out.pure hp3); clear hp3)
        go_wp2
        go_roundw
        case rel => exact ⟨k + 1, by omega, by go_num, HI.out⟩
        case measure => simp [intOf]; omega
    · have hk1 : (Q.length : Int) < (k : Int) := by omega
      go_wp2
      go_ret
      exact ⟨rfl, HI.out.pu⟩
end Go.Proofs.Ytbjiebhbmpafpaa
