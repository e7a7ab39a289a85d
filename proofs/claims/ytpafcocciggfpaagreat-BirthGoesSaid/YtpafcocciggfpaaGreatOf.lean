/- dict.Of: the dictionary of a log, or the error. Condition: the log is made. -/
import Derived.Test.YtpafcocciggfpaaGreatDict4
import Derived.Test.YtpafcocciggfpaaGreatRange2
namespace Go.Proofs.YtpafcocciggfpaaGreat
open Go.RowKit Go.Shelf
set_option maxRecDepth 100000
attribute [local go_sem] Oper.semAt_some

/-! ### the index of some of a log's entries -/
structure Part (seed : Nat) (same : Bool) (L : List (Option Ent)) (S : Nat → Prop) (Gs : List Grp) : Prop where
  holds : Holds (sumL seed same L) S Gs
  sub : ∀ s, S s → liveS L s
  uniq : ∀ s t, S s → S t → keyL L s = keyL L t → s = t
/-- What is found among them. -/
def foundIn (L : List (Option Ent)) (S : Nat → Prop) (key : ByteArray) (r : Nat × Nat) : Prop :=
  (∃ s, S s ∧ keyL L s = key ∧ r = (s, 0)) ∨ ((∀ s, S s → keyL L s ≠ key) ∧ r = (0, 9))
theorem Part.find {seed : Nat} {same : Bool} {L : List (Option Ent)} {S : Nat → Prop} {Gs : List Grp} (h : Part seed same L S Gs) {w w' : World} {D : Nat → Prop} {p : Nat} {sv : Value} {key : ByteArray} {C : TypeId → Prop} {J : List Nat → World → Prop} {e : Ending}
    (hp : IFindPost w D p sv Gs (sumS seed same key) (fun _ s => keyL L s == key) C J e w') : ∃ r, foundIn L S key r ∧ e = .returned (.tuple #[.int .u32 (r.1 : Nat), .int .i64 (r.2 : Nat)]) := by
  obtain ⟨_, _, ⟨a, x, post, h1, h2, h3, h4, h5⟩ | ⟨h1, h2, h3⟩⟩ := hp
  · have hx : x ∈ seenM Gs (sumS seed same key) := by rw [h1]; simp
    have hS := full_slot h.holds hx
    have hk : (keyL L (slotAt Gs x) == key) = true := h3
    exact ⟨(slotAt Gs x, 0), .inl ⟨_, hS, (ba_beq _ _).1 hk, rfl⟩, h4⟩
  · refine ⟨(0, 9), .inr ⟨fun s hs hk => ?_, rfl⟩, h2⟩
    obtain ⟨i, j, hm, hF⟩ := h.holds.find_some (s := s) hs
    have e1 : sumL seed same L s = sumS seed same key := by unfold sumL; rw [hk]
    rw [e1] at hm
    unfold findM at hm
    have hx := List.mem_of_find?_eq_some hm
    have := falses_mem h1 _ (List.mem_map.2 ⟨_, hx, rfl⟩)
    rw [hF.slot, hk, (ba_beq key key).2 rfl] at this
    cases this
theorem part_new (seed : Nat) (same : Bool) (L : List (Option Ent)) : Part seed same L (fun _ => False) (newG 1) :=
  ⟨newG_holds _ ⟨0, by decide, rfl⟩, fun _ h => h.elim, fun _ _ h => h.elim⟩
theorem Part.keeps' {seed : Nat} {same : Bool} {L : List (Option Ent)} {S S' : Nat → Prop} {Gs : List Grp} (h : Part seed same L S Gs) (hS : ∀ s, S s ↔ S' s) : Part seed same L S' Gs :=
  ⟨h.holds.of_iff hS, fun s hs => h.sub s ((hS s).2 hs), fun s t hs ht hk => h.uniq s t ((hS s).2 hs) ((hS t).2 ht) hk⟩
theorem Part.keeps {seed : Nat} {same : Bool} {L : List (Option Ent)} {S : Nat → Prop} {Gs : List Grp} (h : Part seed same L S Gs) (hS : ∀ s, S s ↔ liveS L s) (hu : usedN Gs = liveOf L) : Keeps seed same L Gs :=
  ⟨h.holds.of_iff hS, fun s t e f h1 h2 hk => h.uniq s t ((hS s).2 ⟨e, h1⟩) ((hS t).2 ⟨f, h2⟩) (by rw [keyL_some h1, keyL_some h2, hk]), hu⟩
section
variable {w : World} {d q p : Nat} {sv : Value} {Dl : Nat → Prop} {seed : Nat} {same : Bool} {L : List (Option Ent)} {Gs : List Grp}
def dfindGPost (w : World) (L : List (Option Ent)) (S : Nat → Prop) (key : ByteArray) (e : Ending) (w' : World) : Prop :=
  ∃ r, foundIn L S key r ∧ e = .returned (.tuple #[.int .u32 (r.1 : Nat), .int .i64 (r.2 : Nat)]) ∧ Pure w w'
set_option maxHeartbeats 1000000 in
theorem dfindG_ok {Sx : Nat → Prop} (h : DictMem w d q p sv Dl seed same L Gs) (hk : Part seed same L Sx Gs) (key : ByteArray) (hkey : key.size ≤ 140737488355328) : Calls Tryz.prog 51 #[dPtr d, .string key] w (dfindGPost w L Sx key) := by
  have hp0 : Pure w ((w.alloc (.cells #[.pointer (some ⟨d, 0, none⟩)] 24)).alloc (.cells #[.string key] 9)) := ((Mod.refl _ w).alloc _).alloc _
  have z2 := heap_keep (o := .cells #[.string key] 9) (heap_new (w := w) (o := .cells #[.pointer (some ⟨d, 0, none⟩)] 24 (0, 0)) rfl)
  have z3 := heap_new (w := w.alloc (.cells #[.pointer (some ⟨d, 0, none⟩)] 24)) (o := .cells #[.string key] 9 (0, 0)) (n := w.heap.size + 1) (by simp)
  have HP := Lib.hid hp0
  have HM := Lib.hid (h.pure hp0)
  have HZ := Lib.hid (dzero_ok (h.pure hp0))
  have HSum := Lib.hid (fun W => HSum_ok seed same h.sd key hkey W)
  have hb := (h.pure hp0).box
  have HKE := Lib.hid hk
  have hsl : sumS seed same key < 18446744073709551616 := mixM_lt
  clear h hk hp0
  go_enter Tryz.func51, Tryz.ntmps51
  go_upto_region 1 with fail
  generalize ((w.alloc (.cells #[.pointer (some ⟨d, 0, none⟩)] 24)).alloc (.cells #[.string key] 9)) = W1 at *
  obtain ⟨b, hbe⟩ : ∃ b, w.heap.size = b := ⟨_, rfl⟩
  rw [hbe] at z2 z3 ⊢
  have HB := Lib.hid hbe
  clear hbe
  have HSame := Lib.hid (fun (W : World) (hW : Pure W1 W) => (⟨enters_of Tryz.func115 (by kernel_rfl) rfl, fun pre s W' hs hJ => by
      have := (callsIn_wide (n := 0)).2 (dfind1_ok (HM.out.pure hJ) (hJ.heap (fun h => h) z2) (hJ.heap (fun h => h) z3) s hs)
      exact this.mono (fun e w' ⟨h1, h2⟩ => ⟨h1, hJ.trans h2, ModC.of_pure h2⟩), fun pre A B hJ hm => hJ.then hm (fun i hi hs => by have := hs.1; have := hW.size; omega), fun _ h => h.elim, hW⟩ :
    SameOk Tryz.prog 115 #[.pointer (some ⟨b, 0, none⟩), .pointer (some ⟨b + 1, 0, none⟩)] (fun _ s => keyL L s == key) (fun _ => False) (fun _ W' => Pure W1 W') W))
  have HF := Lib.hid (fun (W : World) (hW : Pure W1 W) => IFind_ok (HM.out.ix.pure hW) _ hsl (HSame.out W hW))
  obtain ⟨hh, hhe⟩ : ∃ hh, sumS seed same key = hh := ⟨_, rfl⟩
  rw [hhe] at HF HSum hsl
  have HHE := Lib.hid hhe
  clear hhe HSame
  have hb_0 := cell_of_row _ _ 0 _ _ _ hb; have hb_1 := cell_of_row _ _ 1 _ _ _ hb; have hb_2 := cell_of_row _ _ 2 _ _ _ hb; have hb_3 := cell_of_row _ _ 3 _ _ _ hb; have hb_f := (fun j => frozen_of_row _ _ j _ _ hb); have hb_l := lt_of_block hb; simp at hb_0 hb_1 hb_2 hb_3; have H_hb := Lib.hid hb; clear hb
  have z2_0 := cell_of_row _ _ 0 _ _ _ z2; have z2_f := (fun j => frozen_of_row _ _ j _ _ z2); have z2_l := lt_of_block z2; simp at z2_0; have H_z2 := Lib.hid z2; clear z2
  have z3_0 := cell_of_row _ _ 0 _ _ _ z3; have z3_f := (fun j => frozen_of_row _ _ j _ _ z3); have z3_l := lt_of_block z3; simp at z3_0; have H_z3 := Lib.hid z3; clear z3
  go_upto_region 3 with (go_at_call 64; refine Calls.mono HZ.out ?_; rintro e w' ⟨rfl, rfl⟩)
  go_region_held3 (fun w' => w'.cell? ⟨d, 3, none⟩ = some (.pointer (some ⟨p, 0, none⟩)) ∧ w'.cell? ⟨d, 1, none⟩ = some (.int .u64 seed) ∧ w'.cell? ⟨d, 2, none⟩ = some (.bool same) ∧ w'.cell? ⟨b, 0, none⟩ = some (.pointer (some ⟨d, 0, none⟩)) ∧ w'.cell? ⟨b + 1, 0, none⟩ = some (.string key))
    (first | exact ⟨hb_3, hb_1, hb_2, z2_0, z3_0⟩ | exact ⟨hp1.cell (fun h => h) hb_3, hp1.cell (fun h => h) hb_1, hp1.cell (fun h => h) hb_2, hp1.cell (fun h => h) z2_0, hp1.cell (fun h => h) z3_0⟩ | exact ⟨(hp1.trans hp2).cell (fun h => h) hb_3, (hp1.trans hp2).cell (fun h => h) hb_1, (hp1.trans hp2).cell (fun h => h) hb_2, (hp1.trans hp2).cell (fun h => h) z2_0, (hp1.trans hp2).cell (fun h => h) z3_0⟩)
    (first
      | (go_at_call 114; refine Calls.mono (HSum.out _) ?_; rintro e w1 ⟨rfl, hp1⟩)
      | (go_at_call 113; refine Calls.mono (HF.out _ (by (repeat' (first | (with_reducible exact Mod.refl _ _) | (with_reducible refine Mod.alloc ?_ _) | (with_reducible refine Mod.drew ?_) | (with_reducible refine Mod.drewN ?_ _) | (with_reducible refine Mod.setCell ?_ ?_ _) | (refine Mod.then ?_ (by with_reducible assumption) ?_))) <;> (all_goals (intros; first | (exfalso; assumption) | omega | (simp at *; done) | (simp at *; omega))))) ?_; rintro e w2 hq; obtain ⟨r, hr, he⟩ := HKE.out.find (by rw [HHE.out]; exact hq); have hp2 : Pure w1 w2 := Mod.mono hq.1 (fun k _ ⟨_, _, _, _, hf⟩ => hf); have HRR := Lib.hid hr; clear hq hr; subst he))
  go_wp2
  all_goals
    go_ret2
    exact ⟨r, HRR.out, rfl, HP.out.trans ((Mod.of_drew hp1).trans hp2)⟩

/-! ### Of -/
theorem liveFrom_up' (L : List (Option Ent)) : ∀ i, ((liveFrom i L).map Prod.fst).Pairwise (· < ·) := by
  induction L with
  | nil => intro i; simp [liveFrom]
  | cons o L ih =>
    intro i
    cases o with
    | none => exact ih (i + 1)
    | some e =>
      simp only [liveFrom, List.map_cons, List.pairwise_cons]
      refine ⟨fun y hy => ?_, ih (i + 1)⟩
      obtain ⟨g, hg, rfl⟩ := List.mem_map.1 hy
      have := (liveFrom_mem hg).1
      omega
theorem live_of {L : List (Option Ent)} : ∀ {i s : Nat} {e : Ent}, L[s]? = some (some e) → (i + s, e) ∈ liveFrom i L := by
  induction L with
  | nil => intro i s e h; simp at h
  | cons o L ih =>
    intro i s e h
    cases s with
    | zero =>
      simp at h; subst h
      simp [liveFrom]
    | succ s =>
      have := ih (i := i + 1) (s := s) (e := e) (by simpa using h)
      rw [show i + 1 + s = i + (s + 1) by omega] at this
      cases o <;> simp [liveFrom, this]
theorem liveOf_live' (L : List (Option Ent)) : ∀ i, (liveFrom i L).length = liveOf L := by
  induction L with
  | nil => intro i; rfl
  | cons o L ih =>
    intro i
    cases o with
    | none => simp only [liveFrom, liveOf, List.countP_cons] at *; simpa using ih (i + 1)
    | some e => simp only [liveFrom, liveOf, List.countP_cons, List.length_cons] at *; simpa using ih (i + 1)
/-- The slot numbers that were gone over; the index of them. -/
def slotsOf (pre : List (Nat × Ent)) (s : Nat) : Prop := s ∈ pre.map Prod.fst
def ofM (seed : Nat) (same : Bool) (L : List (Option Ent)) (pre : List (Nat × Ent)) : List Grp := (pre.map Prod.fst).foldl (putM (sumL seed same L)) (newG 1)
theorem ofM_snoc (seed : Nat) (same : Bool) (L : List (Option Ent)) (pre : List (Nat × Ent)) (g : Nat × Ent) : ofM seed same L (pre ++ [g]) = putM (sumL seed same L) (ofM seed same L pre) g.1 := by
  unfold ofM; rw [List.map_append, List.foldl_append]; rfl
theorem Part.put {L : List (Option Ent)} {pre : List (Nat × Ent)} {g : Nat × Ent} {post : List (Nat × Ent)} (h : Part seed same L (slotsOf pre) (ofM seed same L pre)) (hu : usedN (ofM seed same L pre) = pre.length) (hl : live L = pre ++ g :: post) (hlen : L.length ≤ 4194304)
    (hn : ∀ s, slotsOf pre s → keyL L s ≠ g.2.key) :
    Part seed same L (slotsOf (pre ++ [g])) (ofM seed same L (pre ++ [g])) ∧ usedN (ofM seed same L (pre ++ [g])) = (pre ++ [g]).length ∧ g.1 ≤ 4294967295 ∧
      ∃ x, planI (ofM seed same L pre).length (usedN (ofM seed same L pre)) (tombN (ofM seed same L pre)) = some x ∧ Pow x.1 ∧ usedN (ofM seed same L pre) ≤ 8 * x.1 ∧ insM (doG (sumL seed same L) x (ofM seed same L pre)) (sumL seed same L g.1) g.1 = some (ofM seed same L (pre ++ [g])) := by
  have hup := liveFrom_up' L 0
  rw [show liveFrom 0 L = live L from rfl, hl, List.map_append, List.map_cons, List.pairwise_append] at hup
  have hnot : ¬ slotsOf pre g.1 := fun hs => by have := hup.2.2 _ hs g.1 (by simp); omega
  have hg : L[g.1]? = some (some g.2) := live_mem (by rw [hl]; simp)
  have hlt := (List.getElem?_eq_some_iff.1 hg).1
  have hpl : pre.length ≤ 4194304 := by have := live_length L; rw [hl] at this; simp at this; omega
  obtain ⟨x, k1, k2, k3, k4, k5, k6, k7, k8⟩ := h.holds.put (by rw [hu]; exact hpl) (s := g.1) (by omega) hnot
  rw [ofM_snoc]
  have hiff : ∀ s, slotsOf (pre ++ [g]) s ↔ s = g.1 ∨ slotsOf pre s := fun s => by unfold slotsOf; simp [or_comm]
  refine ⟨⟨k7.of_iff (fun s => (hiff s).symm), fun s hs => ?_, fun s t hs ht hk => ?_⟩, by rw [k8, hu]; simp, by omega, x, k1, k2, k3, k6⟩
  · rcases (hiff s).1 hs with rfl | hs
    · exact ⟨g.2, hg⟩
    · exact h.sub s hs
  · rcases (hiff s).1 hs with rfl | hs <;> rcases (hiff t).1 ht with rfl | ht
    · rfl
    · rw [keyL_some hg] at hk; exact absurd hk.symm (hn t ht)
    · rw [keyL_some hg] at hk; exact absurd hk (hn s hs)
    · exact h.uniq s t hs ht hk
end
end Go.Proofs.YtpafcocciggfpaaGreat
