/- Lemmas and contracts of functions, strung together out of 6 texts. No condition. -/
import Derived.Test.YtapplindfijngaaGreatJPfCompactDicts8
import Derived.Test.YtapplindfijngaaGreatJPfCompactDicts1
import Derived.Test.YtapplindfijngaaGreatJPfCompactDicts2
import Derived.Test.YtapplindfijngaaGreatJPfCompactDicts7
/- Log.Remove of a slot that has an entry. Condition: the log is made. -/
namespace Go.Proofs.YtapplindfijngaaGreat
open Go.RowKit
set_option maxRecDepth 100000

/-! ### Remove -/
theorem flat4_set (M : List (Option Ent × Value)) (i : Nat) (m m' : Option Ent × Value) (hi : M[i]? = some m) (a b c d : Value) (hm : slotCells m' = [a, b, c, d]) :
    ((((M.flatMap slotCells).set (i * 4) a).set (i * 4 + 1) b).set (i * 4 + 2) c).set (i * 4 + 3) d = (M.set i m').flatMap slotCells := by
  have h0 : ∀ r ∈ M.map slotCells, r.length = 4 := by
    intro r hr
    obtain ⟨x, _, rfl⟩ := List.mem_map.1 hr
    exact slotCells_length x
  have e := flatten_set 4 0 (by decide) a _ h0 i
  rw [Nat.add_zero] at e
  simp only [List.flatMap_def]
  rw [e, flatten_set 4 1 (by decide) b _ (modify_length h0 i 0 a) i, flatten_set 4 2 (by decide) c _ (modify_length (modify_length h0 i 0 a) i 1 b) i,
    flatten_set 4 3 (by decide) d _ (modify_length (modify_length (modify_length h0 i 0 a) i 1 b) i 2 c) i]
  congr 1
  have e2 : ∀ (f g : List Value → List Value) (R : List (List Value)), (R.modify i f).modify i g = R.modify i (g ∘ f) := fun f g R => List.modify_modify_eq f g i R
  rw [e2, e2, e2]
  refine modify_map_set slotCells _ m' M i m hi ?_
  rw [hm]
  have := slotCells_length m
  match h : slotCells m, this with
  | [_, _, _, _], _ => rfl

theorem live_set_none (M : List (Option Ent × Value)) (i : Nat) (e : Ent) (v v' : Value) (hi : M[i]? = some (some e, v)) : (liveOf ((M.set i (none, v')).map Prod.fst) : Int) = (liveOf (M.map Prod.fst) : Int) - 1 ∧ 1 ≤ liveOf (M.map Prod.fst) := by
  induction M generalizing i with
  | nil => simp at hi
  | cons a M ih =>
    cases i with
    | zero =>
      simp at hi
      subst hi
      simp [liveOf]
    | succ i =>
      have := ih i (by simpa using hi)
      simp only [List.set_cons_succ, List.map_cons, liveOf, List.countP_cons] at this ⊢
      omega

def removePost (w : World) (D : Nat → Prop) (p i : Nat) (x : Ent) (sv : Value) (M : List (Option Ent × Value)) (e : Ending) (w' : World) : Prop :=
  ∃ a n c, e = .returned (.tuple #[.agg #[.string x.key, .slice a n c, .int .u64 x.dl, .int .u64 x.birth], .int .i64 0]) ∧ BytesAt w' (.slice a n c) (bytesOf x.val) ∧ Fresh w (.slice a n c) ∧
    LogRow w' D p sv (M.set i (none, .slice none 0 0)) ∧ Mod D w w'

theorem remove_end {w W w' : World} {D : Nat → Prop} {p g c i lv : Nat} {x : Ent} {v : Value} {M : List (Option Ent × Value)}
    (HL : LogRow w D p (.slice (some ⟨g, 0, none⟩) M.length c) M) (hi : M[i]? = some (some x, v)) (HP : Pure w W)
    (hlv : liveOf (M.map Prod.fst) = lv)
    (hw' : (((((W.setCell ⟨g, i * 4, none⟩ (.string ⟨#[]⟩)).setCell ⟨g, i * 4 + 1, none⟩ (.slice none 0 0)).setCell ⟨g, i * 4 + 2, none⟩ (.int .u64 0)).setCell ⟨g, i * 4 + 3, none⟩ (.int .u64 0)).setCell ⟨p, 2, none⟩ (.int .i64 ((lv : Int) - 1))) = w') :
    LogRow w' D p (.slice (some ⟨g, 0, none⟩) M.length c) (M.set i (none, .slice none 0 0)) ∧ Mod D w w' := by
  subst hw'
  have HW := HL.pure HP
  have hlt : i < M.length := (List.getElem?_eq_some_iff.1 hi).1
  have hgp := HL.np (g := g) rfl
  have hDg : D g := (HL.dd g).2 (.inr rfl)
  have hDp : D p := (HL.dd p).2 (.inl rfl)
  have hmod : Mod D W (((((W.setCell ⟨g, i * 4, none⟩ (.string ⟨#[]⟩)).setCell ⟨g, i * 4 + 1, none⟩ (.slice none 0 0)).setCell ⟨g, i * 4 + 2, none⟩ (.int .u64 0)).setCell ⟨g, i * 4 + 3, none⟩ (.int .u64 0)).setCell ⟨p, 2, none⟩ (.int .i64 ((lv : Int) - 1))) :=
    (((((Mod.refl D W).setCell (p := ⟨g, i * 4, none⟩) (fun _ => hDg) _).setCell (p := ⟨g, i * 4 + 1, none⟩) (fun _ => hDg) _).setCell (p := ⟨g, i * 4 + 2, none⟩) (fun _ => hDg) _).setCell (p := ⟨g, i * 4 + 3, none⟩) (fun _ => hDg) _).setCell (p := ⟨p, 2, none⟩) (fun _ => hDp) _
  have hl := live_set_none M i x v (.slice none 0 0) hi
  refine ⟨⟨?_, ?_, fun e u hm => ?_, ?_, ?_⟩, (Mod.of_pure HP).trans hmod⟩
  · have hb : ((((W.setCell ⟨g, i * 4, none⟩ (.string ⟨#[]⟩)).setCell ⟨g, i * 4 + 1, none⟩ (.slice none 0 0)).setCell ⟨g, i * 4 + 2, none⟩ (.int .u64 0)).setCell ⟨g, i * 4 + 3, none⟩ (.int .u64 0)).heap[p]? = _ :=
      heap_set_other (heap_set_other (heap_set_other (heap_set_other HW.box hgp.symm) hgp.symm) hgp.symm) hgp.symm
    have := heap_setCell_same _ p 2 _ _ (.int .i64 ((lv : Int) - 1)) hb
    rw [this, hl.1, hlv]
    rfl
  · have r0 := owns_setCell HW.row (i * 4) (.string ⟨#[]⟩) (by omega)
    have r1 := owns_setCell r0 (i * 4 + 1) (.slice none 0 0) (by omega)
    have r2 := owns_setCell r1 (i * 4 + 2) (.int .u64 0) (by omega)
    have r3 := owns_setCell r2 (i * 4 + 3) (.int .u64 0) (by omega)
    rw [flat4_set M i _ (none, .slice none 0 0) hi _ _ _ _ rfl] at r3
    have r4 := owns_mod r3 (S := fun k => k = p) ((Mod.refl (fun k => k = p) _).setCell (p := ⟨p, 2, none⟩) (fun _ => rfl) (.int .i64 ((lv : Int) - 1))) (fun g' e h => by cases e; exact hgp h)
    rw [List.length_set]
    exact r4
  · have hm' : (some e, u) ∈ M := by
      rcases List.mem_or_eq_of_mem_set hm with h | h
      · exact h
      · cases h
    exact bytes_frame (HW.vals e u hm') hmod (fun k _ hk cs fz => HW.nobytes hk cs fz)
  · exact HL.dd
  · refine ⟨by have := HL.ok.len; simpa using this, fun e he => ?_⟩
    rw [List.map_set] at he
    rcases List.mem_or_eq_of_mem_set he with h | h
    · exact HL.ok.ent e h
    · cases h

set_option maxHeartbeats 800000 in
theorem Remove_hit {w : World} {D : Nat → Prop} {p : Nat} {sv : Value} {M : List (Option Ent × Value)} (h : LogRow w D p sv M) {i : Nat} {x : Ent} {v : Value} (hi : M[i]? = some (some x, v)) :
    Calls Tryz.prog 24 #[.pointer (some ⟨p, 0, none⟩), .int .u32 i] w (removePost w D p i x sv M) := by
  obtain ⟨g, c, rfl, hg, ng, hlt, hn, hc, hf⟩ := h.slot hi
  obtain ⟨c0, c1, c2, cf⟩ := h.cells
  have hx := (h.vals x v (List.mem_of_getElem? hi)).read (bytesOf_one _)
  have hok := h.ok.ent x (List.mem_map.2 ⟨_, List.mem_of_getElem? hi, rfl⟩)
  have s0 : w.cell? ⟨g, i * 4, none⟩ = _ := hc 0 _ rfl; have s1 := hc 1 _ rfl; have s2 := hc 2 _ rfl; have s3 := hc 3 _ rfl
  have hlp : p < w.heap.size := World.block_lt_of_cell? w _ c0
  have hb : (x.birth == 0) = false := by have := hok.b0; simp; omega
  obtain ⟨a, n, cc, rfl, hl, _⟩ := id hx
  have hn' : n ≤ 140737488355328 := by have := hok.v1; rw [bytesOf_length] at hl; omega
  have H := Lib.hid (hx.frame ((Mod.refl (fun _ => False) w).alloc (.cells #[.string ByteArray.empty, .slice none 0 0, .int .u64 0, .int .u64 0] 42)) (fun _ _ h => h))
  have HL := Lib.hid h
  have HI := Lib.hid hi
  generalize hlv : (liveOf (M.map Prod.fst)) = lv at c2
  have hlv1 : 1 ≤ lv ∧ lv ≤ 4194304 := by have := (live_set_none M i x _ (.slice none 0 0) hi).2; have := liveOf_le (M.map Prod.fst); rw [List.length_map] at this; omega
  have HLV := Lib.hid hlv
  obtain ⟨hlv1, hlv2⟩ := hlv1
  clear h hx hc hl hlv hi
  have hlp1 : p < w.heap.size + 1 := by omega
  have hg1 : g < w.heap.size + 1 := by omega
  go_enter Tryz.func24, Tryz.ntmps24
  go_upto_region 5 with (first | (go_at_call 73; refine Calls.mono (at_hit p g _ c i x.birth _ (by simpa [go_sem, hlp] using c0) (by simpa [go_sem, hlp] using c1) hlt hn (by simpa [go_sem, hg] using s3) hb) ?_; rintro e w' ⟨rfl, rfl⟩) | (go_at_call 74; refine Calls.mono (entry_Copy x.key a n cc _ _ _ _ H.out hn') ?_; rintro e w1 ⟨a', n', c', rfl, hr, hfr, hp⟩; obtain ⟨hpc, hpf⟩ := hp.cells))
  have hz : w.heap.size < w1.heap.size := by have := hp.size; simp at this; omega
  have HP : Pure w (w1.alloc (.cells #[.string x.key, .slice a' n' c', .int .u64 x.dl, .int .u64 x.birth] 42)) := by
    (repeat' (first | (with_reducible exact Mod.refl _ _) | (with_reducible refine Mod.alloc ?_ _) | (with_reducible refine Mod.drew ?_) | (with_reducible refine Mod.drewN ?_ _) | (with_reducible refine Mod.setCell ?_ ?_ _) | (refine Mod.then ?_ (by with_reducible assumption) ?_)))
    (all_goals (intros; first | (exfalso; assumption) | omega | (simp at *; done) | (simp at *; omega)))
  have hA : (w1.alloc (.cells #[.string x.key, .slice a' n' c', .int .u64 x.dl, .int .u64 x.birth] 42)).heap[w.heap.size]? = some (.cells #[.string ByteArray.empty, .slice none 0 0, .int .u64 0, .int .u64 0] 42 (0, 0)) := heap_keep (hp.heap (fun h => h) (heap_new rfl))
  have hB : (w1.alloc (.cells #[.string x.key, .slice a' n' c', .int .u64 x.dl, .int .u64 x.birth] 42)).heap[w1.heap.size]? = some (.cells #[.string x.key, .slice a' n' c', .int .u64 x.dl, .int .u64 x.birth] 42 (0, 0)) := heap_new rfl
  have HRD : BytesAt (w1.alloc (.cells #[.string x.key, .slice a' n' c', .int .u64 x.dl, .int .u64 x.birth] 42)) (.slice a' n' c') (bytesOf x.val) := owns_mod (bytesAt_of hr) ((Mod.refl (fun _ => False) w1).alloc _) (fun _ _ h => h)
  have hfr' : ∀ k, (Value.slice a' n' c').ownBlock = some k → w.heap.size < k := fun k e => by have := hfr k e; simp at this; omega
  generalize hW : w1.alloc (.cells #[.string x.key, .slice a' n' c', .int .u64 x.dl, .int .u64 x.birth] 42) = W at HP hA hB HRD ⊢
  have hgB : g ≠ w1.heap.size := by omega
  have hpB : p ≠ w1.heap.size := by omega
  have hAB : w.heap.size ≠ w1.heap.size := by omega
  have hsB : w.heap.size < w1.heap.size := hz
  generalize w1.heap.size = B at hB hgB hpB hAB hsB ⊢
  clear hW hpc hpf hz hp hr hfr hlp1 hg1
  have hgA : g ≠ w.heap.size := by omega
  have hpA : p ≠ w.heap.size := by omega
  have HSZ : Hid (w.heap.size ≤ w.heap.size) := Nat.le_refl _
  have ar : ∀ (j : Nat), W.frozen? ⟨w.heap.size, j, none⟩ = false := fun j => frozen_of_row W _ j _ _ hA
  have ac := fun j => cell_of_row W w.heap.size j _ _ _ hA
  have bc := fun j => cell_of_row W B j _ _ _ hB
  have a0 := ac 0; have a1 := ac 1; have a2 := ac 2; have a3 := ac 3
  have b0 := bc 0; have b1 := bc 1; have b2 := bc 2; have b3 := bc 3
  simp at a0 a1 a2 a3 b0 b1 b2 b3
  replace c2 := HP.cell (fun h => h) c2
  replace s0 := HP.cell (fun h => h) s0; replace s1 := HP.cell (fun h => h) s1; replace s2 := HP.cell (fun h => h) s2; replace s3 := HP.cell (fun h => h) s3
  have cfW : W.frozen? ⟨p, 2, none⟩ = false := (World.frozen?_of_block (w := w) (a := ⟨p, 2, none⟩) (HP.block p hlp (fun h => h))).trans (cf 2)
  have hfW : ∀ j, W.frozen? ⟨g, j, none⟩ = false := fun j => (World.frozen?_of_block (w := w) (a := ⟨g, j, none⟩) (HP.block g hg (fun h => h))).trans (hf j)
  have HHP := Lib.hid HP
  have HHA := Lib.hid hA
  have HRD' := Lib.hid HRD
  have HFR := Lib.hid hfr'
  clear ac bc hA hB HP HRD hfr' c0 c1 cf hf
  go_upto_region 7 with fail
  have hend := remove_end (w' := (((((W.setCell ⟨g, i * 4, none⟩ (.string ⟨#[]⟩)).setCell ⟨g, i * 4 + 1, none⟩ (.slice none 0 0)).setCell ⟨g, i * 4 + 2, none⟩ (.int .u64 0)).setCell ⟨g, i * 4 + 3, none⟩ (.int .u64 0)).setCell ⟨p, 2, none⟩ (.int .i64 ((lv : Int) - 1)))) HL.out HI.out HHP.out HLV.out rfl
  have kA : (((((W.setCell ⟨g, i * 4, none⟩ (.string ⟨#[]⟩)).setCell ⟨g, i * 4 + 1, none⟩ (.slice none 0 0)).setCell ⟨g, i * 4 + 2, none⟩ (.int .u64 0)).setCell ⟨g, i * 4 + 3, none⟩ (.int .u64 0)).setCell ⟨p, 2, none⟩ (.int .i64 ((lv : Int) - 1))).heap[w.heap.size]? = _ :=
    heap_set_other (heap_set_other (heap_set_other (heap_set_other (heap_set_other HHA.out hgA.symm) hgA.symm) hgA.symm) hgA.symm) hpA.symm
  have kB : ∀ j u, W.cell? ⟨B, j, none⟩ = some u → (((((W.setCell ⟨g, i * 4, none⟩ (.string ⟨#[]⟩)).setCell ⟨g, i * 4 + 1, none⟩ (.slice none 0 0)).setCell ⟨g, i * 4 + 2, none⟩ (.int .u64 0)).setCell ⟨g, i * 4 + 3, none⟩ (.int .u64 0)).setCell ⟨p, 2, none⟩ (.int .i64 ((lv : Int) - 1))).cell? ⟨B, j, none⟩ = some u := by
    intro j u hu
    rw [World.cell?_setCell_other _ _ _ _ (by simp [hpB]), World.cell?_setCell_other _ _ _ _ (by simp [hgB]), World.cell?_setCell_other _ _ _ _ (by simp [hgB]), World.cell?_setCell_other _ _ _ _ (by simp [hgB]), World.cell?_setCell_other _ _ _ _ (by simp [hgB])]
    exact hu
  have hRD : BytesAt (((((W.setCell ⟨g, i * 4, none⟩ (.string ⟨#[]⟩)).setCell ⟨g, i * 4 + 1, none⟩ (.slice none 0 0)).setCell ⟨g, i * 4 + 2, none⟩ (.int .u64 0)).setCell ⟨g, i * 4 + 3, none⟩ (.int .u64 0)).setCell ⟨p, 2, none⟩ (.int .i64 ((lv : Int) - 1))) (.slice a' n' c') (bytesOf x.val) := by
    refine owns_mod HRD'.out (S := fun k => k = g ∨ k = p) ?_ (fun k e h => by have := HFR.out k e; omega)
    (repeat' (first | (with_reducible exact Mod.refl _ _) | (with_reducible refine Mod.alloc ?_ _) | (with_reducible refine Mod.drew ?_) | (with_reducible refine Mod.drewN ?_ _) | (with_reducible refine Mod.setCell ?_ ?_ _) | (refine Mod.then ?_ (by with_reducible assumption) ?_)))
    all_goals (intro _; first | exact .inl rfl | exact .inr rfl)
  replace b0 := kB _ _ b0; replace b1 := kB _ _ b1; replace b2 := kB _ _ b2; replace b3 := kB _ _ b3
  generalize (((((W.setCell ⟨g, i * 4, none⟩ (.string ⟨#[]⟩)).setCell ⟨g, i * 4 + 1, none⟩ (.slice none 0 0)).setCell ⟨g, i * 4 + 2, none⟩ (.int .u64 0)).setCell ⟨g, i * 4 + 3, none⟩ (.int .u64 0)).setCell ⟨p, 2, none⟩ (.int .i64 ((lv : Int) - 1))) = W3 at *
  clear kB a0 a1 a2 a3 c2 s0 s1 s2 s3 ar hfW cfW
  have ac := fun j => cell_of_row W3 w.heap.size j _ _ _ kA
  have ar : ∀ (j : Nat), W3.frozen? ⟨w.heap.size, j, none⟩ = false := fun j => frozen_of_row W3 _ j _ _ kA
  have a0 := ac 0; have a1 := ac 1; have a2 := ac 2; have a3 := ac 3
  simp at a0 a1 a2 a3
  have HE := Lib.hid hend
  have HKA := Lib.hid kA
  have HRD3 := Lib.hid hRD
  clear hend kA ac hRD
  go_wp2
  refine bodyPost_ret (v := .tuple #[.agg #[.string x.key, .slice a' n' c', .int .u64 x.dl, .int .u64 x.birth], .int .i64 0]) (by simp [results, Tryz.results24, go_sem, a0, a1, a2, a3]) rfl ⟨a', n', c', rfl, ?_, ?_, ?_, ?_⟩
  · refine owns_mod HRD3.out (S := fun k => k = w.heap.size) ?_ (fun k e h => by have := HFR.out k e; omega)
    (repeat' (first | (with_reducible exact Mod.refl _ _) | (with_reducible refine Mod.alloc ?_ _) | (with_reducible refine Mod.drew ?_) | (with_reducible refine Mod.drewN ?_ _) | (with_reducible refine Mod.setCell ?_ ?_ _) | (refine Mod.then ?_ (by with_reducible assumption) ?_)))
    (all_goals (intros; first | (exfalso; assumption) | omega | (simp at *; done) | (simp at *; omega)))
  · exact fun k e => Nat.le_of_lt (HFR.out k e)
  · refine HE.out.1.frame (S := fun k => k = w.heap.size) ?_ (fun k hk h => by have := HL.out.lt hk; omega) ?_
    · (repeat' (first | (with_reducible exact Mod.refl _ _) | (with_reducible refine Mod.alloc ?_ _) | (with_reducible refine Mod.drew ?_) | (with_reducible refine Mod.drewN ?_ _) | (with_reducible refine Mod.setCell ?_ ?_ _) | (refine Mod.then ?_ (by with_reducible assumption) ?_)))
      (all_goals (intros; first | (exfalso; assumption) | omega | (simp at *; done) | (simp at *; omega)))
    · rintro k _ rfl cs fz e
      rw [HKA.out] at e
      cases e
  · refine HE.out.2.then (T := fun k => k = w.heap.size) ?_ (fun k hk h => by omega)
    (repeat' (first | (with_reducible exact Mod.refl _ _) | (with_reducible refine Mod.alloc ?_ _) | (with_reducible refine Mod.drew ?_) | (with_reducible refine Mod.drewN ?_ _) | (with_reducible refine Mod.setCell ?_ ?_ _) | (refine Mod.then ?_ (by with_reducible assumption) ?_)))
    (all_goals (intros; first | (exfalso; assumption) | omega | (simp at *; done) | (simp at *; omega)))
end Go.Proofs.YtapplindfijngaaGreat

/- Log.All and its closure meet the iterator's contract. Condition: the log is made. -/
namespace Go.Proofs.YtapplindfijngaaGreat
open Go.RowKit Go.Shelf
set_option maxRecDepth 100000
attribute [local go_sem] Oper.semAt_some

/-! ### All -/
/-- The entries of a log with their slot numbers, from slot i on. -/
def liveFrom : Nat → List (Option Ent) → List (Nat × Ent)
  | _, [] => []
  | i, none :: L => liveFrom (i + 1) L
  | i, some e :: L => (i, e) :: liveFrom (i + 1) L
def live (L : List (Option Ent)) : List (Nat × Ent) := liveFrom 0 L
theorem liveFrom_append (A B : List (Option Ent)) : ∀ i, liveFrom i (A ++ B) = liveFrom i A ++ liveFrom (i + A.length) B := by
  induction A with
  | nil => intro i; simp [liveFrom]
  | cons o A ih =>
    intro i
    cases o <;> simp [liveFrom, ih, Nat.add_assoc, Nat.add_comm 1]

theorem liveFrom_length (L : List (Option Ent)) : ∀ i, (liveFrom i L).length ≤ L.length := by
  induction L with
  | nil => intro i; simp [liveFrom]
  | cons o L ih => intro i; cases o <;> simp [liveFrom] <;> have := ih (i + 1) <;> omega
theorem live_length (L : List (Option Ent)) : (live L).length ≤ L.length := liveFrom_length L 0
theorem drop_cons' {α : Type} {L : List α} {n : Nat} {a : α} (h : L[n]? = some a) : L.drop n = a :: L.drop (n + 1) := by
  obtain ⟨hlt, rfl⟩ := List.getElem?_eq_some_iff.1 h
  exact List.drop_eq_getElem_cons hlt
theorem live_none {M : List (Option Ent × Value)} {n : Nat} {v : Value} (h : M[n]? = some (none, v)) : liveFrom n ((M.map Prod.fst).drop n) = liveFrom (n + 1) ((M.map Prod.fst).drop (n + 1)) := by
  rw [drop_cons' (L := M.map Prod.fst) (n := n) (a := none) (by simp [h])]
  rfl
theorem live_some {M : List (Option Ent × Value)} {n : Nat} {x : Ent} {v : Value} (h : M[n]? = some (some x, v)) : liveFrom n ((M.map Prod.fst).drop n) = (n, x) :: liveFrom (n + 1) ((M.map Prod.fst).drop (n + 1)) := by
  rw [drop_cons' (L := M.map Prod.fst) (n := n) (a := some x) (by simp [h])]
  rfl

theorem liveFrom_mem {L : List (Option Ent)} : ∀ {i : Nat} {g : Nat × Ent}, g ∈ liveFrom i L → i ≤ g.1 ∧ L[g.1 - i]? = some (some g.2) := by
  induction L with
  | nil => intro i g h; cases h
  | cons o L ih =>
    intro i g h
    cases o with
    | none =>
      obtain ⟨h1, h2⟩ := ih (i := i + 1) h
      refine ⟨by omega, ?_⟩
      rw [show g.1 - i = (g.1 - (i + 1)) + 1 by omega]; simpa using h2
    | some e =>
      rcases List.mem_cons.1 h with rfl | h
      · simp
      · obtain ⟨h1, h2⟩ := ih (i := i + 1) h
        refine ⟨by omega, ?_⟩
        rw [show g.1 - i = (g.1 - (i + 1)) + 1 by omega]; simpa using h2
theorem live_mem {L : List (Option Ent)} {g : Nat × Ent} (h : g ∈ live L) : L[g.1]? = some (some g.2) := by simpa using (liveFrom_mem h).2

abbrev Given := Nat × Ent × Value
abbrev encG (g : Given) : Array Value := #[.int .u32 g.1, .agg #[.string g.2.1.key, g.2.2, .int .u64 g.2.1.dl, .int .u64 g.2.1.birth]]
def keyG (g : Given) : Nat × Ent := (g.1, g.2.1)
/-- What All promises of an element: it is the next one, its value is a slice of its own in a new block. -/
def promise (N : Nat) (L : List (Option Ent)) (pre : List Given) (x : Given) (W : World) : Prop :=
  (∃ post, live L = pre.map keyG ++ keyG x :: post) ∧ BytesAt W x.2.2 (bytesOf x.2.1.val) ∧ ∀ k, x.2.2.ownBlock = some k → N ≤ k

/-- The blocks of an iterator over a log's copy: its variable, the row, the values. -/
def iterBlocks (B : Nat) (sv : Value) (M : List (Option Ent × Value)) (k : Nat) : Prop := k = B ∨ sv.ownBlock = some k ∨ ∃ e v, (some e, v) ∈ M ∧ v.ownBlock = some k

structure IterAt (w : World) (B : Nat) (sv : Value) (M : List (Option Ent × Value)) : Prop where
  box : w.heap[B]? = some (.cells #[sv] 29 (0, 0))
  row : w.ownsRow 0 42 4 sv M.length (M.flatMap slotCells)
  vals : ∀ e v, (some e, v) ∈ M → BytesAt w v (bytesOf e.val)
  ok : LogOk (M.map Prod.fst)
theorem IterAt.keeps {w w' : World} {B : Nat} {sv : Value} {M : List (Option Ent × Value)} (h : IterAt w B sv M) (hk : KeepsIt (iterBlocks B sv M) w w') : IterAt w' B sv M := by
  refine ⟨?_, ?_, fun e v hm => ?_, h.ok⟩
  · exact (hk.2 B (.inl rfl) (lt_of_block h.box)).trans h.box
  · exact owns_heap h.row (fun g hg hlt => hk.2 g (.inr (.inl hg)) hlt)
  · exact owns_heap (h.vals e v hm) (fun g hg hlt => hk.2 g (.inr (.inr ⟨e, v, hm, hg⟩)) hlt)

theorem IterAt.slot {w : World} {B : Nat} {sv : Value} {M : List (Option Ent × Value)} (h : IterAt w B sv M) {i : Nat} {m : Option Ent × Value} (hi : M[i]? = some m) :
    ∃ g c, sv = .slice (some ⟨g, 0, none⟩) M.length c ∧ g < w.heap.size ∧ (∀ j u, (slotCells m)[j]? = some u → w.cell? ⟨g, i * 4 + j, none⟩ = some u) := by
  have hlt : i < M.length := (List.getElem?_eq_some_iff.1 hi).1
  obtain ⟨g, c, rfl, _, hg, hc, hf, _⟩ := owns_at h.row (by omega)
  refine ⟨g, c, rfl, hg, fun j u hu => hc _ _ ?_⟩
  have hj : j < 4 := by rw [← slotCells_length m]; exact (List.getElem?_eq_some_iff.1 hu).1
  rw [flat_get slotCells 4 slotCells_length j hj, hi]
  exact hu

/-- Ahead of a round of All. -/
def AllInv (J : List Given → World → Prop) (N B : Nat) (sv : Value) (M : List (Option Ent × Value)) (k : Value) (wr : World) : Prop :=
  ∃ (n : Nat) (pre : List Given), n ≤ M.length ∧ k = .int .i64 n ∧ J pre wr ∧ IterAt wr B sv M ∧ live (M.map Prod.fst) = pre.map keyG ++ liveFrom n ((M.map Prod.fst).drop n) ∧ N ≤ wr.heap.size

theorem LogRow.quiet {N : Nat} {A B : World} {D : Nat → Prop} {p : Nat} {sv : Value} {M : List (Option Ent × Value)} (h : LogRow A D p sv M) (hq : Quiet N A B) : LogRow B D p sv M :=
  ⟨hq.cells h.box, hq.owns h.row, fun e v hv => hq.owns (h.vals e v hv), h.dd, h.ok⟩
theorem promise.quiet {N N' : Nat} {L : List (Option Ent)} {pre : List Given} {x : Given} {A B : World} (h : promise N L pre x A) (hq : Quiet N' A B) : promise N L pre x B := ⟨h.1, hq.owns h.2.1, h.2.2⟩

set_option maxHeartbeats 1000000 in
theorem All_iter {w : World} {B : Nat} {sv : Value} {M : List (Option Ent × Value)} (h : IterAt w B sv M) (N : Nat) (hN : N ≤ w.heap.size) :
    IterOk Tryz.prog 127 #[.pointer (some ⟨B, 0, none⟩)] encG (iterBlocks B sv M) (promise N (M.map Prod.fst)) (fun xs => xs.map keyG = live (M.map Prod.fst)) w := by
  intro l J Jx W hW hJ hJx hY h0
  have hA := h.keeps (KeepsIt.of_pure hW)
  obtain ⟨a, c, rfl, _⟩ := owns_form h.row
  have hlen := h.ok.len
  rw [List.length_map] at hlen
  have hB := cell_of_row W B 0 _ _ _ hA.box
  simp at hB
  have HA := Lib.hid hA
  have HY := Lib.hid hY
  have HJ := Lib.hid hJ
  have HN : Hid (N ≤ W.heap.size) := Nat.le_trans hN hW.size
  clear hA hY hJ hJx h hW
  refine callsIn_of_wp Tryz.func127 rfl trivial ?_ rfl
  simp only [Tryz.ntmps127, List.size_toArray, List.length_cons, List.length_nil, Nat.reduceAdd, Nat.reduceSub, Array.replicate_succ, Array.replicate_zero, List.push_toArray, List.append_toArray, List.nil_append, List.cons_append]
  gi_wp2
  gi_loopw [3, 4, 7] (fun i b k wr => AllInv J N B (.slice a M.length c) M k wr)
    (fun _ _ k _ => M.length - (intOf k).toNat)
  case atStart => exact ⟨0, [], Nat.zero_le _, rfl, h0, HA.out, by simp [live], HN⟩
  case round =>
    obtain ⟨n, pre, hn, rfl, hJs, hI, hl, hNw⟩ := hrel
    by_cases hlt : n < M.length
    · have he := List.getElem?_eq_getElem hlt
      generalize M[n] = m at he
      obtain ⟨o, v⟩ := m
      obtain ⟨g, c', hsv, hg, hc⟩ := hI.slot he
      cases hsv
      have hn0 : (0 : Int) ≤ (n : Int) := by omega
      have hn1 : (n : Int) < (M.length : Int) := by omega
      have hn2 : n ≤ 4194304 := by omega
      cases o with
      | none =>
        have s0 : wr.cell? ⟨g, n * 4, none⟩ = _ := hc 0 _ rfl; have s1 := hc 1 _ rfl; have s2 := hc 2 _ rfl; have s3 := hc 3 _ rfl
        have HI := Lib.hid hI
        have HL := Lib.hid hl
        have HJS := Lib.hid hJs
        have HNW := Lib.hid hNw
        clear hc hI hl hJs hNw
        gi_wp2
        go_roundw
        case rel =>
          have hP : Pure wr (wr.alloc (.cells #[.string ⟨#[]⟩, .slice none 0 0, .int .u64 0, .int .u64 0] 42)) := (Mod.refl _ wr).alloc _
          unfold AllInv
          exact ⟨n + 1, pre, by omega, by go_num, HJ.out _ _ _ HJS.out hP, HI.out.keeps (KeepsIt.of_pure hP), by rw [HL.out, live_none he], by have := HNW.out; simp; omega⟩
        case measure => simp [intOf]; omega
      | some x =>
        have s0 : wr.cell? ⟨g, n * 4, none⟩ = _ := hc 0 _ rfl; have s1 := hc 1 _ rfl; have s2 := hc 2 _ rfl; have s3 := hc 3 _ rfl
        have hx := (hI.vals x v (List.mem_of_getElem? he)).read (bytesOf_one _)
        have hok := hI.ok.ent x (List.mem_map.2 ⟨_, List.mem_of_getElem? he, rfl⟩)
        obtain ⟨va, vn, vc, rfl, hvl, _⟩ := id hx
        have hvn : vn ≤ 140737488355328 := by have := hok.v1; rw [bytesOf_length] at hvl; omega
        have hb : (x.birth == 0) = false := by have := hok.b0; simp; omega
        have hb2 : (x.birth != 0) = true := by have := hok.b0; simp; omega
        have hP : Pure wr (wr.alloc (.cells #[.string x.key, .slice va vn vc, .int .u64 x.dl, .int .u64 x.birth] 42)) := (Mod.refl _ wr).alloc _
        have HX := Lib.hid (hx.frame hP (fun _ _ h => h))
        have HI := Lib.hid hI
        have HL := Lib.hid hl
        have HJS := Lib.hid hJs
        have HNW := Lib.hid hNw
        have HP := Lib.hid hP
        have HOK := Lib.hid hok
        clear hc hI hl hJs hNw hx hvl hP hok
        have HPR := Lib.hid (fun (w1 : World) (v' : Value) (hp : Pure wr w1) (hr : BytesAt w1 v' (bytesOf x.val)) (hf : ∀ k, v'.ownBlock = some k → N ≤ k) =>
          HY.out pre (n, x, v') w1 (HJ.out _ _ _ HJS.out hp) ⟨⟨_, by rw [HL.out, live_some he]; rfl⟩, hr, hf⟩)
        gi_wp2_with (gi_at_call 74; refine (callsIn_wide.2 (entry_Copy x.key va vn vc _ _ _ _ HX.out hvn)).mono ?_; rintro e w1 ⟨a', n', c'', rfl, hr, hfr, hp⟩; obtain ⟨fn, tmps, assign, body, hy, hR⟩ := HPR.out w1 (.slice a' n' c'') (HP.out.trans hp) (bytesAt_of hr) (fun k e => (by have := hfr k e; have := HNW.out; simp at *; omega)); dsimp only [encG] at hy; have hRR := Lib.hid hR; clear hR)
        refine hRR.out.mono ?_
        rintro e W' (⟨rfl, hJ', hk⟩ | ⟨rfl, hJx'⟩)
        · have HJ' := Lib.hid hJ'
          have HK := Lib.hid hk
          clear hJ' hk
          gi_wp2
          go_roundw
          case rel =>
            unfold AllInv
            exact ⟨n + 1, pre ++ [(n, x, .slice a' n' c'')], by omega, by go_num, HJ'.out, (HI.out.keeps (KeepsIt.of_pure (HP.out.trans hp))).keeps HK.out, by rw [HL.out, live_some he]; simp [keyG], by have := HNW.out; have := HK.out.1; have := (HP.out.trans hp).size; omega⟩
          case measure => simp [intOf]; omega
        · gi_wp2
          refine bodyPost_ret (results_none rfl _ _ _) rfl ?_
          exact ⟨⟨_, rfl⟩, .inr ⟨_, hJx'⟩⟩
    · have hend : M.length = n := by omega
      have hge : (M.length : Int) ≤ (n : Int) := by omega
      have HI := Lib.hid hI
      have HL := Lib.hid hl
      have HJS := Lib.hid hJs
      clear hI hl hJs
      have HE := Lib.hid hend
      clear hend
      gi_wp2
      go_end0
      refine ⟨⟨_, rfl⟩, .inl ⟨pre, ?_, HJS.out⟩⟩
      rw [HL.out, ← HE.out, List.drop_eq_nil_of_le (by simp)]
      simp [liveFrom]

def allPost (w : World) (M : List (Option Ent × Value)) (e : Ending) (w' : World) : Prop :=
  ∃ B a c, e = .returned (.func (.func 127) #[] #[.pointer (some ⟨B, 0, none⟩)]) ∧ IterAt w' B (.slice a M.length c) M ∧ Pure w w' ∧ w.heap.size ≤ B ∧ Fresh w (.slice a M.length c)
set_option maxHeartbeats 400000 in
theorem All_any {w : World} {D : Nat → Prop} {p : Nat} {sv : Value} {M : List (Option Ent × Value)} (h : LogRow w D p sv M) :
    Calls Tryz.prog 76 #[.pointer (some ⟨p, 0, none⟩)] w (allPost w M) := by
  obtain ⟨c0, c1, c2, cf⟩ := h.cells
  obtain ⟨a, c, rfl, _⟩ := owns_form h.row
  have hP : Pure w (w.alloc (.cells #[.slice none 0 0] 29)) := (Mod.refl _ w).alloc _
  have HR := Lib.hid ((h.pure hP).read)
  have HL := Lib.hid h
  have hn : M.length ≤ 4294967295 := by have := h.ok.len; rw [List.length_map] at this; omega
  have hlp : p < w.heap.size := lt_of_block h.box
  have hlp1 : p < w.heap.size + 1 := by omega
  clear h hP
  go_enter Tryz.func76, Tryz.ntmps76
  go_wp2_with (first
    | (go_at_call 70; refine Calls.mono (zero_made p true _ (by simpa [go_sem, hlp] using c0)) ?_; rintro e w' ⟨rfl, rfl⟩)
    | (go_at_call 126; refine Calls.mono (clone_entries a M.length c _ _ HR.out hn) ?_; rintro e w1 ⟨a', n', c', rfl, hr, hf, hp⟩; obtain ⟨hpc, hpf⟩ := hp.cells))
  go_ret
  obtain rfl := owns_len hr (by decide) (flat_length slotCells 4 slotCells_length M)
  have hq := hp.heap (fun h => h) (heap_new (w := w) (o := .cells #[.slice none 0 0] 29 (0, 0)) rfl)
  have hm : Mod (fun k => k = w.heap.size) w1 (w1.setCell ⟨w.heap.size, 0, none⟩ (.slice a' M.length c')) := (Mod.refl (fun k => k = w.heap.size) w1).setCell (p := ⟨w.heap.size, 0, none⟩) (fun _ => rfl) _
  have hall : Pure w (w1.setCell ⟨w.heap.size, 0, none⟩ (.slice a' M.length c')) := by
    (repeat' (first | (with_reducible exact Mod.refl _ _) | (with_reducible refine Mod.alloc ?_ _) | (with_reducible refine Mod.drew ?_) | (with_reducible refine Mod.drewN ?_ _) | (with_reducible refine Mod.setCell ?_ ?_ _) | (refine Mod.then ?_ (by with_reducible assumption) ?_)))
    (all_goals (intros; first | (exfalso; assumption) | omega | (simp at *; done) | (simp at *; omega)))
  refine ⟨w.heap.size, a', c', rfl, ⟨heap_setCell_same w1 _ 0 _ _ _ hq, owns_mod hr hm (fun g e h => ?_), fun e v hv => owns_mod (HL.out.vals e v hv) hall (fun _ _ h => h), HL.out.ok⟩, hall, Nat.le_refl _, fun g e => ?_⟩
  · have := hf g e; simp at this; omega
  · have := hf g e; simp at this; omega
end Go.Proofs.YtapplindfijngaaGreat

/- The contracts of the log of layer 9 on lists of entries. Conditions: the log is made (LogAt), the bounds that each theorem names. -/
namespace Go.Proofs.YtapplindfijngaaGreat
open Go.RowKit Go.Shelf
set_option maxRecDepth 100000

/-! ## The log's contracts in words of its entries alone -/
abbrev logPtr (p : Nat) : Value := .pointer (some ⟨p, 0, none⟩)
abbrev entV (x : Ent) (v : Value) : Value := .agg #[.string x.key, v, .int .u64 x.dl, .int .u64 x.birth]
theorem LogRow.toAt {w : World} {D : Nat → Prop} {p : Nat} {sv : Value} {M : List (Option Ent × Value)} (h : LogRow w D p sv M) : LogAt w D p (M.map Prod.fst) := ⟨sv, M, rfl, h⟩
theorem LogAt.pure {w w' : World} {D : Nat → Prop} {p : Nat} {L : List (Option Ent)} (h : LogAt w D p L) (hm : Pure w w') : LogAt w' D p L := by
  obtain ⟨sv, M, rfl, h⟩ := h
  exact (h.pure hm).toAt
theorem LogAt.lt {w : World} {D : Nat → Prop} {p : Nat} {L : List (Option Ent)} (h : LogAt w D p L) {k : Nat} (hk : D k) : k < w.heap.size := by
  obtain ⟨sv, M, rfl, h⟩ := h
  exact h.lt hk
theorem LogAt.ok {w : World} {D : Nat → Prop} {p : Nat} {L : List (Option Ent)} (h : LogAt w D p L) : LogOk L := by
  obtain ⟨sv, M, rfl, h⟩ := h
  exact h.ok
/-- A log's blocks are of two types. -/
theorem LogAt.types {w : World} {D : Nat → Prop} {p : Nat} {L : List (Option Ent)} (h : LogAt w D p L) {k : Nat} (hk : D k) {cs : Array Value} {T : TypeId} {fz : Nat × Nat} (e : w.heap[k]? = some (.cells cs T fz)) : T = 131 ∨ T = 42 := by
  obtain ⟨sv, M, rfl, h⟩ := h
  rcases (h.dd k).1 hk with rfl | e'
  · rw [h.box] at e; cases e; exact .inl rfl
  · obtain ⟨c, e2⟩ := owns_type h.row e'; rw [e2] at e; cases e; exact .inr rfl
theorem LogAt.frame {w w' : World} {D S : Nat → Prop} {p : Nat} {L : List (Option Ent)} (h : LogAt w D p L) (hm : Mod S w w') (hD : ∀ k, D k → ¬ S k) (hS : ∀ k, k < w.heap.size → S k → ∀ cs fz, w.heap[k]? ≠ some (.cells cs 5 fz)) : LogAt w' D p L := by
  obtain ⟨sv, M, rfl, h⟩ := h
  exact (h.frame hm hD hS).toAt
/-- A log behind a change of another one. -/
theorem LogAt.beside {w w' : World} {D S : Nat → Prop} {p q : Nat} {L K : List (Option Ent)} (h : LogAt w D p L) (k : LogAt w S q K) (hm : Mod S w w') (hD : ∀ k, D k → ¬ S k) : LogAt w' D p L :=
  h.frame hm hD (fun i _ hi cs fz e => by rcases k.types hi e with e | e <;> cases e)
/-- A row of another type behind a change of a log. -/
theorem LogAt.owns {w w' : World} {S : Nat → Prop} {q : Nat} {K : List (Option Ent)} (h : LogAt w S q K) (hm : Mod S w w') {T k n : Nat} {v : Value} {xs : List Value} (ho : w.ownsRow 0 T k v n xs) (h1 : T ≠ 131) (h2 : T ≠ 42) : w'.ownsRow 0 T k v n xs :=
  owns_mod ho hm (fun g hg hs => by
    obtain ⟨c, e⟩ := owns_type ho hg
    rcases h.types hs e with e | e
    · exact h1 e
    · exact h2 e)
theorem LogAt.box {w w' : World} {S : Nat → Prop} {q : Nat} {K : List (Option Ent)} (h : LogAt w S q K) (hm : Mod S w w') {b : Nat} {cs : Array Value} {T : TypeId} {fz : Nat × Nat} (hb : w.heap[b]? = some (.cells cs T fz)) (h1 : T ≠ 131) (h2 : T ≠ 42) : w'.heap[b]? = some (.cells cs T fz) :=
  hm.heap (fun hs => by rcases h.types hs hb with e | e; exact h1 e; exact h2 e) hb

def newA (w : World) (e : Ending) (w' : World) : Prop := e = .returned (logPtr w.heap.size) ∧ LogAt w' (fun k => k = w.heap.size) w.heap.size [] ∧ Pure w w' ∧ w.heap.size < w'.heap.size
theorem newA_ok (w : World) : Calls Tryz.prog 21 #[] w (newA w) := by
  refine Calls.mono (entrylog_New w) ?_
  rintro e w' ⟨rfl, rfl⟩
  exact ⟨rfl, (logNew_row (heap_new rfl)).toAt, (Mod.refl _ _).alloc _, by simp⟩

def appendA (w : World) (D : Nat → Prop) (p : Nat) (L : List (Option Ent)) (x : Ent) (e : Ending) (w' : World) : Prop :=
  e = .returned (.tuple #[.int .u32 L.length, .int .i64 0]) ∧ ∃ D', LogAt w' D' p (L ++ [some x]) ∧ Mod D w w' ∧ Grew D D' w
theorem appendA_ok {w : World} {D : Nat → Prop} {p : Nat} {L : List (Option Ent)} (h : LogAt w D p L) (hL : L.length < 4194304) (x : Ent) (hok : x.Ok) (a : Option Addr) (n c : Nat) (hx : ReadAt w (.slice a n c) 1 (bytesOf x.val)) :
    Calls Tryz.prog 22 #[logPtr p, entV x (.slice a n c)] w (appendA w D p L x) := by
  obtain ⟨sv, M, rfl, h⟩ := h
  rw [List.length_map] at hL
  refine Calls.mono (Append_ok h hL x hok a n c hx) ?_
  rintro e w' ⟨rfl, D', sv', v', h1, h2, h3⟩
  refine ⟨by rw [List.length_map], D', ?_, h2, h3⟩
  have := h1.toAt
  rw [List.map_append] at this
  exact this

def removeA (w : World) (D : Nat → Prop) (p i : Nat) (L : List (Option Ent)) (x : Ent) (e : Ending) (w' : World) : Prop :=
  ∃ a n c, e = .returned (.tuple #[entV x (.slice a n c), .int .i64 0]) ∧ BytesAt w' (.slice a n c) (bytesOf x.val) ∧ Fresh w (.slice a n c) ∧ LogAt w' D p (L.set i none) ∧ Mod D w w'
theorem removeA_ok {w : World} {D : Nat → Prop} {p : Nat} {L : List (Option Ent)} (h : LogAt w D p L) (i : Nat) (x : Ent) (hi : L[i]? = some (some x)) :
    Calls Tryz.prog 24 #[logPtr p, .int .u32 i] w (removeA w D p i L x) := by
  obtain ⟨sv, M, rfl, h⟩ := h
  rw [List.getElem?_map] at hi
  cases hm : M[i]? with
  | none => rw [hm] at hi; cases hi
  | some m =>
    obtain ⟨o, v⟩ := m
    rw [hm] at hi
    cases hi
    refine Calls.mono (Remove_hit h hm) ?_
    rintro e w' ⟨a, n, c, rfl, h1, h2, h3, h4⟩
    refine ⟨a, n, c, rfl, h1, h2, ?_, h4⟩
    have := h3.toAt
    rw [List.map_set] at this
    exact this

theorem lenA {w : World} {D : Nat → Prop} {p : Nat} {L : List (Option Ent)} (h : LogAt w D p L) : Calls Tryz.prog 28 #[logPtr p] w fun e w' => e = .returned (.int .i64 L.length) ∧ w = w' := by
  obtain ⟨sv, M, rfl, h⟩ := h
  rw [List.length_map]
  exact Len_any h
theorem liveA {w : World} {D : Nat → Prop} {p : Nat} {L : List (Option Ent)} (h : LogAt w D p L) : Calls Tryz.prog 69 #[logPtr p] w fun e w' => e = .returned (.int .i64 (liveOf L)) ∧ w = w' := by
  obtain ⟨sv, M, rfl, h⟩ := h
  exact Live_any h

/-! ### the key of a slot -/
def keyL (L : List (Option Ent)) (s : Nat) : ByteArray := match L[s]? with
  | some (some e) => e.key
  | _ => ⟨#[]⟩
def hasL (L : List (Option Ent)) (s : Nat) : Bool := match L[s]? with
  | some (some _) => true
  | _ => false
def noL (L : List (Option Ent)) (s : Nat) : Int := if hasL L s then 0 else 9
theorem Key_any {w : World} {D : Nat → Prop} {p : Nat} {L : List (Option Ent)} (h : LogAt w D p L) (i : Nat) (hu : i ≤ 4294967295) :
    Calls Tryz.prog 56 #[logPtr p, .int .u32 i] w fun e w' => e = .returned (.tuple #[.string (keyL L i), .int .i64 (noL L i)]) ∧ w = w' := by
  obtain ⟨sv, M, rfl, h⟩ := h
  cases hi : slotOf M i with
  | none =>
    have HA := Lib.hid (h.miss hu hi)
    have e1 : keyL (M.map Prod.fst) i = ⟨#[]⟩ ∧ noL (M.map Prod.fst) i = 9 := by
      unfold noL hasL keyL
      unfold slotOf at hi
      rw [List.getElem?_map]
      cases hm : M[i]? with
      | none => simp
      | some m =>
        obtain ⟨o, v⟩ := m
        rw [hm] at hi
        have : o = none := by simpa using hi
        subst this
        simp
    rw [e1.1, e1.2]
    clear e1 hi h
    go_enter Tryz.func56, Tryz.ntmps56
    go_wp2_with (go_at_call 73; refine Calls.mono (HA.out _ (Mod.refl _ _)) ?_; rintro e w' ⟨rfl, rfl⟩)
    go_ret2
    exact ⟨rfl, rfl⟩
  | some x =>
    obtain ⟨v, hm⟩ : ∃ v, M[i]? = some (some x, v) := by
      unfold slotOf at hi
      cases hm : M[i]? with
      | none => rw [hm] at hi; cases hi
      | some m =>
        obtain ⟨o, v⟩ := m
        rw [hm] at hi
        have : o = some x := by simpa using hi
        subst this
        exact ⟨v, rfl⟩
    have e1 : keyL (M.map Prod.fst) i = x.key ∧ noL (M.map Prod.fst) i = 0 := by
      unfold noL hasL keyL
      rw [List.getElem?_map, hm]
      simp
    rw [e1.1, e1.2]
    clear e1 hi
    obtain ⟨g, c, rfl, hg, ng, hlt, hn, hc, hf⟩ := h.slot hm
    obtain ⟨c0, c1, c2, cf⟩ := h.cells
    have hok := h.ok.ent x (List.mem_map.2 ⟨_, List.mem_of_getElem? hm, rfl⟩)
    have hb : (x.birth == 0) = false := by have := hok.b0; simp; omega
    have s0 : w.cell? ⟨g, i * 4, none⟩ = _ := hc 0 _ rfl; have s3 := hc 3 _ rfl
    clear h hc hok
    go_enter Tryz.func56, Tryz.ntmps56
    go_wp2_with (go_at_call 73; refine Calls.mono (at_hit p g _ c i x.birth _ c0 c1 hlt hn s3 hb) ?_; rintro e w' ⟨rfl, rfl⟩)
    go_ret2
    exact ⟨rfl, rfl⟩

def getA (w : World) (L : List (Option Ent)) (i : Nat) (e : Ending) (w' : World) : Prop :=
  match L[i]? with
  | some (some x) => ∃ a n c, e = .returned (.tuple #[.agg #[.string x.key, .slice a n c, .int .u64 x.dl, .int .u64 x.birth], .int .i64 0]) ∧ BytesAt w' (.slice a n c) (bytesOf x.val) ∧ Fresh w (.slice a n c) ∧ Pure w w'
  | _ => e = .returned (.tuple #[.agg #[.string ⟨#[]⟩, .slice none 0 0, .int .u64 0, .int .u64 0], .int .i64 9]) ∧ Pure w w'
theorem Get_any {w : World} {D : Nat → Prop} {p : Nat} {L : List (Option Ent)} (h : LogAt w D p L) (i : Nat) (hu : i ≤ 4294967295) :
    Calls Tryz.prog 97 #[logPtr p, .int .u32 i] w (getA w L i) := by
  obtain ⟨sv, M, rfl, h⟩ := h
  unfold getA
  rw [List.getElem?_map]
  cases hm : M[i]? with
  | none =>
    refine Calls.mono (Get_miss h hu (by unfold slotOf; rw [hm]; rfl)) ?_
    intro e w' he
    exact he
  | some m =>
    obtain ⟨o, v⟩ := m
    cases o with
    | none =>
      refine Calls.mono (Get_miss h hu (by unfold slotOf; rw [hm]; rfl)) ?_
      intro e w' he
      exact he
    | some x => exact Get_hit h hm
def copyA (w : World) (L : List (Option Ent)) (e : Ending) (w' : World) : Prop :=
  ∃ q D', e = .returned (logPtr q) ∧ LogAt w' D' q L ∧ Pure w w' ∧ ∀ k, D' k → w.heap.size ≤ k
theorem copyA_ok {w : World} {D : Nat → Prop} {p : Nat} {L : List (Option Ent)} (h : LogAt w D p L) : Calls Tryz.prog 75 #[logPtr p] w (copyA w L) := by
  obtain ⟨sv, M, rfl, h⟩ := h
  refine Calls.mono (Copy_any h) ?_
  rintro e w' ⟨q, sv', D', rfl, h1, h2, h3⟩
  exact ⟨q, D', rfl, h1.toAt, h2, h3⟩
def allA (w : World) (L : List (Option Ent)) (e : Ending) (w' : World) : Prop :=
  ∃ M B a c, M.map Prod.fst = L ∧ e = .returned (.func (.func 127) #[] #[.pointer (some ⟨B, 0, none⟩)]) ∧ IterAt w' B (.slice a M.length c) M ∧ Pure w w' ∧ w.heap.size ≤ B ∧ Fresh w (.slice a M.length c)
theorem allA_ok {w : World} {D : Nat → Prop} {p : Nat} {L : List (Option Ent)} (h : LogAt w D p L) : Calls Tryz.prog 76 #[logPtr p] w (allA w L) := by
  obtain ⟨sv, M, rfl, h⟩ := h
  refine Calls.mono (All_any h) ?_
  rintro e w' ⟨B, a, c, h1, h2, h3, h4, h5⟩
  exact ⟨M, B, a, c, rfl, h1, h2, h3, h4, h5⟩
end Go.Proofs.YtapplindfijngaaGreat

/- Plain laws of a dictionary: what its index holds, that there is room behind a plan, what is found. -/
namespace Go.Proofs.YtapplindfijngaaGreat
open Go.RowKit Go.Shelf

/-! ### the keys of a log -/
theorem ba_beq (a b : ByteArray) : (a == b) = true ↔ a = b := by
  cases a; cases b
  rename_i x y
  show (x == y) = true ↔ _
  simp
def liveS (L : List (Option Ent)) (s : Nat) : Prop := ∃ e, L[s]? = some (some e)
def sumL (seed : Nat) (same : Bool) (L : List (Option Ent)) (s : Nat) : Nat := sumS seed same (keyL L s)
theorem hasL_iff {L : List (Option Ent)} {s : Nat} : hasL L s = true ↔ liveS L s := by
  unfold hasL liveS
  split
  · rename_i e h; exact ⟨fun _ => ⟨e, h⟩, fun _ => rfl⟩
  · rename_i h; exact ⟨fun h => by simp at h, fun ⟨e, h2⟩ => absurd h2 (h e)⟩
theorem keyL_some {L : List (Option Ent)} {s : Nat} {e : Ent} (h : L[s]? = some (some e)) : keyL L s = e.key := by unfold keyL; rw [h]
theorem ba_list (a b : ByteArray) : (a.toList == b.toList) = (a == b) := by
  rw [Bool.eq_iff_iff, ba_beq, beq_iff_eq, ByteArray.toList_eq, ByteArray.toList_eq]
  exact ⟨fun h => ByteArray.ext (Array.toList_inj.1 h), fun h => by rw [h]⟩
/-- No two entries have one key. -/
def KeysOk (L : List (Option Ent)) : Prop := ∀ (s t : Nat) (e f : Ent), L[s]? = some (some e) → L[t]? = some (some f) → e.key = f.key → s = t
def isK (key : ByteArray) (o : Option Ent) : Bool := match o with
  | some e => e.key == key
  | none => false
/-- The slot number of the entry with a key. -/
def findK (L : List (Option Ent)) (key : ByteArray) : Option Nat := L.findIdx? (isK key)
theorem isK_iff {key : ByteArray} {o : Option Ent} : isK key o = true ↔ ∃ e, o = some e ∧ e.key = key := by
  cases o with
  | none => simp [isK]
  | some e => simp [isK, ba_beq]
theorem findK_some {L : List (Option Ent)} {key : ByteArray} {s : Nat} (h : findK L key = some s) : ∃ e : Ent, L[s]? = some (some e) ∧ e.key = key := by
  unfold findK at h
  obtain ⟨hl, hp, _⟩ := List.findIdx?_eq_some_iff_getElem.1 h
  obtain ⟨e, he, hk⟩ := isK_iff.1 hp
  exact ⟨e, by rw [List.getElem?_eq_getElem hl, he], hk⟩
theorem findK_none {L : List (Option Ent)} {key : ByteArray} (h : findK L key = none) : ∀ (s : Nat) (e : Ent), L[s]? = some (some e) → e.key ≠ key := by
  unfold findK at h
  rw [List.findIdx?_eq_none_iff] at h
  intro s e hs hk
  have := h _ (List.mem_of_getElem? hs)
  rw [isK_iff.2 ⟨e, rfl, hk⟩] at this
  cases this
theorem findK_eq {L : List (Option Ent)} (hk : KeysOk L) {s : Nat} {e : Ent} (h : L[s]? = some (some e)) : findK L e.key = some s := by
  cases hf : findK L e.key with
  | none => exact absurd rfl (findK_none hf s e h)
  | some t =>
    obtain ⟨f, h1, h2⟩ := findK_some hf
    rw [hk t s f e h1 h h2]
theorem findK_not {L : List (Option Ent)} {key : ByteArray} (h : ∀ (s : Nat) (e : Ent), L[s]? = some (some e) → e.key ≠ key) : findK L key = none := by
  cases hf : findK L key with
  | none => rfl
  | some t =>
    obtain ⟨f, h1, h2⟩ := findK_some hf
    exact absurd h2 (h t f h1)

/-! ### what is held -/
theorem Holds.congr {H H' : Nat → Nat} {S : Nat → Prop} {Gs : List Grp} (h : Holds H S Gs) (he : ∀ s, S s → H s = H' s) : Holds H' S Gs :=
  ⟨h.ok, fun i j t s hf => by rw [← he s ((h.mem s).2 ⟨i, j, t, hf⟩)]; exact h.tag i j t s hf, fun i j t s hf => by rw [← he s ((h.mem s).2 ⟨i, j, t, hf⟩)]; exact h.reach i j t s hf, h.uniq, h.mem⟩
/-- The index of a log's entries. -/
structure Keeps (seed : Nat) (same : Bool) (L : List (Option Ent)) (Gs : List Grp) : Prop where
  holds : Holds (sumL seed same L) (liveS L) Gs
  keys : KeysOk L
  used : usedN Gs = liveOf L
theorem foldM_lt' {h : Nat} (hh : h < 18446744073709551616) (l : List UInt8) : foldM h l < 18446744073709551616 := foldM_lt hh l
theorem mixM_lt {n : Nat} : mixM n < 18446744073709551616 := by
  have h1 : mix5 n < 2 ^ 64 := mix5_lt n
  exact Nat.xor_lt_two_pow h1 (Nat.lt_of_le_of_lt (Nat.div_le_self _ _) h1)
theorem sumL_lt (seed : Nat) (same : Bool) (L : List (Option Ent)) (s : Nat) : sumL seed same L s < 18446744073709551616 := mixM_lt
theorem full_slot {H : Nat → Nat} {S : Nat → Prop} {Gs : List Grp} (h : Holds H S Gs) {sum : Nat} {x : Nat × Nat} (hx : x ∈ seenM Gs sum) : S (slotAt Gs x) := (h.mem _).2 ⟨_, _, _, seen_full h.ok hx⟩
/-- What is found by a key. -/
theorem Keeps.find {seed : Nat} {same : Bool} {L : List (Option Ent)} {Gs : List Grp} (h : Keeps seed same L Gs) {w w' : World} {D : Nat → Prop} {p : Nat} {sv : Value} {key : ByteArray} {C : TypeId → Prop} {J : List Nat → World → Prop} {e : Ending}
    (hp : IFindPost w D p sv Gs (sumS seed same key) (fun _ s => keyL L s == key) C J e w') :
    e = .returned (.tuple (match findK L key with | some s => #[.int .u32 s, .int .i64 0] | none => #[.int .u32 0, .int .i64 9])) := by
  obtain ⟨_, _, ⟨a, x, post, h1, h2, h3, h4, h5⟩ | ⟨h1, h2, h3⟩⟩ := hp
  · have hx : x ∈ seenM Gs (sumS seed same key) := by rw [h1]; simp
    obtain ⟨f, hf⟩ := full_slot h.holds hx
    have hk : f.key = key := by
      have : (keyL L (slotAt Gs x) == key) = true := h3
      rw [keyL_some hf] at this
      exact (ba_beq _ _).1 this
    have := findK_eq h.keys hf
    rw [hk] at this
    rw [this]
    exact h4
  · have : findK L key = none := by
      refine findK_not (fun s f hs hk => ?_)
      obtain ⟨i, j, hm, hF⟩ := h.holds.find_some (s := s) ⟨f, hs⟩
      have e1 : sumL seed same L s = sumS seed same key := by unfold sumL; rw [keyL_some hs, hk]
      rw [e1] at hm
      unfold findM at hm
      have hx := List.mem_of_find?_eq_some hm
      have := falses_mem h1 _ (List.mem_map.2 ⟨_, hx, rfl⟩)
      rw [hF.slot, keyL_some hs, hk, (ba_beq key key).2 rfl] at this
      cases this
    rw [this]
    exact h2

/-! ### plans -/
theorem used_tomb_le : ∀ {Gs : List Grp}, (∀ c ∈ Gs, GrpOk c) → usedN Gs + tombN Gs ≤ 8 * Gs.length
  | [], _ => by simp [usedN, tombN]
  | c :: Gs, h => by
    have h1 := used_tomb_le (Gs := Gs) (fun c hc => h c (by simp [hc]))
    have h2 : ∀ l : List Nat, l.countP (· < 128) + l.countP (· == 254) ≤ l.length := by
      intro l
      induction l with
      | nil => simp
      | cons a l ih =>
        simp only [List.countP_cons, List.length_cons]
        by_cases c1 : a < 128
        · have : (a == 254) = false := by simp; omega
          simp [c1, this] at *; omega
        · by_cases c2 : (a == 254) = true
          · simp [c1, c2] at *; omega
          · simp [c1, c2] at *; omega
    have h3 := h2 c.1
    rw [(h c (by simp)).ctl.1] at h3
    unfold usedN tombN at *
    simp only [List.map_cons, List.sum_cons, List.length_cons]
    omega
theorem Pow.dbl {g : Nat} (h : Pow g) (hlt : g < 1048576) : Pow (2 * g) := by
  obtain ⟨k, hk, rfl⟩ := h
  refine ⟨k + 1, ?_, by rw [Nat.pow_succ]; omega⟩
  have : k ≠ 20 := by rintro rfl; omega
  omega
/-- What a plan does to an index. -/
def doG (H : Nat → Nat) (x : Nat × Bool) (Gs : List Grp) : List Grp := if x.2 then rehM H x.1 Gs else Gs
theorem plan_ok {Gs : List Grp} (h : IxOk Gs) (hl : usedN Gs ≤ 4194304) : ∃ x, planI Gs.length (usedN Gs) (tombN Gs) = some x ∧ Pow x.1 ∧ usedN Gs < 8 * x.1 ∧ (x.2 = false → x.1 = Gs.length) := by
  have hp := h.pow
  have h0 := hp.pos; have h1 := hp.le
  unfold planI
  split
  · exact ⟨_, rfl, hp, by show _ < 8 * Gs.length; omega, fun _ => rfl⟩
  · split
    · exact ⟨_, rfl, hp, by show _ < 8 * Gs.length; omega, by simp⟩
    · have h2 := used_le8 h
      split
      · rename_i h3
        exact ⟨_, rfl, hp.dbl h3, by show _ < 8 * (2 * Gs.length); omega, by simp⟩
      · have h4 : Gs.length = 1048576 := by omega
        rw [if_pos (by omega)]
        exact ⟨_, rfl, hp, by show _ < 8 * Gs.length; omega, by simp⟩
theorem Holds.do {H : Nat → Nat} {S : Nat → Prop} {Gs : List Grp} (h : Holds H S Gs) {x : Nat × Bool} (hx : Pow x.1) (hu : usedN Gs ≤ 8 * x.1) (hn : x.2 = false → x.1 = Gs.length) :
    Holds H S (doG H x Gs) ∧ usedN (doG H x Gs) = usedN Gs ∧ (doG H x Gs).length = x.1 := by
  unfold doG
  cases hb : x.2 with
  | false => exact ⟨h, rfl, (hn hb).symm⟩
  | true =>
    obtain ⟨h1, h2, h3, _⟩ := h.rehash hx hu
    exact ⟨h1, h2, h3⟩
/-- What an index is behind a slot number that is put in by a plan. -/
def putM (H : Nat → Nat) (Gs : List Grp) (s : Nat) : List Grp := insD H (doG H ((planI Gs.length (usedN Gs) (tombN Gs)).getD (0, false)) Gs) s
theorem Holds.put {H : Nat → Nat} {S : Nat → Prop} {Gs : List Grp} (h : Holds H S Gs) (hl : usedN Gs ≤ 4194304) {s : Nat} (hs : s ≤ 4294967295) (hn : ¬ S s) :
    ∃ x, planI Gs.length (usedN Gs) (tombN Gs) = some x ∧ Pow x.1 ∧ usedN Gs ≤ 8 * x.1 ∧ (x.2 = false → x.1 = Gs.length) ∧ Holds H S (doG H x Gs) ∧ insM (doG H x Gs) (H s) s = some (putM H Gs s) ∧
      Holds H (fun y => y = s ∨ S y) (putM H Gs s) ∧ usedN (putM H Gs s) = usedN Gs + 1 := by
  obtain ⟨x, h1, h2, h3, h4⟩ := plan_ok h.ok hl
  obtain ⟨k1, k2, k3⟩ := h.do h2 (Nat.le_of_lt h3) h4
  have hm : ∃ o, insM (doG H x Gs) (H s) s = some o := by
    cases e : insM (doG H x Gs) (H s) s with
    | some o => exact ⟨o, rfl⟩
    | none =>
      have := (ins_none k1.ok _ _).1 e
      rw [k2, k3] at this
      omega
  obtain ⟨o, ho⟩ := hm
  have e : putM H Gs s = o := by
    unfold putM insD
    rw [h1]
    simp [ho]
  rw [e]
  refine ⟨x, h1, h2, Nat.le_of_lt h3, h4, k1, ho, k1.ins hs hn ho, ?_⟩
  rw [(ins_counts k1.ok hs ho).1, k2]
/-- An entry more. -/
theorem keyL_append (L : List (Option Ent)) (o : Option Ent) {s : Nat} (h : s < L.length) : keyL (L ++ [o]) s = keyL L s := by
  unfold keyL
  rw [List.getElem?_append_left h]
theorem liveS_lt {L : List (Option Ent)} {s : Nat} (h : liveS L s) : s < L.length := by
  obtain ⟨e, h⟩ := h
  exact (List.getElem?_eq_some_iff.1 h).1
theorem liveS_append (L : List (Option Ent)) (x : Ent) (s : Nat) : liveS (L ++ [some x]) s ↔ s = L.length ∨ liveS L s := by
  constructor
  · rintro ⟨e, h⟩
    rcases Nat.lt_trichotomy s L.length with hl | hl | hl
    · rw [List.getElem?_append_left hl] at h; exact .inr ⟨e, h⟩
    · exact .inl hl
    · rw [List.getElem?_eq_none (by simp; omega)] at h; cases h
  · rintro (rfl | h)
    · exact ⟨x, by simp⟩
    · obtain ⟨e, he⟩ := id h
      exact ⟨e, by rw [List.getElem?_append_left (liveS_lt h)]; exact he⟩
theorem keys_append {L : List (Option Ent)} (h : KeysOk L) {x : Ent} (hx : findK L x.key = none) : KeysOk (L ++ [some x]) := by
  have hn := findK_none hx
  have hc : ∀ s e, (L ++ [some x])[s]? = some (some e) → (s < L.length ∧ L[s]? = some (some e)) ∨ (s = L.length ∧ e = x) := by
    intro s e hs
    rcases Nat.lt_trichotomy s L.length with hl | hl | hl
    · rw [List.getElem?_append_left hl] at hs; exact .inl ⟨hl, hs⟩
    · subst hl
      simp at hs
      exact .inr ⟨rfl, hs.symm⟩
    · rw [List.getElem?_eq_none (by simp; omega)] at hs; cases hs
  intro s t e f hs ht hk
  rcases hc s e hs with ⟨h1, h2⟩ | ⟨h1, h2⟩ <;> rcases hc t f ht with ⟨h3, h4⟩ | ⟨h3, h4⟩
  · exact h s t e f h2 h4 hk
  · subst h4; exact absurd hk (hn s e h2)
  · subst h2; exact absurd hk.symm (hn t f h4)
  · omega
theorem liveOf_append (L : List (Option Ent)) (x : Ent) : liveOf (L ++ [some x]) = liveOf L + 1 := by unfold liveOf; simp
theorem liveOf_le' (L : List (Option Ent)) : liveOf L ≤ L.length := List.countP_le_length
theorem Keeps.insert {seed : Nat} {same : Bool} {L : List (Option Ent)} {Gs : List Grp} (h : Keeps seed same L Gs) {x : Ent} (hx : findK L x.key = none) (hl : L.length ≤ 4194304) :
    Holds (sumL seed same (L ++ [some x])) (liveS L) Gs ∧ Keeps seed same (L ++ [some x]) (putM (sumL seed same (L ++ [some x])) Gs L.length) := by
  have h1 : Holds (sumL seed same (L ++ [some x])) (liveS L) Gs := h.holds.congr (fun s hs => by unfold sumL; rw [keyL_append _ _ (liveS_lt hs)])
  have h0 := liveOf_le' L
  obtain ⟨y, k1, k2, k3, k4, k5, k6, k7, k8⟩ := h1.put (by rw [h.used]; omega) (s := L.length) (by omega) (fun c => by have := liveS_lt c; omega)
  exact ⟨h1, k7.of_iff (fun s => (liveS_append L x s).symm), keys_append h.keys hx, by rw [k8, h.used, liveOf_append]⟩
theorem Keeps.new (seed : Nat) (same : Bool) : Keeps seed same [] (newG 1) :=
  ⟨(newG_holds _ ⟨0, by decide, rfl⟩).of_iff (fun s => ⟨fun h => h.elim, fun ⟨e, h⟩ => by simp at h⟩), fun s t e f h => by simp at h, by rw [newG_used]; rfl⟩
end Go.Proofs.YtapplindfijngaaGreat

/- growth.power, bound, Remove; bits.Len of small numbers. -/
namespace Go.Proofs.YtapplindfijngaaGreat
open Go.RowKit Go.Shelf
set_option maxRecDepth 100000

/-- How many bits a number has. -/
def blen (n : Nat) : Nat := if n = 0 then 0 else Nat.log2 n + 1
theorem blen_lt (n : Nat) : n < 2 ^ blen n := by
  unfold blen
  split
  · rename_i h; subst h; decide
  · exact Nat.lt_log2_self
theorem blen_le {n k : Nat} (h : n < 2 ^ k) : blen n ≤ k := by
  unfold blen
  split
  · exact Nat.zero_le _
  · rename_i h0
    exact (Nat.log2_lt h0).2 h
theorem blen_min {n k : Nat} (h1 : 2 ^ k ≤ n) (h2 : n < 2 ^ (k + 1)) : blen n = k + 1 := by
  have h0 : n ≠ 0 := by have := Nat.pow_pos (n := k) (show 0 < 2 by decide); omega
  unfold blen
  rw [if_neg h0]
  have h3 : n.log2 < k + 1 := (Nat.log2_lt h0).2 h2
  have h4 : ¬ n.log2 < k := fun h => by have := (Nat.log2_lt h0).1 h; omega
  omega
theorem blen_div {n j : Nat} (h : 2 ^ j ≤ n) : blen n = blen (n / 2 ^ j) + j := by
  have hp := Nat.pow_pos (n := j) (show 0 < 2 by decide)
  have h0 : n ≠ 0 := by omega
  have h1 : n / 2 ^ j ≠ 0 := by have := Nat.div_pos h hp; omega
  have e : n.log2 = (n / 2 ^ j).log2 + j := by
    have h2 : (n / 2 ^ j) < 2 ^ ((n / 2 ^ j).log2 + 1) := Nat.lt_log2_self
    have h3 : 2 ^ (n / 2 ^ j).log2 ≤ n / 2 ^ j := Nat.log2_self_le h1
    have h4 : 2 ^ ((n / 2 ^ j).log2 + j) ≤ n := by
      rw [Nat.pow_add]
      have := Nat.mul_le_mul_right (2 ^ j) h3
      exact Nat.le_trans this (Nat.div_mul_le_self n _)
    have h5 : n < 2 ^ ((n / 2 ^ j).log2 + j + 1) := by
      have h6 := Nat.lt_mul_of_div_lt h2 hp
      rw [show (n / 2 ^ j).log2 + j + 1 = j + ((n / 2 ^ j).log2 + 1) by omega, Nat.pow_add]
      rw [Nat.mul_comm]; exact h6
    have h7 : n.log2 < (n / 2 ^ j).log2 + j + 1 := (Nat.log2_lt h0).2 h5
    have h8 : ¬ n.log2 < (n / 2 ^ j).log2 + j := fun h => by have := (Nat.log2_lt h0).1 h; omega
    omega
  unfold blen
  rw [if_neg h0, if_neg h1, e]
  omega
theorem blen_table (s : ByteArray) (hs : s.size = 256) (h : ∀ k (hk : k < 256), wrap64 ((s[k]'(by omega)).toNat : Int) = blen k) (m : Nat) (hm : m < 256) (hms : m < s.size) : wrap64 ((s[m]'hms).toNat : Int) = blen m := h m hm
theorem len_end (y : Int) (s : ByteArray) (hs : s.size = 256) (h : ∀ k (hk : k < 256), wrap64 ((s[k]'(by omega)).toNat : Int) = blen k) (m : Nat) (hm : m < 256) (hms : m < s.size) (n : Nat) (hb : (blen n : Int) = y + blen m) (h0 : 0 ≤ y ∧ y ≤ 100) :
    wrap64 (y + wrap64 ((s[m]'hms).toNat : Int)) = (blen n : Int) := by
  rw [blen_table s hs h m hm hms, ← hb]
  have : blen m ≤ 8 := blen_le (by omega)
  exact IntWalk.wrap64_in _ (by omega)
theorem len_end0 (s : ByteArray) (hs : s.size = 256) (h : ∀ k (hk : k < 256), wrap64 ((s[k]'(by omega)).toNat : Int) = blen k) (m : Nat) (hm : m < 256) (hms : m < s.size) : wrap64 (wrap64 ((s[m]'hms).toNat : Int)) = (blen m : Int) := by
  have := len_end 0 s hs h m hm hms m (by omega) (by omega)
  rwa [Int.zero_add] at this
theorem Len64_ok (n : Nat) (hn : n < 4294967296) (w : World) : Calls Tryz.prog 175 #[.int .u64 n] w fun e w' => e = .returned (.int .i64 (blen n)) ∧ w = w' := by
  have d0 : decide (4294967296 ≤ (n : Int)) = false := decide_eq_false (by omega)
  have n0 : (0 : Int) ≤ n := by omega
  by_cases c1 : 65536 ≤ n
  · have d1 : decide (65536 ≤ (n : Int)) = true := decide_eq_true (by omega)
    have hb := blen_div (n := n) (j := 16) c1
    obtain ⟨k, hk⟩ : ∃ k, n / 2 ^ 16 = k := ⟨_, rfl⟩
    have e1 : (n : Int) / 65536 = (k : Int) := by omega
    have hk2 : k < 65536 := by omega
    rw [hk] at hb
    have k0 : (0 : Int) ≤ k := by omega
    by_cases c2 : 256 ≤ k
    · have d2 : decide (256 ≤ (k : Int)) = true := decide_eq_true (by omega)
      have hb2 := blen_div (n := k) (j := 8) c2
      obtain ⟨m, hm⟩ : ∃ m, k / 2 ^ 8 = m := ⟨_, rfl⟩
      have e2 : (k : Int) / 256 = (m : Int) := by omega
      have hm2 : m < 256 := by omega
      rw [hm] at hb2
      have m0 : (0 : Int) ≤ m := by omega
      have m1 : (m : Int) < 256 := by omega
      have w8 : IntKind.u8.wrap (m : Int) = m := by simp [IntKind.wrap, IntKind.signed, IntKind.bits]; omega
      go_enter Tryz.func175, Tryz.ntmps175
      go_wp2
      go_ret
      exact ⟨congrArg (fun x => Ending.returned (.int .i64 x)) (len_end 24 _ (by decide) (by decide +kernel) m hm2 _ n (by omega) (by omega)), rfl⟩
    · have d2 : decide (256 ≤ (k : Int)) = false := decide_eq_false (by omega)
      have m1 : (k : Int) < 256 := by omega
      have w8 : IntKind.u8.wrap (k : Int) = k := by simp [IntKind.wrap, IntKind.signed, IntKind.bits]; omega
      go_enter Tryz.func175, Tryz.ntmps175
      go_wp2
      go_ret
      exact ⟨congrArg (fun x => Ending.returned (.int .i64 x)) (len_end 16 _ (by decide) (by decide +kernel) k (by omega) _ n (by omega) (by omega)), rfl⟩
  · have d1 : decide (65536 ≤ (n : Int)) = false := decide_eq_false (by omega)
    by_cases c2 : 256 ≤ n
    · have d2 : decide (256 ≤ (n : Int)) = true := decide_eq_true (by omega)
      have hb2 := blen_div (n := n) (j := 8) c2
      obtain ⟨m, hm⟩ : ∃ m, n / 2 ^ 8 = m := ⟨_, rfl⟩
      have e2 : (n : Int) / 256 = (m : Int) := by omega
      have hm2 : m < 256 := by omega
      rw [hm] at hb2
      have m0 : (0 : Int) ≤ m := by omega
      have m1 : (m : Int) < 256 := by omega
      have w8 : IntKind.u8.wrap (m : Int) = m := by simp [IntKind.wrap, IntKind.signed, IntKind.bits]; omega
      go_enter Tryz.func175, Tryz.ntmps175
      go_wp2
      go_ret
      exact ⟨congrArg (fun x => Ending.returned (.int .i64 x)) (len_end 8 _ (by decide) (by decide +kernel) m hm2 _ n (by omega) (by omega)), rfl⟩
    · have d2 : decide (256 ≤ (n : Int)) = false := decide_eq_false (by omega)
      have m1 : (n : Int) < 256 := by omega
      have w8 : IntKind.u8.wrap (n : Int) = n := by simp [IntKind.wrap, IntKind.signed, IntKind.bits]; omega
      go_enter Tryz.func175, Tryz.ntmps175
      go_wp2
      go_ret
      exact ⟨congrArg (fun x => Ending.returned (.int .i64 x)) (len_end0 _ (by decide) (by decide +kernel) n (by omega) _), rfl⟩
theorem Len_ok (n : Nat) (hn : n < 4294967296) (w : World) : Calls Tryz.prog 171 #[.int .u64 n] w fun e w' => e = .returned (.int .i64 (blen n)) ∧ w = w' := by
  have HL := Lib.hid (fun W => Len64_ok n hn W)
  go_enter Tryz.func171, Tryz.ntmps171
  go_wp2_with (go_at_call 175; refine Calls.mono (HL.out _) ?_; rintro e w' ⟨rfl, rfl⟩)
  go_ret
  exact ⟨rfl, rfl⟩
theorem power_ok (n : Nat) (h1 : 1 ≤ n) (hn : n ≤ 1073741824) (w : World) : Calls Tryz.prog 157 #[.int .i64 n] w fun e w' => e = .returned (.int .i64 (2 ^ blen (n - 1) : Nat)) ∧ w = w' := by
  have HL := Lib.hid (fun W => Len_ok (n - 1) (by omega) W)
  have e1 : IntKind.i64.wrap ((n : Int) - 1) = ((n - 1 : Nat) : Int) := by rw [IntWalk.i64_in _ (by omega)]; omega
  have e2 : IntKind.u64.wrap ((n - 1 : Nat) : Int) = ((n - 1 : Nat) : Int) := u64_wrap _ (by omega)
  have hb : blen (n - 1) ≤ 30 := blen_le (by omega)
  have b0 : (0 : Int) ≤ (blen (n - 1) : Int) := by omega
  generalize n - 1 = m at *
  generalize blen m = k at *
  go_enter Tryz.func157, Tryz.ntmps157
  go_wp2_with (go_at_call 171; refine Calls.mono (HL.out _) ?_; rintro e w' ⟨rfl, rfl⟩)
  go_ret
  refine ⟨?_, rfl⟩
  have hk : 2 ^ k ≤ 2 ^ 30 := Nat.pow_le_pow_right (by decide) hb
  have e3 : (2 : Int) ^ k = ((2 ^ k : Nat) : Int) := by simp
  have e4 : wrap64 ((2 : Int) ^ k) = ((2 ^ k : Nat) : Int) := by rw [e3]; exact w64_nat _ (by omega)
  exact congrArg (fun x => Ending.returned (.int .i64 x)) e4
/-- The maximum number of lanes for some slot numbers. -/
def boundM (live : Nat) : Nat := 2 ^ blen (4 * live + 15)
theorem boundM_le (live : Nat) : 4 * live + 16 ≤ boundM live := by have := blen_lt (4 * live + 15); unfold boundM; omega
theorem boundM_min {live j : Nat} (h : 4 * live + 16 ≤ 2 ^ j) : boundM live ≤ 2 ^ j := Nat.pow_le_pow_right (by decide) (blen_le (by omega))
theorem boundM_pow {live : Nat} (hlt : boundM live < 8388608) : ∃ k, k ≤ 19 ∧ boundM live = 8 * 2 ^ k := by
  have h1 := boundM_le live
  unfold boundM at h1 hlt ⊢
  obtain ⟨b, hb⟩ : ∃ b, blen (4 * live + 15) = b := ⟨_, rfl⟩
  rw [hb] at h1 hlt ⊢
  have h3 : 3 ≤ b := by
    by_cases c : 3 ≤ b
    · exact c
    · have : 2 ^ b ≤ 2 ^ 2 := Nat.pow_le_pow_right (by decide) (by omega)
      omega
  have h23 : b < 23 := by
    by_cases c : b < 23
    · exact c
    · have : 2 ^ 23 ≤ 2 ^ b := Nat.pow_le_pow_right (by decide) (by omega)
      omega
  refine ⟨b - 3, by omega, ?_⟩
  rw [show b = 3 + (b - 3) by omega, Nat.pow_add]
  simp
theorem bound_ok (live : Nat) (hn : live ≤ 7340032) (w : World) : Calls Tryz.prog 117 #[.int .i64 live] w fun e w' => e = .returned (.int .i64 (boundM live)) ∧ w = w' := by
  have HL := Lib.hid (fun W => power_ok (4 * live + 16) (by omega) (by omega) W)
  have e0 : 4 * live + 16 - 1 = 4 * live + 15 := by omega
  rw [e0] at HL
  have e1 : IntKind.i64.wrap (4 * (live : Int)) = 4 * (live : Int) := IntWalk.i64_in _ (by omega)
  have e2 : IntKind.i64.wrap (4 * (live : Int) + 16) = ((4 * live + 16 : Nat) : Int) := by rw [IntWalk.i64_in _ (by omega)]; omega
  unfold boundM
  generalize 4 * live + 16 = z at *
  generalize 2 ^ blen (4 * live + 15) = r at *
  go_enter Tryz.func117, Tryz.ntmps117
  go_wp2_with (go_at_call 157; refine Calls.mono (HL.out _) ?_; rintro e w' ⟨rfl, rfl⟩)
  go_ret
  exact ⟨rfl, rfl⟩
/-- What is to be done after a slot number was taken out: how many groups, and whether it is made again. -/
def planR (g live : Nat) : Nat × Bool := if live ≤ 7340032 ∧ boundM live < 8 * g then (boundM live / 8, true) else (g, false)
def gremPost (w : World) (x : Nat × Bool) (e : Ending) (w' : World) : Prop := e = .returned (.tuple #[.agg #[.int .i64 (x.1 : Nat), .bool x.2], .int .i64 0]) ∧ Pure w w'
theorem planR_ok {g live : Nat} (hg : Pow g) : Pow (planR g live).1 ∧ ((planR g live).2 = true → live < 8 * (planR g live).1) ∧ ((planR g live).2 = false → (planR g live).1 = g) := by
  have hle := hg.le
  unfold planR
  split
  · rename_i h
    obtain ⟨k, hk, e⟩ := boundM_pow (live := live) (by omega)
    have h1 := boundM_le live
    rw [e, show 8 * 2 ^ k / 8 = 2 ^ k by omega]
    refine ⟨⟨k, by omega, rfl⟩, fun _ => ?_, by simp⟩
    dsimp only
    omega
  · exact ⟨hg, by simp, fun _ => rfl⟩
set_option maxHeartbeats 1000000 in
theorem gRemove_ok {g live tombs : Nat} (hg : Pow g) (h : live + tombs ≤ 8 * g) (w : World) : Calls Tryz.prog 59 #[.int .i64 g, .int .i64 live, .int .i64 tombs] w (gremPost w (planR g live)) := by
  have hg1 := hg.le
  have HC := Lib.hid (fun W => gcheck_ok hg h W)
  have wg : IntKind.i64.wrap ((g : Int) * 8) = (g : Int) * 8 := IntWalk.i64_in _ (by omega)
  obtain ⟨r, hr⟩ : ∃ r, planR g live = r := ⟨_, rfl⟩
  rw [hr]
  unfold planR at hr
  have hp0 : Pure w (w.alloc (.cells #[.int .i64 0, .bool false] 112)) := (Mod.refl _ w).alloc _
  have h6 := heap_new (w := w) (o := .cells #[.int .i64 0, .bool false] 112 (0, 0)) rfl
  have HP := Lib.hid hp0
  by_cases c1 : live ≤ 7340032
  · have d1 : decide ((live : Int) ≤ 7340032) = true := decide_eq_true (by omega)
    have HB := Lib.hid (fun W => bound_ok live c1 W)
    obtain ⟨bm, hbm⟩ : ∃ bm, boundM live = bm := ⟨_, rfl⟩
    rw [hbm] at HB hr
    by_cases c2 : bm < 8 * g
    · have d2 : decide ((bm : Int) < (g : Int) * 8) = true := decide_eq_true (by omega)
      rw [if_pos ⟨c1, c2⟩] at hr
      obtain ⟨q, hq⟩ : ∃ q, bm / 8 = q := ⟨_, rfl⟩
      have e8 : wrap64 ((bm : Int) / 8) = (q : Int) := by
        rw [show (bm : Int) / 8 = (q : Int) by omega]
        exact w64_nat _ (by omega)
      rw [hq] at hr
      have HR := Lib.hid hr
      clear hr hp0 hg h c1 c2 hbm
      go_enter Tryz.func59, Tryz.ntmps59
      go_upto_region 1 with fail
      generalize w.alloc (.cells #[.int .i64 0, .bool false] 112) = W1 at *
      obtain ⟨b6, hb6⟩ : ∃ b, w.heap.size = b := ⟨_, rfl⟩
      rw [hb6] at h6 ⊢
      have HB6 := Lib.hid hb6
      clear hb6
      go_upto_region 2 with (go_at_call 116; refine Calls.mono (HC.out _) ?_; rintro e w1 ⟨rfl, hp1⟩)
      have hh6 := hp1.heap (fun h => h) h6
      replace HP := Lib.hid (HP.out.trans hp1)
      clear hp1 h6
      have hh6_0 := cell_of_row _ _ 0 _ _ _ hh6; have hh6_1 := cell_of_row _ _ 1 _ _ _ hh6; have hh6_f := (fun j => frozen_of_row _ _ j _ _ hh6); have hh6_l := lt_of_block hh6; simp at hh6_0 hh6_1; have H_hh6 := Lib.hid hh6; clear hh6
      go_wp2_with (go_at_call 117; refine Calls.mono (HB.out _) ?_; rintro e w' ⟨rfl, rfl⟩)
      obtain ⟨f1, x0, x1⟩ := gfin (v0 := .int .i64 q) (v1 := .bool true) H_hh6.out HP.out (by have := HB6.out; omega) rfl
      obtain ⟨Y, hY⟩ : ∃ Y, (w1.setCell ⟨b6, 0, none⟩ (.int .i64 q)).setCell ⟨b6, 1, none⟩ (.bool true) = Y := ⟨_, rfl⟩
      rw [hY] at f1 x0 x1 ⊢
      rw [← HR.out]
      exact bodyPost_ret (v := .tuple #[.agg #[.int .i64 q, .bool true], .int .i64 0]) (by simp [results, Tryz.results59, go_sem, x0, x1]) rfl ⟨rfl, f1⟩
    · have d2 : decide ((bm : Int) < (g : Int) * 8) = false := decide_eq_false (by omega)
      rw [if_neg (fun h => c2 h.2)] at hr
      have HR := Lib.hid hr
      clear hr hp0 hg h c1 c2 hbm
      go_enter Tryz.func59, Tryz.ntmps59
      go_upto_region 1 with fail
      generalize w.alloc (.cells #[.int .i64 0, .bool false] 112) = W1 at *
      obtain ⟨b6, hb6⟩ : ∃ b, w.heap.size = b := ⟨_, rfl⟩
      rw [hb6] at h6 ⊢
      have HB6 := Lib.hid hb6
      clear hb6
      go_upto_region 2 with (go_at_call 116; refine Calls.mono (HC.out _) ?_; rintro e w1 ⟨rfl, hp1⟩)
      have hh6 := hp1.heap (fun h => h) h6
      replace HP := Lib.hid (HP.out.trans hp1)
      clear hp1 h6
      have hh6_0 := cell_of_row _ _ 0 _ _ _ hh6; have hh6_1 := cell_of_row _ _ 1 _ _ _ hh6; have hh6_f := (fun j => frozen_of_row _ _ j _ _ hh6); have hh6_l := lt_of_block hh6; simp at hh6_0 hh6_1; have H_hh6 := Lib.hid hh6; clear hh6
      go_wp2_with (go_at_call 117; refine Calls.mono (HB.out _) ?_; rintro e w' ⟨rfl, rfl⟩)
      obtain ⟨f1, x0, x1⟩ := gfin (v0 := .int .i64 g) (v1 := .bool false) H_hh6.out HP.out (by have := HB6.out; omega) rfl
      obtain ⟨Y, hY⟩ : ∃ Y, (w1.setCell ⟨b6, 0, none⟩ (.int .i64 g)).setCell ⟨b6, 1, none⟩ (.bool false) = Y := ⟨_, rfl⟩
      rw [hY] at f1 x0 x1 ⊢
      rw [← HR.out]
      exact bodyPost_ret (v := .tuple #[.agg #[.int .i64 g, .bool false], .int .i64 0]) (by simp [results, Tryz.results59, go_sem, x0, x1]) rfl ⟨rfl, f1⟩
  · have d1 : decide ((live : Int) ≤ 7340032) = false := decide_eq_false (by omega)
    rw [if_neg (fun h => c1 h.1)] at hr
    have HR := Lib.hid hr
    clear hr hp0 hg h c1
    go_enter Tryz.func59, Tryz.ntmps59
    go_upto_region 1 with fail
    generalize w.alloc (.cells #[.int .i64 0, .bool false] 112) = W1 at *
    obtain ⟨b6, hb6⟩ : ∃ b, w.heap.size = b := ⟨_, rfl⟩
    rw [hb6] at h6 ⊢
    have HB6 := Lib.hid hb6
    clear hb6
    go_upto_region 2 with (go_at_call 116; refine Calls.mono (HC.out _) ?_; rintro e w1 ⟨rfl, hp1⟩)
    have hh6 := hp1.heap (fun h => h) h6
    replace HP := Lib.hid (HP.out.trans hp1)
    clear hp1 h6
    have hh6_0 := cell_of_row _ _ 0 _ _ _ hh6; have hh6_1 := cell_of_row _ _ 1 _ _ _ hh6; have hh6_f := (fun j => frozen_of_row _ _ j _ _ hh6); have hh6_l := lt_of_block hh6; simp at hh6_0 hh6_1; have H_hh6 := Lib.hid hh6; clear hh6
    go_wp2
    obtain ⟨f1, x0, x1⟩ := gfin (v0 := .int .i64 g) (v1 := .bool false) H_hh6.out HP.out (by have := HB6.out; omega) rfl
    obtain ⟨Y, hY⟩ : ∃ Y, (w1.setCell ⟨b6, 0, none⟩ (.int .i64 g)).setCell ⟨b6, 1, none⟩ (.bool false) = Y := ⟨_, rfl⟩
    rw [hY] at f1 x0 x1 ⊢
    rw [← HR.out]
    exact bodyPost_ret (v := .tuple #[.agg #[.int .i64 g, .bool false], .int .i64 0]) (by simp [results, Tryz.results59, go_sem, x0, x1]) rfl ⟨rfl, f1⟩
end Go.Proofs.YtapplindfijngaaGreat

/- The references of layers 2 and 6: Part, Tag, Valid, All; probe.Valid for any number. -/
namespace Go.Proofs.YtapplindfijngaaGreat
open Go.RowKit Go.Shelf
set_option maxRecDepth 100000

/-! ### Part, Tag -/
theorem right_ok (s : Nat) (W : World) (hs : s < 18446744073709551616) : Calls Tryz.prog 166 #[.int .u64 s, .int .i64 7] W fun e w' => e = .returned (.int .u64 (s / 128 : Nat)) ∧ W = w' := by
  go_enter Tryz.func166, Tryz.ntmps166
  go_wp2
  go_loopw [0, 5] (fun v k wr => ∃ i, k = .int .i64 (i : Nat) ∧ i ≤ 7 ∧ v = .int .u64 (s / 2 ^ i : Nat) ∧ wr = W) (fun _ k _ => 7 - (intOf k).toNat)
  case atStart => exact ⟨0, rfl, by omega, by simp, rfl⟩
  case round =>
    obtain ⟨i, rfl, hi, rfl, rfl⟩ := hrel
    by_cases hlt : i < 7
    · have hlt' : (i : Int) < 7 := by omega
      obtain ⟨q, hq⟩ : ∃ q, s / 2 ^ i = q := ⟨_, rfl⟩
      have hql : q ≤ s := by rw [← hq]; exact Nat.div_le_self _ _
      have hq2 : s / 2 ^ (i + 1) = q / 2 := by rw [Nat.pow_succ, ← Nat.div_div_eq_div_mul, hq]
      have e1 : ((q : Int)).tdiv 2 = ((q / 2 : Nat) : Int) := by rw [Int.tdiv_eq_ediv_of_nonneg (by omega)]; rfl
      have e2 : ((q : Int)) / 2 = ((q / 2 : Nat) : Int) := rfl
      have e3 : IntKind.u64.wrap ((q / 2 : Nat) : Int) = ((q / 2 : Nat) : Int) := u64_wrap _ (by omega)
      have HQ := Lib.hid hq2
      rw [hq]
      clear hq hq2
      generalize q / 2 = r at *
      go_wp2
      go_roundw
      case rel => exact ⟨i + 1, by go_num, hlt, by rw [HQ.out], trivial⟩
      case measure => simp [intOf]; omega
    · have e : i = 7 := by omega
      subst e
      generalize hr : s / 2 ^ 7 = r
      go_wp2
      go_ret
      refine ⟨?_, rfl⟩
      rw [← hr]
      rfl
theorem rPart_ok (s : Nat) (W : World) (hs : s < 18446744073709551616) : Calls Tryz.prog 148 #[.int .u64 s] W fun e w' => e = .returned (.int .u64 (s / 128 : Nat)) ∧ W = w' := by
  have HR := Lib.hid (fun W => right_ok s W hs)
  obtain ⟨r, hr⟩ : ∃ r, s / 128 = r := ⟨_, rfl⟩
  rw [hr] at HR ⊢
  clear hr
  go_enter Tryz.func148, Tryz.ntmps148
  go_wp2_with (go_at_call 166; refine Calls.mono (HR.out _) ?_; rintro e w' ⟨rfl, rfl⟩)
  go_ret
  exact ⟨rfl, rfl⟩
theorem rTag_ok (s : Nat) (W : World) (hs : s < 18446744073709551616) : Calls Tryz.prog 149 #[.int .u64 s] W fun e w' => e = .returned (.int .u8 (s % 128 : Nat)) ∧ W = w' := by
  have e1 : (s : Int).tmod 128 = ((s % 128 : Nat) : Int) := by rw [Int.tmod_eq_emod_of_nonneg (by omega)]; rfl
  have e2 : (s : Int) % 128 = ((s % 128 : Nat) : Int) := rfl
  have e3 : IntKind.u8.wrap ((s % 128 : Nat) : Int) = ((s % 128 : Nat) : Int) := u8_wrap _ (by omega)
  have e4 : ((s % 128 : Nat) : Int) % 256 = ((s % 128 : Nat) : Int) := by omega
  have hl : s % 128 < 128 := Nat.mod_lt _ (by decide)
  generalize s % 128 = r at *
  go_enter Tryz.func149, Tryz.ntmps149
  go_wp2
  go_ret
  exact ⟨by simp [e1, e2, e3, e4], rfl⟩

/-! ### Valid -/
def validM (z : Int) : Bool := (List.range 21).any (fun k => z == ((2 ^ k : Nat) : Int))
theorem validM_pow {g : Nat} (h : Pow g) : validM g = true := by
  obtain ⟨k, hk, rfl⟩ := h
  exact List.any_eq_true.2 ⟨k, List.mem_range.2 (by omega), by simp⟩
theorem validM_iff (z : Int) : validM z = true ↔ ∃ g, Pow g ∧ z = (g : Int) := by
  constructor
  · intro h
    obtain ⟨k, hk, e⟩ := List.any_eq_true.1 h
    exact ⟨2 ^ k, ⟨k, by have := List.mem_range.1 hk; omega, rfl⟩, by simpa using e⟩
  · rintro ⟨g, hg, rfl⟩
    exact validM_pow hg
theorem rValid_ok (z : Int) (W : World) : Calls Tryz.prog 104 #[.int .i64 z] W fun e w' => e = .returned (.bool (validM z)) ∧ W = w' := by
  obtain ⟨res, hres⟩ : ∃ res, validM z = res := ⟨_, rfl⟩
  rw [hres]
  go_enter Tryz.func104, Tryz.ntmps104
  go_wp2
  go_loopw [3] (fun v wr => ∃ j, v = .int .i64 (2 ^ j : Nat) ∧ j ≤ 21 ∧ (∀ k, k < j → z ≠ ((2 ^ k : Nat) : Int)) ∧ wr = W) (fun v _ => 2097152 - (intOf v).toNat)
  case atStart => exact ⟨0, rfl, by omega, fun k hk => by omega, rfl⟩
  case round =>
    obtain ⟨j, rfl, hj, hn, rfl⟩ := hrel
    obtain ⟨n, hnn⟩ : ∃ n, 2 ^ j = n := ⟨_, rfl⟩
    have hnx : 2 ^ (j + 1) = 2 * n := by rw [Nat.pow_succ, hnn]; omega
    have HN := Lib.hid hn
    have HNX := Lib.hid hnx; have HNN := Lib.hid hnn
    rw [hnn]
    by_cases hlt : j ≤ 20
    · have hn1 : n ≤ 1048576 := by rw [← hnn]; exact Nat.pow_le_pow_right (n := 2) (by decide) hlt
      have hn0 : 0 < n := by rw [← hnn]; exact Nat.pow_pos (by decide)
      clear hn hnx hnn
      have hlt' : (n : Int) ≤ 1048576 := by omega
      have hn0' : (1 : Int) ≤ n := by omega
      have w2 : IntKind.i64.wrap (2 * (n : Int)) = 2 * (n : Int) := IntWalk.i64_in _ (by omega)
      by_cases hz : z = (n : Int)
      · subst hz
        go_wp2
        go_ret
        refine ⟨?_, rfl⟩
        rw [← hres, ← HNN.out, validM_pow ⟨j, hlt, rfl⟩]
        rfl
      · have hz' : ((n : Int) == z) = false := by simp; omega
        have hz2 : (n : Int) ≠ z := by omega
        go_wp2
        go_roundw
        case rel => exact ⟨j + 1, by rw [HNX.out]; rfl, by omega, fun k hk => by
          by_cases e : k = j
          · subst e; rw [HNN.out]; exact hz
          · exact HN.out k (by omega), trivial⟩
        case measure => simp [intOf]; omega
    · have e : j = 21 := by omega
      have hn1 : n = 2097152 := by rw [← hnn, e]
      subst hn1
      clear hnx
      go_wp2
      go_ret
      refine ⟨?_, rfl⟩
      rw [← hres]
      have : validM z = false := by
        cases h : validM z with
        | false => rfl
        | true =>
          obtain ⟨k, hk, e2⟩ := List.any_eq_true.1 h
          exact absurd (by simpa using e2) (HN.out k (by have := List.mem_range.1 hk; omega))
      rw [this]
      rfl

/-! ### All -/
theorem tri_succ (i : Nat) : (i + 1) * (i + 1 + 1) / 2 = i * (i + 1) / 2 + (i + 1) := by
  have e : (i + 1) * (i + 1 + 1) = i * (i + 1) + 2 * (i + 1) := by
    rw [Nat.mul_comm (i + 1) (i + 1 + 1), Nat.add_mul (i + 1) 1 (i + 1), Nat.add_mul i 1 (i + 1)]
    omega
  rw [e, Nat.add_mul_div_left _ _ (by decide)]
theorem atM_step (part g i : Nat) : (atM part g (i - 1) + i) % g = atM part g i := by
  unfold atM
  rw [Nat.mod_add_mod]
  cases i with
  | zero => rfl
  | succ i =>
    rw [Nat.add_sub_cancel, tri_succ]
    congr 1
    omega
def i64v (l : List Nat) : List Value := l.map (fun (x : Nat) => Value.int .i64 ((x : Nat) : Int))
theorem info_i64 : (Tryz.prog.info? 3).map (fun i => (i.zero, i.size, i.bytes)) = some (some (.int .i64 0), 1, 8) := by kernel_rfl
theorem rAll_ok (part g : Nat) (hg : Pow g) (hpart : part < 18446744073709551616) (W : World) : Calls Tryz.prog 147 #[.int .u64 part, .int .i64 g] W fun e w' => ∃ a c, e = .returned (.slice a g c) ∧ w'.ownsRow 0 3 1 (.slice a g c) g (i64v (probes part g)) ∧ Pure W w' ∧ ∀ k, (Value.slice a g c).ownBlock = some k → W.heap.size ≤ k := by
  have hg0 := hg.pos
  have hg1 := hg.le
  have HV := Lib.hid (fun W => (validM_pow hg ▸ rValid_ok (g : Int) W))
  have wg : IntKind.u64.wrap (g : Int) = g := u64_wrap g (by omega)
  have e1 : (part : Int).tmod (g : Int) = ((part % g : Nat) : Int) := by rw [Int.tmod_eq_emod_of_nonneg (by omega)]; rfl
  have e2 : (part : Int) % (g : Int) = ((part % g : Nat) : Int) := rfl
  have hpg : part % g < g := Nat.mod_lt _ hg0
  have w0 : IntKind.i64.wrap ((part % g : Nat) : Int) = ((part % g : Nat) : Int) := IntWalk.i64_in _ (by omega)
  have hat0 : part % g = atM part g (0 - 1) := by unfold atM; simp
  have w0' : wrap64 ((part % g : Nat) : Int) = ((part % g : Nat) : Int) := IntWalk.wrap64_in _ (by omega)
  have hgz : ((g : Int) == 0) = false := by simp; omega
  obtain ⟨q, hq⟩ : ∃ q, part % g = q := ⟨_, rfl⟩
  have HQ0 := Lib.hid hq
  rw [hq] at hat0
  go_enter Tryz.func147, Tryz.ntmps147
  go_upto_region 6 with (go_at_call 104; refine Calls.mono (HV.out _) ?_; rintro e w' ⟨rfl, rfl⟩)
  clear e1 e2 w0 w0' hq
  obtain ⟨i0, hi, iz0, iz1, iz2⟩ := info_parts info_i64
  go_loopw [5, 6, 7] (fun v5 v6 v7 wr => ∃ i a c, v7 = .int .i64 (i : Nat) ∧ i ≤ g ∧ v5 = .int .i64 (atM part g (i - 1) : Nat) ∧ v6 = .slice a i c ∧ wr.ownsRow 0 3 1 (.slice a i c) i (i64v ((probes part g).take i)) ∧ Pure W wr ∧ ∀ k, (Value.slice a i c).ownBlock = some k → W.heap.size ≤ k) (fun _ _ v7 _ => g - (intOf v7).toNat)
  case atStart => exact ⟨0, none, 0, rfl, Nat.zero_le _, by first | rfl | (rw [← hat0, ← HQ0.out, IntWalk.wrap64_in _ (by omega)]) | (rw [← hat0, ← HQ0.out]), rfl, World.ownsRow_nil _ _ _ _, Mod.refl _ _, fun k hk => by cases hk⟩
  case round =>
    obtain ⟨i, a, c, rfl, hil, rfl, rfl, hrow, hpu, hfr⟩ := hrel
    have HR := Lib.hid hrow; have HP := Lib.hid hpu; have HF := Lib.hid hfr
    clear hrow hpu hfr
    by_cases hlt : i < g
    · have hlt' : (i : Int) < (g : Int) := by omega
      have hst := atM_step part g i
      have hx : atM part g (i - 1) < g := Nat.mod_lt _ hg0
      have hz : atM part g i < g := Nat.mod_lt _ hg0
      have htk : i64v ((probes part g).take (i + 1)) = i64v ((probes part g).take i) ++ [.int .i64 (atM part g i : Nat)] := by
        unfold i64v
        rw [List.take_add_one]
        have : (probes part g)[i]? = some (atM part g i) := by
          unfold probes
          rw [List.getElem?_map, List.getElem?_range hlt]
          rfl
        rw [this]
        simp
      generalize atM part g (i - 1) = x at *
      have hai : atM part g (i + 1 - 1) = atM part g i := by rw [Nat.add_sub_cancel]
      have HTK := Lib.hid htk; have HAI := Lib.hid hai
      clear htk hai hat0
      have e1 : ((x : Int) + (i : Int)).tmod (g : Int) = ((atM part g i : Nat) : Int) := by rw [Int.tmod_eq_emod_of_nonneg (by omega), ← hst]; rfl
      have e2 : ((x : Int) + (i : Int)) % (g : Int) = ((atM part g i : Nat) : Int) := by rw [← hst]; rfl
      have w1 : IntKind.i64.wrap ((x : Int) + (i : Int)) = (x : Int) + (i : Int) := IntWalk.i64_in _ (by omega)
      clear hst
      generalize atM part g i = z at *
      go_wp2_with (at_builtin; refine wpList_append_read _ rfl _ _ 84 rfl 3 i0 _ 1 8 Tryz.underlying84 hi iz0 iz1 iz2 rfl (by decide) (.slice a i c) i _ rfl (owns_mod HR.out ((Mod.refl (fun _ => False) wr).alloc _) (fun _ _ h => h)) _ [.int .i64 (z : Nat)] 1 rfl (ReadAt.of_block 1 1 1 (heap_new rfl) (by rfl) (by simp [Value.oneCell'])) rfl (by unfold maxLen; omega) (by omega) ?_; intro a7 c7 w5 hr7 hg7 hb7)
      have hpw : Pure W w5 := (HP.out.alloc _).then (Mod.of_grown (S := fun k' => (Value.slice a i c).ownBlock = some k') hg7 (fun k e _ => e)) (fun k hk e => by have := HF.out k e; omega)
      have hfw : ∀ k, (Value.slice a7 (i + 1) c7).ownBlock = some k → W.heap.size ≤ k := fun k hk => by
        rcases hb7 with e | e
        · exact HF.out k (e ▸ hk)
        · rw [e] at hk; cases hk; exact (HP.out.alloc _).size
      have HPW := Lib.hid hpw; have HFW := Lib.hid hfw; have HR7 := Lib.hid hr7
      clear hpw hfw hr7 hg7 hb7
      go_roundw
      case rel => exact ⟨i + 1, a7, c7, by go_num, hlt, by rw [HAI.out], rfl, by rw [HTK.out]; exact HR7.out, HPW.out, HFW.out⟩
      case measure => simp [intOf]; omega
    · have hlt' : (g : Int) ≤ (i : Int) := by omega
      have e : g = i := by omega
      have htk : (probes part g).take i = probes part g := by rw [List.take_of_length_le]; unfold probes; simp; omega
      rw [htk] at HR
      subst e
      clear hlt' hlt hil
      go_wp2
      go_ret
      exact ⟨a, c, rfl, HR.out, HP.out, HF.out⟩
end Go.Proofs.YtapplindfijngaaGreat
