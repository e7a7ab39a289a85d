/- Log.Remove of a slot that has an entry. Condition: the log is made. -/
import Derived.Test.YtpafcocciggfpaaGreatLog
namespace Go.Proofs.YtpafcocciggfpaaGreat
open Go.RowKit
set_option maxRecDepth 100000

/-! ### Remove -/
theorem flat4_set (M : List (Option Ent × Value)) (i : Nat) (m m' : Option Ent × Value) (hi : M[i]? = some m) (a b c d : Value) (hm : slotCells m' = [a, b, c, d]) :
    ((((M.flatMap slotCells).set (i * 4) a).set (i * 4 + 1) b).set (i * 4 + 2) c).set (i * 4 + 3) d = (M.set i m').flatMap slotCells := by
  have h0 : ∀ r ∈ M.map slotCells, r.length = 4 := by
    intro r hr
    obtain ⟨x, _, rfl⟩ := List.mem_map.1 hr
    exact slotCells_length x
  have e := flatten_set 4 0 (by decide) a _ h0 i
  rw [Nat.add_zero] at e
  simp only [List.flatMap_def]
  rw [e, flatten_set 4 1 (by decide) b _ (modify_length h0 i 0 a) i, flatten_set 4 2 (by decide) c _ (modify_length (modify_length h0 i 0 a) i 1 b) i,
    flatten_set 4 3 (by decide) d _ (modify_length (modify_length (modify_length h0 i 0 a) i 1 b) i 2 c) i]
  congr 1
  have e2 : ∀ (f g : List Value → List Value) (R : List (List Value)), (R.modify i f).modify i g = R.modify i (g ∘ f) := fun f g R => List.modify_modify_eq f g i R
  rw [e2, e2, e2]
  refine modify_map_set slotCells _ m' M i m hi ?_
  rw [hm]
  have := slotCells_length m
  match h : slotCells m, this with
  | [_, _, _, _], _ => rfl

theorem live_set_none (M : List (Option Ent × Value)) (i : Nat) (e : Ent) (v v' : Value) (hi : M[i]? = some (some e, v)) : (liveOf ((M.set i (none, v')).map Prod.fst) : Int) = (liveOf (M.map Prod.fst) : Int) - 1 ∧ 1 ≤ liveOf (M.map Prod.fst) := by
  induction M generalizing i with
  | nil => simp at hi
  | cons a M ih =>
    cases i with
    | zero =>
      simp at hi
      subst hi
      simp [liveOf]
    | succ i =>
      have := ih i (by simpa using hi)
      simp only [List.set_cons_succ, List.map_cons, liveOf, List.countP_cons] at this ⊢
      omega

def removePost (w : World) (D : Nat → Prop) (p i : Nat) (x : Ent) (sv : Value) (M : List (Option Ent × Value)) (e : Ending) (w' : World) : Prop :=
  ∃ a n c, e = .returned (.tuple #[.agg #[.string x.key, .slice a n c, .int .u64 x.dl, .int .u64 x.birth], .int .i64 0]) ∧ BytesAt w' (.slice a n c) (bytesOf x.val) ∧ Fresh w (.slice a n c) ∧
    LogRow w' D p sv (M.set i (none, .slice none 0 0)) ∧ Mod D w w'

theorem remove_end {w W w' : World} {D : Nat → Prop} {p g c i lv : Nat} {x : Ent} {v : Value} {M : List (Option Ent × Value)}
    (HL : LogRow w D p (.slice (some ⟨g, 0, none⟩) M.length c) M) (hi : M[i]? = some (some x, v)) (HP : Pure w W)
    (hlv : liveOf (M.map Prod.fst) = lv)
    (hw' : (((((W.setCell ⟨g, i * 4, none⟩ (.string ⟨#[]⟩)).setCell ⟨g, i * 4 + 1, none⟩ (.slice none 0 0)).setCell ⟨g, i * 4 + 2, none⟩ (.int .u64 0)).setCell ⟨g, i * 4 + 3, none⟩ (.int .u64 0)).setCell ⟨p, 2, none⟩ (.int .i64 ((lv : Int) - 1))) = w') :
    LogRow w' D p (.slice (some ⟨g, 0, none⟩) M.length c) (M.set i (none, .slice none 0 0)) ∧ Mod D w w' := by
  subst hw'
  have HW := HL.pure HP
  have hlt : i < M.length := (List.getElem?_eq_some_iff.1 hi).1
  have hgp := HL.np (g := g) rfl
  have hDg : D g := (HL.dd g).2 (.inr rfl)
  have hDp : D p := (HL.dd p).2 (.inl rfl)
  have hmod : Mod D W (((((W.setCell ⟨g, i * 4, none⟩ (.string ⟨#[]⟩)).setCell ⟨g, i * 4 + 1, none⟩ (.slice none 0 0)).setCell ⟨g, i * 4 + 2, none⟩ (.int .u64 0)).setCell ⟨g, i * 4 + 3, none⟩ (.int .u64 0)).setCell ⟨p, 2, none⟩ (.int .i64 ((lv : Int) - 1))) :=
    (((((Mod.refl D W).setCell (p := ⟨g, i * 4, none⟩) (fun _ => hDg) _).setCell (p := ⟨g, i * 4 + 1, none⟩) (fun _ => hDg) _).setCell (p := ⟨g, i * 4 + 2, none⟩) (fun _ => hDg) _).setCell (p := ⟨g, i * 4 + 3, none⟩) (fun _ => hDg) _).setCell (p := ⟨p, 2, none⟩) (fun _ => hDp) _
  have hl := live_set_none M i x v (.slice none 0 0) hi
  refine ⟨⟨?_, ?_, fun e u hm => ?_, ?_, ?_⟩, (Mod.of_pure HP).trans hmod⟩
  · have hb : ((((W.setCell ⟨g, i * 4, none⟩ (.string ⟨#[]⟩)).setCell ⟨g, i * 4 + 1, none⟩ (.slice none 0 0)).setCell ⟨g, i * 4 + 2, none⟩ (.int .u64 0)).setCell ⟨g, i * 4 + 3, none⟩ (.int .u64 0)).heap[p]? = _ :=
      heap_set_other (heap_set_other (heap_set_other (heap_set_other HW.box hgp.symm) hgp.symm) hgp.symm) hgp.symm
    have := heap_setCell_same _ p 2 _ _ (.int .i64 ((lv : Int) - 1)) hb
    rw [this, hl.1, hlv]
    rfl
  · have r0 := owns_setCell HW.row (i * 4) (.string ⟨#[]⟩) (by omega)
    have r1 := owns_setCell r0 (i * 4 + 1) (.slice none 0 0) (by omega)
    have r2 := owns_setCell r1 (i * 4 + 2) (.int .u64 0) (by omega)
    have r3 := owns_setCell r2 (i * 4 + 3) (.int .u64 0) (by omega)
    rw [flat4_set M i _ (none, .slice none 0 0) hi _ _ _ _ rfl] at r3
    have r4 := owns_mod r3 (S := fun k => k = p) ((Mod.refl (fun k => k = p) _).setCell (p := ⟨p, 2, none⟩) (fun _ => rfl) (.int .i64 ((lv : Int) - 1))) (fun g' e h => by cases e; exact hgp h)
    rw [List.length_set]
    exact r4
  · have hm' : (some e, u) ∈ M := by
      rcases List.mem_or_eq_of_mem_set hm with h | h
      · exact h
      · cases h
    exact bytes_frame (HW.vals e u hm') hmod (fun k _ hk cs fz => HW.nobytes hk cs fz)
  · exact HL.dd
  · refine ⟨by have := HL.ok.len; simpa using this, fun e he => ?_⟩
    rw [List.map_set] at he
    rcases List.mem_or_eq_of_mem_set he with h | h
    · exact HL.ok.ent e h
    · cases h

set_option maxHeartbeats 800000 in
theorem Remove_hit {w : World} {D : Nat → Prop} {p : Nat} {sv : Value} {M : List (Option Ent × Value)} (h : LogRow w D p sv M) {i : Nat} {x : Ent} {v : Value} (hi : M[i]? = some (some x, v)) :
    Calls Tryz.prog 27 #[.pointer (some ⟨p, 0, none⟩), .int .u32 i] w (removePost w D p i x sv M) := by
  obtain ⟨g, c, rfl, hg, ng, hlt, hn, hc, hf⟩ := h.slot hi
  obtain ⟨c0, c1, c2, cf⟩ := h.cells
  have hx := (h.vals x v (List.mem_of_getElem? hi)).read (bytesOf_one _)
  have hok := h.ok.ent x (List.mem_map.2 ⟨_, List.mem_of_getElem? hi, rfl⟩)
  have s0 : w.cell? ⟨g, i * 4, none⟩ = _ := hc 0 _ rfl; have s1 := hc 1 _ rfl; have s2 := hc 2 _ rfl; have s3 := hc 3 _ rfl
  have hlp : p < w.heap.size := World.block_lt_of_cell? w _ c0
  have hb : (x.birth == 0) = false := by have := hok.b0; simp; omega
  obtain ⟨a, n, cc, rfl, hl, _⟩ := id hx
  have hn' : n ≤ 140737488355328 := by have := hok.v1; rw [bytesOf_length] at hl; omega
  have H := Lib.hid (hx.frame ((Mod.refl (fun _ => False) w).alloc (.cells #[.string ByteArray.empty, .slice none 0 0, .int .u64 0, .int .u64 0] 42)) (fun _ _ h => h))
  have HL := Lib.hid h
  have HI := Lib.hid hi
  generalize hlv : (liveOf (M.map Prod.fst)) = lv at c2
  have hlv1 : 1 ≤ lv ∧ lv ≤ 4194304 := by have := (live_set_none M i x _ (.slice none 0 0) hi).2; have := liveOf_le (M.map Prod.fst); rw [List.length_map] at this; omega
  have HLV := Lib.hid hlv
  obtain ⟨hlv1, hlv2⟩ := hlv1
  clear h hx hc hl hlv hi
  have hlp1 : p < w.heap.size + 1 := by omega
  have hg1 : g < w.heap.size + 1 := by omega
  go_enter Tryz.func27, Tryz.ntmps27
  go_upto_region 5 with (first | (go_at_call 89; refine Calls.mono (at_hit p g _ c i x.birth _ (by simpa [go_sem, hlp] using c0) (by simpa [go_sem, hlp] using c1) hlt hn (by simpa [go_sem, hg] using s3) hb) ?_; rintro e w' ⟨rfl, rfl⟩) | (go_at_call 90; refine Calls.mono (entry_Copy x.key a n cc _ _ _ _ H.out hn') ?_; rintro e w1 ⟨a', n', c', rfl, hr, hfr, hp⟩; obtain ⟨hpc, hpf⟩ := hp.cells))
  have hz : w.heap.size < w1.heap.size := by have := hp.size; simp at this; omega
  have HP : Pure w (w1.alloc (.cells #[.string x.key, .slice a' n' c', .int .u64 x.dl, .int .u64 x.birth] 42)) := by
    (repeat' (first | (with_reducible exact Mod.refl _ _) | (with_reducible refine Mod.alloc ?_ _) | (with_reducible refine Mod.drew ?_) | (with_reducible refine Mod.drewN ?_ _) | (with_reducible refine Mod.setCell ?_ ?_ _) | (refine Mod.then ?_ (by with_reducible assumption) ?_)))
    (all_goals (intros; first | (exfalso; assumption) | omega | (simp at *; done) | (simp at *; omega)))
  have hA : (w1.alloc (.cells #[.string x.key, .slice a' n' c', .int .u64 x.dl, .int .u64 x.birth] 42)).heap[w.heap.size]? = some (.cells #[.string ByteArray.empty, .slice none 0 0, .int .u64 0, .int .u64 0] 42 (0, 0)) := heap_keep (hp.heap (fun h => h) (heap_new rfl))
  have hB : (w1.alloc (.cells #[.string x.key, .slice a' n' c', .int .u64 x.dl, .int .u64 x.birth] 42)).heap[w1.heap.size]? = some (.cells #[.string x.key, .slice a' n' c', .int .u64 x.dl, .int .u64 x.birth] 42 (0, 0)) := heap_new rfl
  have HRD : BytesAt (w1.alloc (.cells #[.string x.key, .slice a' n' c', .int .u64 x.dl, .int .u64 x.birth] 42)) (.slice a' n' c') (bytesOf x.val) := owns_mod (bytesAt_of hr) ((Mod.refl (fun _ => False) w1).alloc _) (fun _ _ h => h)
  have hfr' : ∀ k, (Value.slice a' n' c').ownBlock = some k → w.heap.size < k := fun k e => by have := hfr k e; simp at this; omega
  generalize hW : w1.alloc (.cells #[.string x.key, .slice a' n' c', .int .u64 x.dl, .int .u64 x.birth] 42) = W at HP hA hB HRD ⊢
  have hgB : g ≠ w1.heap.size := by omega
  have hpB : p ≠ w1.heap.size := by omega
  have hAB : w.heap.size ≠ w1.heap.size := by omega
  have hsB : w.heap.size < w1.heap.size := hz
  generalize w1.heap.size = B at hB hgB hpB hAB hsB ⊢
  clear hW hpc hpf hz hp hr hfr hlp1 hg1
  have hgA : g ≠ w.heap.size := by omega
  have hpA : p ≠ w.heap.size := by omega
  have HSZ : Hid (w.heap.size ≤ w.heap.size) := Nat.le_refl _
  have ar : ∀ (j : Nat), W.frozen? ⟨w.heap.size, j, none⟩ = false := fun j => frozen_of_row W _ j _ _ hA
  have ac := fun j => cell_of_row W w.heap.size j _ _ _ hA
  have bc := fun j => cell_of_row W B j _ _ _ hB
  have a0 := ac 0; have a1 := ac 1; have a2 := ac 2; have a3 := ac 3
  have b0 := bc 0; have b1 := bc 1; have b2 := bc 2; have b3 := bc 3
  simp at a0 a1 a2 a3 b0 b1 b2 b3
  replace c2 := HP.cell (fun h => h) c2
  replace s0 := HP.cell (fun h => h) s0; replace s1 := HP.cell (fun h => h) s1; replace s2 := HP.cell (fun h => h) s2; replace s3 := HP.cell (fun h => h) s3
  have cfW : W.frozen? ⟨p, 2, none⟩ = false := (World.frozen?_of_block (w := w) (a := ⟨p, 2, none⟩) (HP.block p hlp (fun h => h))).trans (cf 2)
  have hfW : ∀ j, W.frozen? ⟨g, j, none⟩ = false := fun j => (World.frozen?_of_block (w := w) (a := ⟨g, j, none⟩) (HP.block g hg (fun h => h))).trans (hf j)
  have HHP := Lib.hid HP
  have HHA := Lib.hid hA
  have HRD' := Lib.hid HRD
  have HFR := Lib.hid hfr'
  clear ac bc hA hB HP HRD hfr' c0 c1 cf hf
  go_upto_region 7 with fail
  have hend := remove_end (w' := (((((W.setCell ⟨g, i * 4, none⟩ (.string ⟨#[]⟩)).setCell ⟨g, i * 4 + 1, none⟩ (.slice none 0 0)).setCell ⟨g, i * 4 + 2, none⟩ (.int .u64 0)).setCell ⟨g, i * 4 + 3, none⟩ (.int .u64 0)).setCell ⟨p, 2, none⟩ (.int .i64 ((lv : Int) - 1)))) HL.out HI.out HHP.out HLV.out rfl
  have kA : (((((W.setCell ⟨g, i * 4, none⟩ (.string ⟨#[]⟩)).setCell ⟨g, i * 4 + 1, none⟩ (.slice none 0 0)).setCell ⟨g, i * 4 + 2, none⟩ (.int .u64 0)).setCell ⟨g, i * 4 + 3, none⟩ (.int .u64 0)).setCell ⟨p, 2, none⟩ (.int .i64 ((lv : Int) - 1))).heap[w.heap.size]? = _ :=
    heap_set_other (heap_set_other (heap_set_other (heap_set_other (heap_set_other HHA.out hgA.symm) hgA.symm) hgA.symm) hgA.symm) hpA.symm
  have kB : ∀ j u, W.cell? ⟨B, j, none⟩ = some u → (((((W.setCell ⟨g, i * 4, none⟩ (.string ⟨#[]⟩)).setCell ⟨g, i * 4 + 1, none⟩ (.slice none 0 0)).setCell ⟨g, i * 4 + 2, none⟩ (.int .u64 0)).setCell ⟨g, i * 4 + 3, none⟩ (.int .u64 0)).setCell ⟨p, 2, none⟩ (.int .i64 ((lv : Int) - 1))).cell? ⟨B, j, none⟩ = some u := by
    intro j u hu
    rw [World.cell?_setCell_other _ _ _ _ (by simp [hpB]), World.cell?_setCell_other _ _ _ _ (by simp [hgB]), World.cell?_setCell_other _ _ _ _ (by simp [hgB]), World.cell?_setCell_other _ _ _ _ (by simp [hgB]), World.cell?_setCell_other _ _ _ _ (by simp [hgB])]
    exact hu
  have hRD : BytesAt (((((W.setCell ⟨g, i * 4, none⟩ (.string ⟨#[]⟩)).setCell ⟨g, i * 4 + 1, none⟩ (.slice none 0 0)).setCell ⟨g, i * 4 + 2, none⟩ (.int .u64 0)).setCell ⟨g, i * 4 + 3, none⟩ (.int .u64 0)).setCell ⟨p, 2, none⟩ (.int .i64 ((lv : Int) - 1))) (.slice a' n' c') (bytesOf x.val) := by
    refine owns_mod HRD'.out (S := fun k => k = g ∨ k = p) ?_ (fun k e h => by have := HFR.out k e; omega)
    (repeat' (first | (with_reducible exact Mod.refl _ _) | (with_reducible refine Mod.alloc ?_ _) | (with_reducible refine Mod.drew ?_) | (with_reducible refine Mod.drewN ?_ _) | (with_reducible refine Mod.setCell ?_ ?_ _) | (refine Mod.then ?_ (by with_reducible assumption) ?_)))
    all_goals (intro _; first | exact .inl rfl | exact .inr rfl)
  replace b0 := kB _ _ b0; replace b1 := kB _ _ b1; replace b2 := kB _ _ b2; replace b3 := kB _ _ b3
  generalize (((((W.setCell ⟨g, i * 4, none⟩ (.string ⟨#[]⟩)).setCell ⟨g, i * 4 + 1, none⟩ (.slice none 0 0)).setCell ⟨g, i * 4 + 2, none⟩ (.int .u64 0)).setCell ⟨g, i * 4 + 3, none⟩ (.int .u64 0)).setCell ⟨p, 2, none⟩ (.int .i64 ((lv : Int) - 1))) = W3 at *
  clear kB a0 a1 a2 a3 c2 s0 s1 s2 s3 ar hfW cfW
  have ac := fun j => cell_of_row W3 w.heap.size j _ _ _ kA
  have ar : ∀ (j : Nat), W3.frozen? ⟨w.heap.size, j, none⟩ = false := fun j => frozen_of_row W3 _ j _ _ kA
  have a0 := ac 0; have a1 := ac 1; have a2 := ac 2; have a3 := ac 3
  simp at a0 a1 a2 a3
  have HE := Lib.hid hend
  have HKA := Lib.hid kA
  have HRD3 := Lib.hid hRD
  clear hend kA ac hRD
  go_wp2
  refine bodyPost_ret (v := .tuple #[.agg #[.string x.key, .slice a' n' c', .int .u64 x.dl, .int .u64 x.birth], .int .i64 0]) (by simp [results, Tryz.results27, go_sem, a0, a1, a2, a3]) rfl ⟨a', n', c', rfl, ?_, ?_, ?_, ?_⟩
  · refine owns_mod HRD3.out (S := fun k => k = w.heap.size) ?_ (fun k e h => by have := HFR.out k e; omega)
    (repeat' (first | (with_reducible exact Mod.refl _ _) | (with_reducible refine Mod.alloc ?_ _) | (with_reducible refine Mod.drew ?_) | (with_reducible refine Mod.drewN ?_ _) | (with_reducible refine Mod.setCell ?_ ?_ _) | (refine Mod.then ?_ (by with_reducible assumption) ?_)))
    (all_goals (intros; first | (exfalso; assumption) | omega | (simp at *; done) | (simp at *; omega)))
  · exact fun k e => Nat.le_of_lt (HFR.out k e)
  · refine HE.out.1.frame (S := fun k => k = w.heap.size) ?_ (fun k hk h => by have := HL.out.lt hk; omega) ?_
    · (repeat' (first | (with_reducible exact Mod.refl _ _) | (with_reducible refine Mod.alloc ?_ _) | (with_reducible refine Mod.drew ?_) | (with_reducible refine Mod.drewN ?_ _) | (with_reducible refine Mod.setCell ?_ ?_ _) | (refine Mod.then ?_ (by with_reducible assumption) ?_)))
      (all_goals (intros; first | (exfalso; assumption) | omega | (simp at *; done) | (simp at *; omega)))
    · rintro k _ rfl cs fz e
      rw [HKA.out] at e
      cases e
  · refine HE.out.2.then (T := fun k => k = w.heap.size) ?_ (fun k hk h => by omega)
    (repeat' (first | (with_reducible exact Mod.refl _ _) | (with_reducible refine Mod.alloc ?_ _) | (with_reducible refine Mod.drew ?_) | (with_reducible refine Mod.drewN ?_ _) | (with_reducible refine Mod.setCell ?_ ?_ _) | (refine Mod.then ?_ (by with_reducible assumption) ?_)))
    (all_goals (intros; first | (exfalso; assumption) | omega | (simp at *; done) | (simp at *; omega)))
end Go.Proofs.YtpafcocciggfpaaGreat
