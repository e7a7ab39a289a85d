/- The reference's Remove of a slot that has an entry. Condition: the log's rows are its own (RefRow). -/
import Derived.Test.YtbjiebhbmpafpaaRef9d
namespace Go.Proofs.Ytbjiebhbmpafpaa
open Go.RowKit Go.Shelf
set_option maxRecDepth 100000

theorem rm_ret {w W6 w' : World} {b7 : Nat} {aL : Option Addr} {cL : Nat} {aG : Option Addr} {cG n : Nat} {aL2 : Option Addr} {cL2 : Nat} {a7 : Option Addr} {c7 : Nat} {Q Q2 : List RQ} {x : Ent} {v : Value} {k1 s : Nat}
    (HF : RmFin w b7 aL cL aG cG n aL2 cL2 a7 c7 Q2 W6) (hQ2 : Q2.map absQ = (Q.map absQ).set s (x, true)) (hl : Q2.length = k1)
    (u0 u1 u2 u3 u4 u5 : Value) (hw' : w' = ((((((W6.setCell ⟨w.heap.size + 1, 0, none⟩ u0).setCell ⟨w.heap.size + 1, 1, none⟩ u1).setCell ⟨w.heap.size + 1 + 1, 0, none⟩ u2).setCell ⟨w.heap.size + 1 + 1, 1, none⟩ u3).setCell ⟨w.heap.size + 1 + 1, 2, none⟩ u4).setCell ⟨w.heap.size + 1 + 1, 3, none⟩ u5).drew) :
    refRemHit w Q s x v (.returned (.tuple #[refV aL2 cL2 a7 c7 k1, entV x v, .int .i64 0])) w' := by
  subst hl hw'
  have z5 := HF.r5
  have hm1 : Mod (fun i => i = w.heap.size + 1) W6 ((W6.setCell ⟨w.heap.size + 1, 0, none⟩ u0).setCell ⟨w.heap.size + 1, 1, none⟩ u1) := Mod.set2 _ _ _ _ _
  have R1 := HF.R.modT hm1 (fun i hi _ => by subst hi; exact ⟨_, _, HF.r4⟩)
  have r5 := hm1.heap (by omega) HF.r5
  generalize (W6.setCell ⟨w.heap.size + 1, 0, none⟩ u0).setCell ⟨w.heap.size + 1, 1, none⟩ u1 = W7 at hm1 R1 r5 ⊢
  obtain ⟨zr, zm⟩ := box4 r5 u2 u3 u4 u5
  generalize ((((W7.setCell ⟨w.heap.size + 1 + 1, 0, none⟩ u2).setCell ⟨w.heap.size + 1 + 1, 1, none⟩ u3).setCell ⟨w.heap.size + 1 + 1, 2, none⟩ u4).setCell ⟨w.heap.size + 1 + 1, 3, none⟩ u5) = W8 at zr zm ⊢
  replace zm := zm.drew
  clear zr
  generalize W8.drew = W8 at zm ⊢
  have hne : ∀ {T k n : Nat} {v : Value} {xs : List Value}, W7.ownsRow 0 T k v n xs → (∀ g, v.ownBlock = some g → g ≠ w.heap.size + 1 + 1) → W8.ownsRow 0 T k v n xs := fun ho h => owns_mod ho zm (fun g hg e => h g hg e)
  refine ⟨aL2, cL2, a7, c7, Q2, rfl, hQ2, ⟨hne R1.L (fun g hg => by have := HF.fL g hg; omega), hne R1.G (fun g hg => by have := HF.fG g hg; omega), fun q hq => ?_, R1.ok, R1.len⟩, fun g hg => by have := HF.fL g hg; omega, fun g hg => by have := HF.fG g hg; omega, (HF.pu.then hm1 (fun i hi h => by omega)).then zm (fun i hi h => by omega)⟩
  exact owns_modT (R1.vals q hq) zm (fun i hi _ => by subst hi; exact ⟨_, _, _, r5, by decide⟩)

set_option maxHeartbeats 1000000 in
theorem ref_Remove_hit {w : World} {aL : Option Addr} {cL : Nat} {aG : Option Addr} {cG : Nat} {Q : List RQ} (h : RefRow w aL cL aG cG Q) (s : Nat) (hs : s ≤ 4294967295) (x : Ent) (v : Value) (hx : Q[s]? = some (x, v, false)) :
    Calls Try.prog 21 #[refV aL cL aG cG Q.length, .int .u32 s] w (refRemHit w Q s x v) := by
  have hh : hasQ Q s = true := by simp [hasQ, hx]
  have hlt : s < Q.length := (List.getElem?_eq_some_iff.1 hx).1
  have hlt1 : (s : Int) < (Q.length : Int) := by omega
  have hs1 : (s : Int) ≤ 4294967295 := by omega
  obtain ⟨g, _, hsv, _, hg, hc, hf, _⟩ := owns_at h.L (by omega)
  cases hsv
  have hcc : ∀ j u, (cellsQ (x, v, false))[j]? = some u → w.cell? ⟨g, s * 4 + j, none⟩ = some u := by
    intro j u hu
    have hj : j < 4 := by rw [← cellsQ_length (x, v, false)]; exact (List.getElem?_eq_some_iff.1 hu).1
    refine hc _ _ ?_
    rw [flat_get cellsQ 4 cellsQ_length j hj, hx]
    exact hu
  have hv := h.vals _ (List.mem_of_getElem? hx)
  obtain ⟨va, vc, hve, _⟩ := owns_form hv
  dsimp only at hve
  subst hve
  have s0 : w.cell? ⟨g, s * 4, none⟩ = _ := hcc 0 _ rfl; have s1 := hcc 1 _ rfl; have s2 := hcc 2 _ rfl; have s3 := hcc 3 _ rfl
  dsimp only at s0 s1 s2 s3
  have H := Lib.hid h
  have HH := Lib.hid hh
  have HX := Lib.hid hx
  clear h hh hx hc hf hcc hv
  have S0 := Lib.hid s0; have S1 := Lib.hid s1; have S2 := Lib.hid s2; have S3 := Lib.hid s3
  clear s0 s1 s2 s3
  go_enter Try.func21, Try.ntmps21
  go_upto_region 4 with (first
    | (go_at_call 64; refine Calls.mono (ref_Has (H.out.pure (by (repeat' (first | (with_reducible exact Mod.refl _ _) | (with_reducible refine Mod.alloc ?_ _) | (with_reducible refine Mod.drew ?_) | (with_reducible refine Mod.drewN ?_ _) | (with_reducible refine Mod.setCell ?_ ?_ _) | (refine Mod.then ?_ (by with_reducible assumption) ?_))) <;> (all_goals (intros; first | (exfalso; assumption) | omega | (simp at *; done) | (simp at *; omega))))) s hs) ?_; rintro e w1 ⟨rfl, hp⟩; rw [HH.out]; have hp' : Pure w w1 := (by (repeat' (first | (with_reducible exact Mod.refl _ _) | (with_reducible refine Mod.alloc ?_ _) | (with_reducible refine Mod.drew ?_) | (with_reducible refine Mod.drewN ?_ _) | (with_reducible refine Mod.setCell ?_ ?_ _) | (refine Mod.then ?_ (by with_reducible assumption) ?_))) <;> (all_goals (intros; first | (exfalso; assumption) | omega | (simp at *; done) | (simp at *; omega)))); have HP := Lib.hid hp'; have z4 := hp.heap (fun h => h) (heap_keep (o := .cells #[.string ⟨#[]⟩, .slice none 0 0, .int .u64 0, .int .u64 0] 48 (0, 0)) (heap_new (w := w.alloc (.cells #[.slice (some ⟨g, 0, none⟩) Q.length cL, .slice aG Q.length cG] 30)) (o := .cells #[.slice none 0 0, .slice none 0 0] 30 (0, 0)) (n := w.heap.size + 1) (by simp))); have z5 := hp.heap (fun h => h) (heap_new (o := .cells #[.string ⟨#[]⟩, .slice none 0 0, .int .u64 0, .int .u64 0] 48 (0, 0)) (n := w.heap.size + 1 + 1) (by simp)); have z2 := hp.heap (fun h => h) (heap_keep (o := .cells #[.string ⟨#[]⟩, .slice none 0 0, .int .u64 0, .int .u64 0] 48 (0, 0)) (heap_keep (o := .cells #[.slice none 0 0, .slice none 0 0] 30 (0, 0)) (heap_new (w := w) (o := .cells #[.slice (some ⟨g, 0, none⟩) Q.length cL, .slice aG Q.length cG] 30 (0, 0)) rfl))); have Z4 := Lib.hid z4; have Z5 := Lib.hid z5; clear z4 z5; have z2_0 := cell_of_row _ _ 0 _ _ _ z2; have z2_1 := cell_of_row _ _ 1 _ _ _ z2; have z2_f := (fun j => frozen_of_row _ _ j _ _ z2); have z2_l := lt_of_block z2; simp at z2_0 z2_1; have H_z2 := Lib.hid z2; clear z2; clear hp hp')
    | (go_at_call 65; refine Calls.mono (ref_LogCopy (H.out.pure HP.out)) ?_; rintro e w2 ⟨aL', cL', aG', cG', Q', rfl, hq', hR', hfL, hfG, hp⟩; clear z2_0 z2_1 z2_f z2_l))
  have hlQ : Q'.length = Q.length := by have := congrArg List.length hq'; simpa using this
  have hP2 := HP.out.trans hp
  have hal : Pure w2 (w2.alloc (.cells #[.slice aL' Q'.length cL', .slice aG' Q'.length cG'] 30)) := (Mod.refl _ w2).alloc _
  have hsz : w.heap.size + 1 + 1 < w1.heap.size := lt_of_block Z5.out
  obtain ⟨g7, cg7, hsv, _, hg7, hc7, hf7, _⟩ := owns_at hR'.G (by omega)
  cases hsv
  have hltq : s < Q'.length := by omega
  have hq := List.getElem?_eq_getElem hltq
  generalize Q'[s] = q at hq
  have hfin := rm_fin (b7 := w2.heap.size) (hP2.trans hal) ((hp.trans hal).heap (fun h => h) H_z2.out) ((hp.trans hal).heap (fun h => h) Z4.out) ((hp.trans hal).heap (fun h => h) Z5.out) (heap_new rfl) (hR'.pure hal) hq (fun k hk => by have := hfL k hk; omega) (by have := hfG g7 rfl; omega)
  have e0 := (hR'.pure hal).G
  have hQ2 := Lib.hid (set_abs Q Q' s q x _ false hq' hq HX.out)
  have l7 : w2.heap.size < (w2.alloc (.cells #[.slice aL' Q'.length cL', .slice (some ⟨g7, 0, none⟩) Q'.length cG'] 30)).heap.size := by simp
  have z7 : (w2.alloc (.cells #[.slice aL' Q'.length cL', .slice (some ⟨g7, 0, none⟩) Q'.length cG'] 30)).heap[w2.heap.size]? = _ := heap_new rfl
  obtain ⟨g8, cg8, hsv, _, hg8, hc8, hf8, _⟩ := owns_at e0 (by omega)
  cases hsv
  have hpw := hP2.trans hal
  have t0 := hpw.cell (fun h => h) S0.out; have t1 := hpw.cell (fun h => h) S1.out; have t2 := hpw.cell (fun h => h) S2.out; have t3 := hpw.cell (fun h => h) S3.out
  have hltq1 : (s : Int) < (Q'.length : Int) := by omega
  have sg := hc8 s (goneQ q) (by rw [List.getElem?_map, hq]; rfl)
  have hne7 : g7 ≠ w2.heap.size := by omega
  have hneg : g ≠ g7 := fun e => by have := hfG g7 rfl; have := HP.out.size; omega
  have hl2 : (Q'.set s (q.1, q.2.1, true)).length = Q'.length := by simp
  have HL2 := Lib.hid hl2
  have HLQ := Lib.hid hlQ
  clear hc7 hf7 hc8 hpw hP2 hp hR' hfL hfG hq' hlQ e0 hl2 hal hq
  generalize w2.alloc (.cells #[.slice aL' Q'.length cL', .slice (some ⟨g7, 0, none⟩) Q'.length cG'] 30) = W at *
  generalize w2.heap.size = b7 at *
  have z7_0 := cell_of_row _ _ 0 _ _ _ z7; have z7_1 := cell_of_row _ _ 1 _ _ _ z7; have z7_f := (fun j => frozen_of_row _ _ j _ _ z7); have z7_l := lt_of_block z7; simp at z7_0 z7_1; have H_z7 := Lib.hid z7; clear z7
  go_upto_region 5 with fail
  clear z7_0 z7_1 z7_f z7_l
  clear t0 t1 t2 t3 sg
  generalize W.setCell ⟨g7, s, none⟩ (.bool true) = W6 at hfin ⊢
  generalize hQe : Q'.set s (q.1, q.2.1, true) = Q2 at *
  have HF := Lib.hid hfin
  have z4 := hfin.r4; have z5 := hfin.r5; have z2 := hfin.r2; have z7 := hfin.r7
  rw [HL2.out] at z7
  have t0 := hfin.pu.cell (fun h => h) S0.out; have t1 := hfin.pu.cell (fun h => h) S1.out; have t2 := hfin.pu.cell (fun h => h) S2.out; have t3 := hfin.pu.cell (fun h => h) S3.out
  have hlg : g < W6.heap.size := hfin.pu.lt hg
  clear hfin hQe
  have z4_0 := cell_of_row _ _ 0 _ _ _ z4; have z4_1 := cell_of_row _ _ 1 _ _ _ z4; have z4_f := (fun j => frozen_of_row _ _ j _ _ z4); have z4_l := lt_of_block z4; simp at z4_0 z4_1; have H_z4 := Lib.hid z4; clear z4
  have z5_0 := cell_of_row _ _ 0 _ _ _ z5; have z5_1 := cell_of_row _ _ 1 _ _ _ z5; have z5_2 := cell_of_row _ _ 2 _ _ _ z5; have z5_3 := cell_of_row _ _ 3 _ _ _ z5; have z5_f := (fun j => frozen_of_row _ _ j _ _ z5); have z5_l := lt_of_block z5; simp at z5_0 z5_1 z5_2 z5_3; have H_z5 := Lib.hid z5; clear z5
  have z2_0 := cell_of_row _ _ 0 _ _ _ z2; have z2_1 := cell_of_row _ _ 1 _ _ _ z2; have z2_f := (fun j => frozen_of_row _ _ j _ _ z2); have z2_l := lt_of_block z2; simp at z2_0 z2_1; have H_z2 := Lib.hid z2; clear z2
  have z7_0 := cell_of_row _ _ 0 _ _ _ z7; have z7_1 := cell_of_row _ _ 1 _ _ _ z7; have z7_f := (fun j => frozen_of_row _ _ j _ _ z7); have z7_l := lt_of_block z7; simp at z7_0 z7_1; have H_z7 := Lib.hid z7; clear z7
  go_region
  go_wp2
  refine bodyPost_ret (v := .tuple #[refV aL' cL' (some ⟨g7, 0, none⟩) cG' Q'.length, entV x (.slice va (bytesOf x.val).length vc), .int .i64 0]) (by simp [results, Try.results21, go_sem, z4_0, z4_1, z5_0, z5_1, z5_2, z5_3, z4_f, z5_f]) rfl ?_
  exact rm_ret HF.out hQ2.out HL2.out _ _ _ _ _ _ rfl
end Go.Proofs.Ytbjiebhbmpafpaa
