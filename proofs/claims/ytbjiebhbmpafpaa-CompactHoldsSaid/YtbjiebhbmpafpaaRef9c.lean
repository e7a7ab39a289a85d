/- The reference of layer 9: Append of its log. Conditions: the log's rows are its own (RefRow), the entry is valid, its value is read. -/
import Derived.Test.YtbjiebhbmpafpaaRef9b
import Derived.Test.YtbjiebhbmpafpaaField
namespace Go.Proofs.Ytbjiebhbmpafpaa
open Go.RowKit Go.Shelf
set_option maxRecDepth 100000

/-- Between the appends of Append: n0: the blocks below are elder; b8: the box of the copy. -/
structure ApMid (w : World) (b8 : Nat) (aL : Option Addr) (cL : Nat) (aG : Option Addr) (cG : Nat) (n : Nat) (k : Nat) (Q' : List RQ) (x : Ent) (wr : World) : Prop where
  pu : Pure w wr
  r2 : wr.heap[w.heap.size]? = some (.cells #[.slice aL n cL, .slice aG n cG] 30 (0, 0))
  r4 : wr.heap[w.heap.size + 1 + 1]? = some (.cells #[.slice none 0 0, .slice none 0 0] 30 (0, 0))
  r8 : ∃ aL' cL' aG' cG' v', wr.heap[b8]? = some (.cells #[.slice aL' (k + 1) cL', .slice aG' k cG'] 30 (0, 0)) ∧
    wr.ownsRow 0 48 4 (.slice aL' (k + 1) cL') (k + 1) (Q'.flatMap cellsQ ++ entCells x v') ∧ wr.ownsRow 0 4 1 (.slice aG' k cG') k (Q'.map goneQ) ∧
    (∀ q ∈ Q', BytesAt wr q.2.1 (bytesOf q.1.val)) ∧ BytesAt wr v' (bytesOf x.val) ∧
    (∀ g, (Value.slice aL' (k + 1) cL').ownBlock = some g → w.heap.size + 1 + 1 < g) ∧ (∀ g, (Value.slice aG' k cG').ownBlock = some g → w.heap.size + 1 + 1 < g)

theorem ap_mid {w wr w1 w5 : World} {b8 : Nat} {aL aG aL' aG' a1 a7 : Option Addr} {cL cG cL' cG' c1 c7 n n1 : Nat} {Q' : List RQ} {x : Ent} {cs : Array Value}
    (pu : Pure w wr) (r2 : wr.heap[w.heap.size]? = some (.cells #[.slice aL n cL, .slice aG n cG] 30 (0, 0))) (r4 : wr.heap[w.heap.size + 1 + 1]? = some (.cells #[.slice none 0 0, .slice none 0 0] 30 (0, 0)))
    (hlb : w.heap.size + 1 + 1 < b8) (r8 : wr.heap[b8]? = some (.cells #[.slice aL' Q'.length cL', .slice aG' Q'.length cG'] 30 (0, 0))) (hR : RefRow wr aL' cL' aG' cG' Q')
    (fL : ∀ g, (Value.slice aL' Q'.length cL').ownBlock = some g → w.heap.size + 1 + 1 < g) (fG : ∀ g, (Value.slice aG' Q'.length cG').ownBlock = some g → w.heap.size + 1 + 1 < g)
    (hp1 : Pure wr w1) (hr1 : w1.ownsRow 0 5 1 (.slice a1 n1 c1) n1 (bytesOf x.val))
    (hr7 : w5.ownsRow 0 48 4 (.slice a7 (Q'.length + 1) c7) (Q'.length + 1) (Q'.flatMap cellsQ ++ [.string x.key, .slice a1 n1 c1, .int .u64 x.dl, .int .u64 x.birth]))
    (hg7 : (w1.alloc (.cells cs 48)).grownBy w5 (Value.slice aL' Q'.length cL').ownBlock)
    (hb7 : (Value.slice a7 (Q'.length + 1) c7).ownBlock = (Value.slice aL' Q'.length cL').ownBlock ∨ (Value.slice a7 (Q'.length + 1) c7).ownBlock = some (w1.heap.size + 1)) :
    ApMid w b8 aL cL aG cG n Q'.length Q' x (w5.setCell ⟨b8, 0, none⟩ (.slice a7 (Q'.length + 1) c7)) := by
  have hlr : b8 < wr.heap.size := lt_of_block r8
  have hL1 := owns_mod hR.L hp1 (fun _ _ h => h)
  have hM : Mod (fun k' => (Value.slice aL' Q'.length cL').ownBlock = some k' ∨ k' = b8) w1 (w5.setCell ⟨b8, 0, none⟩ (.slice a7 (Q'.length + 1) c7)) :=
    (((Mod.refl _ w1).alloc _).then (Mod.of_grown (S := fun k' => (Value.slice aL' Q'.length cL').ownBlock = some k' ∨ k' = b8) hg7 (fun k e _ => .inl e)) (fun _ _ h => h)).setCell (fun _ => .inr rfl) _
  have hn : ∀ k', k' ≤ w.heap.size + 1 + 1 → ¬ ((Value.slice aL' Q'.length cL').ownBlock = some k' ∨ k' = b8) := by
    rintro k' hk (h | rfl)
    · have := fL _ h; omega
    · omega
  have hnb8 : (Value.slice aL' Q'.length cL').ownBlock ≠ some b8 := fun e => by
    obtain ⟨c, e'⟩ := owns_type hR.L e
    rw [r8] at e'; cases e'
  have m5 : w5.heap[b8]? = some (.cells #[.slice aL' Q'.length cL', .slice aG' Q'.length cG'] 30 (0, 0)) :=
    Mod.heap (Mod.of_grown (S := fun k' => (Value.slice aL' Q'.length cL').ownBlock = some k') hg7 (fun k e _ => e)) hnb8 (heap_keep (hp1.heap (fun h => h) r8))
  have h8 : ∀ g, (Value.slice a7 (Q'.length + 1) c7).ownBlock = some g → w.heap.size + 1 + 1 < g ∧ g ≠ b8 := by
    intro g hg
    rcases hb7 with e | e <;> rw [e] at hg
    · exact ⟨fL g hg, fun e => hnb8 (e ▸ hg)⟩
    · have := hp1.size; cases hg; exact ⟨by omega, by omega⟩
  have nby : ∀ {T k n : Nat} {v : Value} {xs : List Value}, w1.ownsRow 0 T k v n xs → T ≠ 48 → T ≠ 30 → (w5.setCell ⟨b8, 0, none⟩ (.slice a7 (Q'.length + 1) c7)).ownsRow 0 T k v n xs := by
    intro T k n v xs ho h1 h2
    refine owns_mod ho hM (fun g hg h => ?_)
    rcases h with h | h
    · exact owns_apart ho hL1 h1 hg h
    · obtain ⟨c, e⟩ := owns_type ho hg
      rw [h, hp1.heap (fun h => h) r8] at e
      cases e
      exact h2 rfl
  have e1 : n1 = (bytesOf x.val).length := by have := hr1.1; omega
  refine ⟨(pu.trans hp1).then hM (fun k' hk h => hn k' (by omega) h), hM.heap (hn _ (by omega)) (hp1.heap (fun h => h) r2), hM.heap (hn _ (by omega)) (hp1.heap (fun h => h) r4), a7, c7, aG', cG', .slice a1 n1 c1, ?_, ?_,
    nby (owns_mod hR.G hp1 (fun _ _ h => h)) (by decide) (by decide), fun q hq => nby (owns_mod (hR.vals q hq) hp1 (fun _ _ h => h)) (by decide) (by decide), ?_, fun g hg => (h8 g hg).1, fG⟩
  · simpa using heap_setCell_same w5 b8 0 _ _ (.slice a7 (Q'.length + 1) c7) m5
  · exact owns_mod hr7 ((Mod.refl (fun k' => k' = b8) w5).setCell (p := ⟨b8, 0, none⟩) (fun _ => rfl) _) (fun g hg h => (h8 g hg).2 h)
  · unfold BytesAt
    subst e1
    exact nby hr1 (by decide) (by decide)

structure ApFin (w : World) (b8 : Nat) (aL : Option Addr) (cL : Nat) (aG : Option Addr) (cG : Nat) (n : Nat) (aL' : Option Addr) (cL' : Nat) (aG' : Option Addr) (cG' : Nat) (Q2 : List RQ) (wr : World) : Prop where
  pu : Pure w wr
  r2 : wr.heap[w.heap.size]? = some (.cells #[.slice aL n cL, .slice aG n cG] 30 (0, 0))
  r4 : wr.heap[w.heap.size + 1 + 1]? = some (.cells #[.slice none 0 0, .slice none 0 0] 30 (0, 0))
  r8 : wr.heap[b8]? = some (.cells #[.slice aL' Q2.length cL', .slice aG' Q2.length cG'] 30 (0, 0))
  R : RefRow wr aL' cL' aG' cG' Q2
  fL : ∀ g, (Value.slice aL' Q2.length cL').ownBlock = some g → w.heap.size + 1 + 1 < g
  fG : ∀ g, (Value.slice aG' Q2.length cG').ownBlock = some g → w.heap.size + 1 + 1 < g
theorem ap_fin {w wc w5 : World} {b8 : Nat} {aL aG aL' aG' a7 : Option Addr} {cL cG cL' cG' c7 n : Nat} {Q' : List RQ} {x : Ent} {v' : Value} {cs : Array Value}
    (hxok : x.Ok) (hlen : Q'.length < 4194304) (hQok : ∀ q ∈ Q', q.1.Ok) (pu : Pure w wc)
    (r2 : wc.heap[w.heap.size]? = some (.cells #[.slice aL n cL, .slice aG n cG] 30 (0, 0))) (r4 : wc.heap[w.heap.size + 1 + 1]? = some (.cells #[.slice none 0 0, .slice none 0 0] 30 (0, 0)))
    (hlb : w.heap.size + 1 + 1 < b8) (r8 : wc.heap[b8]? = some (.cells #[.slice aL' (Q'.length + 1) cL', .slice aG' Q'.length cG'] 30 (0, 0)))
    (hL : wc.ownsRow 0 48 4 (.slice aL' (Q'.length + 1) cL') (Q'.length + 1) (Q'.flatMap cellsQ ++ entCells x v'))
    (hG : wc.ownsRow 0 4 1 (.slice aG' Q'.length cG') Q'.length (Q'.map goneQ)) (hvs : ∀ q ∈ Q', BytesAt wc q.2.1 (bytesOf q.1.val)) (hv' : BytesAt wc v' (bytesOf x.val))
    (fL : ∀ g, (Value.slice aL' (Q'.length + 1) cL').ownBlock = some g → w.heap.size + 1 + 1 < g) (fG : ∀ g, (Value.slice aG' Q'.length cG').ownBlock = some g → w.heap.size + 1 + 1 < g)
    (hr7 : w5.ownsRow 0 4 1 (.slice a7 (Q'.length + 1) c7) (Q'.length + 1) (Q'.map goneQ ++ [.bool false]))
    (hg7 : (wc.alloc (.cells cs 4)).grownBy w5 (Value.slice aG' Q'.length cG').ownBlock)
    (hb7 : (Value.slice a7 (Q'.length + 1) c7).ownBlock = (Value.slice aG' Q'.length cG').ownBlock ∨ (Value.slice a7 (Q'.length + 1) c7).ownBlock = some (wc.heap.size + 1)) :
    ApFin w b8 aL cL aG cG n aL' cL' a7 c7 (Q' ++ [(x, v', false)]) (w5.setCell ⟨b8, 1, none⟩ (.slice a7 (Q'.length + 1) c7)) := by
  have hlr : b8 < wc.heap.size := lt_of_block r8
  have hM : Mod (fun k' => (Value.slice aG' Q'.length cG').ownBlock = some k' ∨ k' = b8) wc (w5.setCell ⟨b8, 1, none⟩ (.slice a7 (Q'.length + 1) c7)) :=
    (((Mod.refl _ wc).alloc _).then (Mod.of_grown (S := fun k' => (Value.slice aG' Q'.length cG').ownBlock = some k' ∨ k' = b8) hg7 (fun k e _ => .inl e)) (fun _ _ h => h)).setCell (fun _ => .inr rfl) _
  have hn : ∀ k', k' ≤ w.heap.size + 1 + 1 → ¬ ((Value.slice aG' Q'.length cG').ownBlock = some k' ∨ k' = b8) := by
    rintro k' hk (h | rfl)
    · have := fG _ h; omega
    · omega
  have hnb8 : (Value.slice aG' Q'.length cG').ownBlock ≠ some b8 := fun e => by
    obtain ⟨c, e'⟩ := owns_type hG e
    rw [r8] at e'; cases e'
  have m5 : w5.heap[b8]? = some (.cells #[.slice aL' (Q'.length + 1) cL', .slice aG' Q'.length cG'] 30 (0, 0)) :=
    Mod.heap (Mod.of_grown (S := fun k' => (Value.slice aG' Q'.length cG').ownBlock = some k') hg7 (fun k e _ => e)) hnb8 (heap_keep r8)
  have h8 : ∀ g, (Value.slice a7 (Q'.length + 1) c7).ownBlock = some g → w.heap.size + 1 + 1 < g ∧ g ≠ b8 := by
    intro g hg
    rcases hb7 with e | e <;> rw [e] at hg
    · exact ⟨fG g hg, fun e => hnb8 (e ▸ hg)⟩
    · cases hg; exact ⟨by omega, by omega⟩
  have nby : ∀ {T j n : Nat} {v : Value} {xs : List Value}, wc.ownsRow 0 T j v n xs → T ≠ 4 → T ≠ 30 → (w5.setCell ⟨b8, 1, none⟩ (.slice a7 (Q'.length + 1) c7)).ownsRow 0 T j v n xs := by
    intro T j n v xs ho h1 h2
    refine owns_mod ho hM (fun g hg h => ?_)
    rcases h with h | h
    · exact owns_apart ho hG h1 hg h
    · obtain ⟨c, e⟩ := owns_type ho hg
      rw [h, r8] at e
      cases e
      exact h2 rfl
  have hl2 : (Q' ++ [(x, v', false)]).length = Q'.length + 1 := by simp
  refine ⟨pu.then hM (fun k' hk h => hn k' (by omega) h), hM.heap (hn _ (by omega)) r2, hM.heap (hn _ (by omega)) r4, ?_, ⟨?_, ?_, ?_, ?_, by omega⟩, by rw [hl2]; exact fL, by rw [hl2]; exact fun g hg => (h8 g hg).1⟩
  · rw [hl2]
    simpa using heap_setCell_same w5 b8 1 _ _ (.slice a7 (Q'.length + 1) c7) m5
  · rw [hl2, List.flatMap_append]
    simpa [cellsQ] using nby hL (by decide) (by decide)
  · rw [hl2, List.map_append]
    exact owns_mod hr7 ((Mod.refl (fun k' => k' = b8) w5).setCell (p := ⟨b8, 1, none⟩) (fun _ => rfl) _) (fun g hg h => (h8 g hg).2 h)
  · intro q hq
    rcases List.mem_append.1 hq with h | h
    · exact nby (hvs q h) (by decide) (by decide)
    · rw [List.mem_singleton] at h
      subst h
      exact nby hv' (by decide) (by decide)
  · intro q hq
    rcases List.mem_append.1 hq with h | h
    · exact hQok q h
    · rw [List.mem_singleton] at h
      subst h
      exact hxok

theorem RefRow.modT {w w' : World} {S : Nat → Prop} {aL : Option Addr} {cL : Nat} {aG : Option Addr} {cG : Nat} {Q : List RQ} (h : RefRow w aL cL aG cG Q) (hm : Mod S w w')
    (hS : ∀ i, S i → i < w.heap.size → ∃ cs fz, w.heap[i]? = some (.cells cs 30 fz)) : RefRow w' aL cL aG cG Q :=
  have hS' : ∀ (T : Nat), 30 ≠ T → ∀ i, S i → i < w.heap.size → ∃ cs T' fz, w.heap[i]? = some (.cells cs T' fz) ∧ T' ≠ T := fun T hT i hi hl => by
    obtain ⟨cs, fz, e⟩ := hS i hi hl
    exact ⟨cs, _, fz, e, hT⟩
  ⟨owns_modT h.L hm (hS' _ (by decide)), owns_modT h.G hm (hS' _ (by decide)), fun q hq => owns_modT (h.vals q hq) hm (hS' _ (by decide)), h.ok, h.len⟩
def refAppPost (w : World) (Q : List RQ) (x : Ent) (e : Ending) (w' : World) : Prop :=
  ∃ aL cL aG cG Q', e = .returned (.tuple #[refV aL cL aG cG Q'.length, .int .u32 Q.length, .int .i64 0]) ∧ Q'.map absQ = Q.map absQ ++ [(x, false)] ∧ RefRow w' aL cL aG cG Q' ∧ Fresh w (.slice aL Q'.length cL) ∧ Fresh w (.slice aG Q'.length cG) ∧ Pure w w'

theorem ap_ret {w W6 w' : World} {b8 : Nat} {aL : Option Addr} {cL : Nat} {aG : Option Addr} {cG n : Nat} {aL2 : Option Addr} {cL2 : Nat} {a7 : Option Addr} {c7 : Nat} {Q Q2 : List RQ} {x : Ent} {k1 : Nat}
    (HF : ApFin w b8 aL cL aG cG n aL2 cL2 a7 c7 Q2 W6) (hQ2 : Q2.map absQ = Q.map absQ ++ [(x, false)]) (hl : Q2.length = k1) (hm : Mod (fun i => i = w.heap.size + 1 + 1) W6 w') :
    refAppPost w Q x (.returned (.tuple #[refV aL2 cL2 a7 c7 k1, .int .u32 Q.length, .int .i64 0])) w' := by
  subst hl
  exact ⟨aL2, cL2, a7, c7, Q2, rfl, hQ2, HF.R.modT hm (fun i hi _ => by subst hi; exact ⟨_, _, HF.r4⟩), fun g hg => by have := HF.fL g hg; omega, fun g hg => by have := HF.fG g hg; omega, HF.pu.then hm (fun i hi h => by omega)⟩
set_option maxHeartbeats 1000000 in
theorem ref_Append {w : World} {aL : Option Addr} {cL : Nat} {aG : Option Addr} {cG : Nat} {Q : List RQ} (h : RefRow w aL cL aG cG Q) (hQ : Q.length < 4194304) (x : Ent) (hxok : x.Ok) (a : Option Addr) (n c : Nat) (hx : ReadAt w (.slice a n c) 1 (bytesOf x.val)) :
    Calls Try.prog 60 #[refV aL cL aG cG Q.length, entV x (.slice a n c)] w (refAppPost w Q x) := by
  have H := Lib.hid h
  have hn : n ≤ 65536 := by have := read_length hx; rw [bytesOf_length] at this; have := hxok.v1; omega
  have hb : (x.birth == 0) = false := by have := hxok.b0; simp; omega
  have HX := Lib.hid hx
  clear h hx
  go_enter Try.func60, Try.ntmps60
  go_upto_region 5 with (first
    | (go_at_call 112; refine Calls.mono (ref_Check_ok x.key a n c x.birth _ hxok.k0 hxok.k1 hn hb) ?_; rintro e w1 ⟨rfl, rfl⟩)
    | (go_at_call 65; refine Calls.mono (ref_LogCopy (H.out.pure (by (repeat' (first | (with_reducible exact Mod.refl _ _) | (with_reducible refine Mod.alloc ?_ _) | (with_reducible refine Mod.drew ?_) | (with_reducible refine Mod.drewN ?_ _) | (with_reducible refine Mod.setCell ?_ ?_ _) | (refine Mod.then ?_ (by with_reducible assumption) ?_))) <;> (all_goals (intros; first | (exfalso; assumption) | omega | (simp at *; done) | (simp at *; omega)))))) ?_; rintro e w1 ⟨aL', cL', aG', cG', Q', rfl, hq', hR', hfL, hfG, hp⟩))
  have r2 := heap_keep (o := .cells #[.slice aL' Q'.length cL', .slice aG' Q'.length cG'] 30 (0, 0)) (hp.heap (fun h => h) (heap_keep (o := .cells #[.slice none 0 0, .slice none 0 0] 30 (0, 0)) (heap_keep (o := .cells #[.string x.key, .slice a n c, .int .u64 x.dl, .int .u64 x.birth] 48 (0, 0)) (heap_new (w := w) (o := .cells #[.slice aL Q.length cL, .slice aG Q.length cG] 30 (0, 0)) rfl))))
  have r3 := heap_keep (o := .cells #[.slice aL' Q'.length cL', .slice aG' Q'.length cG'] 30 (0, 0)) (hp.heap (fun h => h) (heap_keep (o := .cells #[.slice none 0 0, .slice none 0 0] 30 (0, 0)) (heap_new (w := w.alloc (.cells #[.slice aL Q.length cL, .slice aG Q.length cG] 30)) (o := .cells #[.string x.key, .slice a n c, .int .u64 x.dl, .int .u64 x.birth] 48 (0, 0)) (n := w.heap.size + 1) (by simp))))
  have r4 := heap_keep (o := .cells #[.slice aL' Q'.length cL', .slice aG' Q'.length cG'] 30 (0, 0)) (hp.heap (fun h => h) (heap_new (w := (w.alloc (.cells #[.slice aL Q.length cL, .slice aG Q.length cG] 30)).alloc (.cells #[.string x.key, .slice a n c, .int .u64 x.dl, .int .u64 x.birth] 48)) (o := .cells #[.slice none 0 0, .slice none 0 0] 30 (0, 0)) (n := w.heap.size + 1 + 1) (by simp)))
  have r8 := heap_new (w := w1) (o := .cells #[.slice aL' Q'.length cL', .slice aG' Q'.length cG'] 30 (0, 0)) rfl
  have hpw : Pure w w1 := by (repeat' (first | (with_reducible exact Mod.refl _ _) | (with_reducible refine Mod.alloc ?_ _) | (with_reducible refine Mod.drew ?_) | (with_reducible refine Mod.drewN ?_ _) | (with_reducible refine Mod.setCell ?_ ?_ _) | (refine Mod.then ?_ (by with_reducible assumption) ?_))) <;> (all_goals (intros; first | (exfalso; assumption) | omega | (simp at *; done) | (simp at *; omega)))
  have hp1 : Pure w1 (w1.alloc (.cells #[.slice aL' Q'.length cL', .slice aG' Q'.length cG'] 30)) := (Mod.refl _ w1).alloc _
  have hRW := Lib.hid (hR'.pure hp1)
  have hPW := Lib.hid (hpw.trans hp1)
  have hl8 : w.heap.size + 1 + 1 < w1.heap.size := by have := hp.size; simp at this; omega
  have hXW := Lib.hid (HX.out.frame (hpw.trans hp1) (fun _ _ h => h))
  have hFL : Hid (∀ g, (Value.slice aL' Q'.length cL').ownBlock = some g → w.heap.size + 1 + 1 < g) := fun g hg => by have := hfL g hg; simp at this; omega
  have hFG : Hid (∀ g, (Value.slice aG' Q'.length cG').ownBlock = some g → w.heap.size + 1 + 1 < g) := fun g hg => by have := hfG g hg; simp at this; omega
  have hql : Q'.length = Q.length := by have := congrArg List.length hq'; simpa using this
  have hql2 : Q'.length < 4194304 := by omega
  have HQL := Lib.hid hql
  have HQ := Lib.hid hq'
  clear hql
  clear hp hpw hp1 hR' hfL hfG hq'
  generalize w1.alloc (.cells #[.slice aL' Q'.length cL', .slice aG' Q'.length cG'] 30) = W at *
  generalize w1.heap.size = b8 at *
  have e80 := cell_of_row W _ 0 _ _ _ r8
  have f8 := fun j => frozen_of_row W _ j _ _ r8
  have e30 := cell_of_row W _ 0 _ _ _ r3; have e31 := cell_of_row W _ 1 _ _ _ r3; have e32 := cell_of_row W _ 2 _ _ _ r3; have e33 := cell_of_row W _ 3 _ _ _ r3
  simp at e80 e30 e31 e32 e33
  have e8d : W.drew.cell? ⟨b8, 0, none⟩ = some (.slice aL' Q'.length cL') := e80
  have hlr := lt_of_block r8
  have R2 := Lib.hid r2; have R4 := Lib.hid r4; have R8 := Lib.hid r8
  clear r2 r3 r4 r8
  obtain ⟨i0, hi, iz0, iz1, iz2⟩ := info_parts info_Entry
  go_cut [] (fun wc => ApMid w b8 aL cL aG cG Q.length Q'.length Q' x wc)
  case first =>
    go_region_law ((first
      | (go_simp; go_at_call 113; refine Calls.mono (ref_Copy x.key a n c x.dl x.birth _ _ hXW.out hn) ?_; rintro e w4 ⟨a1, n1, c1, rfl, hr1, hf1, hp4⟩; have q6 := hp4.cell (fun h => h) e8d; have hl4 : b8 < w4.heap.size := Nat.lt_of_lt_of_le hlr hp4.size)
      | (refine step_append_read _ (by rfl) _ _ 27 (by rfl) 48 i0 _ 4 56 Try.underlying27 hi iz0 iz1 iz2 rfl (by decide) (.slice aL' Q'.length cL') Q'.length (Q'.flatMap cellsQ) (by rfl) (owns_mod (owns_mod hRW.out.L (Mod.of_drew hp4) (fun _ _ h => h)) ((Mod.refl (fun _ => False) w4).alloc _) (fun _ _ h => h)) _ [.string x.key, .slice a1 n1 c1, .int .u64 x.dl, .int .u64 x.birth] 1 (by rfl) (ReadAt.of_block 1 1 4 (heap_new (by simp)) (by rfl) (by simp [Value.oneCell'])) (by rfl) (by unfold maxLen; omega) (by omega) ?_; intro a7 c7 w5 hr7 hg7 hb7; have m7 := Mod.heap (Mod.of_grown (S := fun k' => (Value.slice aL' Q'.length cL').ownBlock = some k') hg7 (fun k e _ => e)) (fun e => (by obtain ⟨c, e'⟩ := owns_type hRW.out.L e; rw [R8.out] at e'; cases e')) (heap_keep ((Mod.of_drew hp4).heap (fun h => h) R8.out)); have M7 := Lib.hid m7; have fr7 := (fun j => frozen_of_row w5 _ j _ _ m7); have z7 := cell_of_row w5 _ 0 _ _ _ m7; clear m7)))
    all_goals
      clear e80 e30 e31 e32 e33 e8d f8 q6 z7 fr7
      go_wp2_with fail
      go_meet
      exact ap_mid hPW.out R2.out R4.out hl8 R8.out hRW.out hFL.out hFG.out (Mod.of_drew hp4) hr1 hr7 hg7 (by simpa using hb7)
  case rest =>
    clear e80 e30 e31 e32 e33 e8d f8
    obtain ⟨hpu, hr2, hr4, aL2, cL2, aG2, cG2, v', hr8, hoL, hoG, hvs, hv', hfL, hfG⟩ := hcut
    have e8 := cell_of_row wc _ 0 _ _ _ hr8; have e81 := cell_of_row wc _ 1 _ _ _ hr8
    simp at e8 e81
    have f8 := fun j => frozen_of_row wc _ j _ _ hr8
    have hlr8 := lt_of_block hr8
    obtain ⟨i1, hi1, iy0, iy1, iy2⟩ := info_parts info_bool
    have KPU := Lib.hid hpu; have KR2 := Lib.hid hr2; have KR4 := Lib.hid hr4; have KR8 := Lib.hid hr8; have KL := Lib.hid hoL; have KG := Lib.hid hoG; have KV := Lib.hid hvs; have KV' := Lib.hid hv'; have KFL := Lib.hid hfL; have KFG := Lib.hid hfG
    clear hpu hr2 hr4 hr8 hoL hoG hvs hv' hfL hfG
    go_upto_region 7 with (at_builtin; refine wpList_append_read _ rfl _ _ 28 rfl 4 i1 _ 1 1 Try.underlying28 hi1 iy0 iy1 iy2 rfl (by decide) (.slice aG2 Q'.length cG2) Q'.length (Q'.map goneQ) rfl (owns_mod KG.out ((Mod.refl (fun _ => False) wc).alloc _) (fun _ _ h => h)) _ [.bool false] 1 rfl (ReadAt.of_block 1 1 1 (heap_new rfl) (by rfl) (by simp [Value.oneCell'])) rfl (by unfold maxLen; omega) (by omega) ?_; intro a7 c7 w5 hr7 hg7 hb7; have m7 := Mod.heap (Mod.of_grown (S := fun k' => (Value.slice aG2 Q'.length cG2).ownBlock = some k') hg7 (fun k e _ => e)) (fun e => (by obtain ⟨c, e'⟩ := owns_type KG.out e; rw [KR8.out] at e'; cases e')) (heap_keep KR8.out); have M7 := Lib.hid m7; have fr7 := (fun j => frozen_of_row w5 _ j _ _ m7); have z7 := cell_of_row w5 _ 1 _ _ _ m7; clear m7)
    have hfin := ap_fin (cs := #[.bool false]) hxok hql2 hRW.out.ok KPU.out KR2.out KR4.out hl8 KR8.out KL.out KG.out KV.out KV'.out KFL.out KFG.out hr7 hg7 (by simpa using hb7)
    generalize w5.setCell ⟨b8, 1, none⟩ (.slice a7 (Q'.length + 1) c7) = W6 at hfin ⊢
    have hQ2 : (Q' ++ [(x, v', false)]).map absQ = Q.map absQ ++ [(x, false)] := by rw [List.map_append, HQ.out]; rfl
    have hl2 : (Q' ++ [(x, v', false)]).length = Q'.length + 1 := by simp
    generalize Q' ++ [(x, v', false)] = Q2 at hfin hQ2 hl2
    have HF := Lib.hid hfin
    have HQ2 := Lib.hid hQ2
    have HL2 := Lib.hid hl2
    have r8 := hfin.r8
    rw [hl2] at r8
    have g2 := cell_of_row W6 _ 0 _ _ _ hfin.r2; have g4 := cell_of_row W6 _ 0 _ _ _ hfin.r4; have g41 := cell_of_row W6 _ 1 _ _ _ hfin.r4; have g8 := cell_of_row W6 _ 0 _ _ _ r8; have g81 := cell_of_row W6 _ 1 _ _ _ r8
    have f4 := fun j => frozen_of_row W6 _ j _ _ hfin.r4
    clear hfin hQ2 hl2 r8 e8 e81 f8 fr7 z7 M7 hr7 hg7 hb7
    simp at g2 g4 g41 g8 g81
    have hu0 : (Q.length : Int) ≤ 4294967295 := by omega
    generalize Q'.length + 1 = k1 at *
    go_region
    go_wp2
    refine bodyPost_ret (v := .tuple #[refV aL2 cL2 a7 c7 k1, .int .u32 Q.length, .int .i64 0]) (by simp [results, Try.results60, go_sem, g4, g41, f4]) rfl ?_
    exact ap_ret HF.out HQ2.out HL2.out (by first | exact Mod.set2 _ _ _ _ _ | exact (Mod.set2 _ _ _ _ _).drew)
end Go.Proofs.Ytbjiebhbmpafpaa
