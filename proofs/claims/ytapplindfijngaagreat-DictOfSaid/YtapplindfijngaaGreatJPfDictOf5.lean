/- Lemmas and contracts of functions, strung together out of 1 texts. No condition. -/
import Derived.Test.YtapplindfijngaaGreatJPfDictOf4
import Derived.Test.YtapplindfijngaaGreatJPfDictOf3
/- The reference of layer 9: Copy, Has, Live, Get, Append, Remove of its log. Condition: the log's rows are its own (RefAt). -/
namespace Go.Proofs.YtapplindfijngaaGreat
open Go.RowKit Go.Shelf
set_option maxRecDepth 100000

theorem info_bool : (Tryz.prog.info? 4).map (fun i => (i.zero, i.size, i.bytes)) = some (some (.bool false), 1, 1) := by kernel_rfl

/-! ## The reference's log -/
abbrev RQ := Ent × Value × Bool
def cellsQ (q : RQ) : List Value := entCells q.1 q.2.1
theorem cellsQ_length (q : RQ) : (cellsQ q).length = 4 := rfl
def goneQ (q : RQ) : Value := .bool q.2.2
def absQ (q : RQ) : Ent × Bool := (q.1, q.2.2)
structure RefRow (w : World) (aL : Option Addr) (cL : Nat) (aG : Option Addr) (cG : Nat) (Q : List RQ) : Prop where
  L : w.ownsRow 0 42 4 (.slice aL Q.length cL) Q.length (Q.flatMap cellsQ)
  G : w.ownsRow 0 4 1 (.slice aG Q.length cG) Q.length (Q.map goneQ)
  vals : ∀ q ∈ Q, BytesAt w q.2.1 (bytesOf q.1.val)
  ok : ∀ q ∈ Q, q.1.Ok
  len : Q.length ≤ 4194304
theorem RefRow.pure {w w' : World} {aL : Option Addr} {cL : Nat} {aG : Option Addr} {cG : Nat} {Q : List RQ} (h : RefRow w aL cL aG cG Q) (hm : Pure w w') : RefRow w' aL cL aG cG Q :=
  ⟨owns_mod h.L hm (fun _ _ h => h), owns_mod h.G hm (fun _ _ h => h), fun q hq => owns_mod (h.vals q hq) hm (fun _ _ h => h), h.ok, h.len⟩
theorem RefRow.nil (w : World) : RefRow w none 0 none 0 [] := ⟨World.ownsRow_nil _ _ _ _, World.ownsRow_nil _ _ _ _, (fun _ h => (by cases h)), (fun _ h => (by cases h)), by decide⟩

def refCopyPost (w : World) (Q : List RQ) (e : Ending) (w' : World) : Prop :=
  ∃ aL cL aG cG Q', e = .returned (.agg #[.slice aL Q'.length cL, .slice aG Q'.length cG]) ∧ Q'.map absQ = Q.map absQ ∧ RefRow w' aL cL aG cG Q' ∧ Fresh w (.slice aL Q'.length cL) ∧ Fresh w (.slice aG Q'.length cG) ∧ Pure w w'

structure CpInv (w : World) (b : Nat) (aL : Option Addr) (cL : Nat) (aG : Option Addr) (cG : Nat) (Q : List RQ) (k : Nat) (wr : World) : Prop where
  le : k ≤ Q.length
  pu : Pure w wr
  r1 : wr.heap[b]? = some (.cells #[.slice aL Q.length cL, .slice aG Q.length cG] 32 (0, 0))
  r2 : wr.heap[b + 1]? = some (.cells #[.slice none 0 0, .slice none 0 0] 32 (0, 0))
  r3 : ∃ aL' cL' aG' cG' Q', Q'.map absQ = (Q.take k).map absQ ∧ wr.heap[b + 1 + 1]? = some (.cells #[.slice aL' k cL', .slice aG' k cG'] 32 (0, 0)) ∧ RefRow wr aL' cL' aG' cG' Q' ∧
    (∀ g, (Value.slice aL' k cL').ownBlock = some g → b + 1 + 1 < g) ∧ (∀ g, (Value.slice aG' k cG').ownBlock = some g → b + 1 + 1 < g)

/-- Between the two appends of a round. -/
structure CpMid (w : World) (b : Nat) (aL : Option Addr) (cL : Nat) (aG : Option Addr) (cG : Nat) (Q : List RQ) (k : Nat) (Q' : List RQ) (x : Ent) (wr : World) : Prop where
  pu : Pure w wr
  r1 : wr.heap[b]? = some (.cells #[.slice aL Q.length cL, .slice aG Q.length cG] 32 (0, 0))
  r2 : wr.heap[b + 1]? = some (.cells #[.slice none 0 0, .slice none 0 0] 32 (0, 0))
  r3 : ∃ aL' cL' aG' cG' v', wr.heap[b + 1 + 1]? = some (.cells #[.slice aL' (k + 1) cL', .slice aG' k cG'] 32 (0, 0)) ∧
    wr.ownsRow 0 42 4 (.slice aL' (k + 1) cL') (k + 1) (Q'.flatMap cellsQ ++ entCells x v') ∧ wr.ownsRow 0 4 1 (.slice aG' k cG') k (Q'.map goneQ) ∧
    (∀ q ∈ Q', BytesAt wr q.2.1 (bytesOf q.1.val)) ∧ BytesAt wr v' (bytesOf x.val) ∧
    (∀ g, (Value.slice aL' (k + 1) cL').ownBlock = some g → b + 1 + 1 < g) ∧ (∀ g, (Value.slice aG' k cG').ownBlock = some g → b + 1 + 1 < g)

theorem cp_mid {w wr w1 w5 : World} {b : Nat} {aL aG aL' aG' a1 a7 : Option Addr} {cL cG cL' cG' c1 c7 n1 : Nat} {Q Q' : List RQ} {k : Nat} {x : Ent} {cs : Array Value}
    (hb : b = w.heap.size) (pu : Pure w wr) (r1 : wr.heap[b]? = some (.cells #[.slice aL Q.length cL, .slice aG Q.length cG] 32 (0, 0))) (r2 : wr.heap[b + 1]? = some (.cells #[.slice none 0 0, .slice none 0 0] 32 (0, 0)))
    (r3 : wr.heap[b + 1 + 1]? = some (.cells #[.slice aL' k cL', .slice aG' k cG'] 32 (0, 0))) (hR : RefRow wr aL' cL' aG' cG' Q') (hQl : Q'.length = k)
    (fL : ∀ g, (Value.slice aL' k cL').ownBlock = some g → b + 1 + 1 < g) (fG : ∀ g, (Value.slice aG' k cG').ownBlock = some g → b + 1 + 1 < g)
    (hp1 : Pure wr w1) (hr1 : w1.ownsRow 0 5 1 (.slice a1 n1 c1) n1 (bytesOf x.val))
    (hr7 : w5.ownsRow 0 42 4 (.slice a7 (k + 1) c7) (k + 1) (Q'.flatMap cellsQ ++ [.string x.key, .slice a1 n1 c1, .int .u64 x.dl, .int .u64 x.birth]))
    (hg7 : (w1.alloc (.cells cs 42)).grownBy w5 (Value.slice aL' k cL').ownBlock)
    (hb7 : (Value.slice a7 (k + 1) c7).ownBlock = (Value.slice aL' k cL').ownBlock ∨ (Value.slice a7 (k + 1) c7).ownBlock = some (w1.heap.size + 1)) :
    CpMid w b aL cL aG cG Q k Q' x (w5.setCell ⟨b + 1 + 1, 0, none⟩ (.slice a7 (k + 1) c7)) := by
  subst hQl
  have hlr : b + 1 + 1 < wr.heap.size := lt_of_block r3
  have hL1 := owns_mod hR.L hp1 (fun _ _ h => h)
  have hM : Mod (fun k' => (Value.slice aL' Q'.length cL').ownBlock = some k' ∨ k' = b + 1 + 1) w1 (w5.setCell ⟨b + 1 + 1, 0, none⟩ (.slice a7 (Q'.length + 1) c7)) :=
    (((Mod.refl _ w1).alloc _).then (Mod.of_grown (S := fun k' => (Value.slice aL' Q'.length cL').ownBlock = some k' ∨ k' = b + 1 + 1) hg7 (fun k e _ => .inl e)) (fun _ _ h => h)).setCell (fun _ => .inr rfl) _
  have hn : ∀ k', k' ≤ b + 1 → ¬ ((Value.slice aL' Q'.length cL').ownBlock = some k' ∨ k' = b + 1 + 1) := by
    rintro k' hk (h | rfl)
    · have := fL _ h; omega
    · omega
  have m5 : w5.heap[b + 1 + 1]? = some (.cells #[.slice aL' Q'.length cL', .slice aG' Q'.length cG'] 32 (0, 0)) :=
    Mod.heap (Mod.of_grown (S := fun k' => (Value.slice aL' Q'.length cL').ownBlock = some k') hg7 (fun k e _ => e)) (fun e => by have := fL _ e; omega) (heap_keep (hp1.heap (fun h => h) r3))
  have h8 : ∀ g, (Value.slice a7 (Q'.length + 1) c7).ownBlock = some g → b + 1 + 1 < g := by
    intro g hg
    rcases hb7 with e | e <;> rw [e] at hg
    · exact fL g hg
    · have := hp1.size; cases hg; omega
  have nby : ∀ {T k n : Nat} {v : Value} {xs : List Value}, w1.ownsRow 0 T k v n xs → T ≠ 42 → T ≠ 32 → (w5.setCell ⟨b + 1 + 1, 0, none⟩ (.slice a7 (Q'.length + 1) c7)).ownsRow 0 T k v n xs := by
    intro T k n v xs ho h1 h2
    refine owns_mod ho hM (fun g hg h => ?_)
    rcases h with h | h
    · exact owns_apart ho hL1 h1 hg h
    · obtain ⟨c, e⟩ := owns_type ho hg
      rw [h, hp1.heap (fun h => h) r3] at e
      cases e
      exact h2 rfl
  have e1 : n1 = (bytesOf x.val).length := by have := hr1.1; omega
  refine ⟨(pu.trans hp1).then hM (fun k' hk h => hn k' (by omega) h), hM.heap (hn _ (by omega)) (hp1.heap (fun h => h) r1), hM.heap (hn _ (by omega)) (hp1.heap (fun h => h) r2), a7, c7, aG', cG', .slice a1 n1 c1, ?_, ?_,
    nby (owns_mod hR.G hp1 (fun _ _ h => h)) (by decide) (by decide), fun q hq => nby (owns_mod (hR.vals q hq) hp1 (fun _ _ h => h)) (by decide) (by decide), ?_, h8, fG⟩
  · simpa using heap_setCell_same w5 (b + 1 + 1) 0 _ _ (.slice a7 (Q'.length + 1) c7) m5
  · exact owns_mod hr7 ((Mod.refl (fun k' => k' = b + 1 + 1) w5).setCell (p := ⟨b + 1 + 1, 0, none⟩) (fun _ => rfl) _) (fun g hg h => by have := h8 g hg; omega)
  · unfold BytesAt
    subst e1
    exact nby hr1 (by decide) (by decide)

theorem cp_end {w wc w5 : World} {b : Nat} {aL aG aL' aG' a7 : Option Addr} {cL cG cL' cG' c7 : Nat} {Q Q' : List RQ} {k : Nat} {x : Ent} {v v' : Value} {gone : Bool} {cs : Array Value}
    (hb : b = w.heap.size) (hk : k < Q.length) (he : Q[k]? = some (x, v, gone)) (hlen : Q.length ≤ 4194304) (hxok : x.Ok) (hQ' : Q'.map absQ = (Q.take k).map absQ) (hQok : ∀ q ∈ Q', q.1.Ok) (hQl : Q'.length = k)
    (pu : Pure w wc) (r1 : wc.heap[b]? = some (.cells #[.slice aL Q.length cL, .slice aG Q.length cG] 32 (0, 0))) (r2 : wc.heap[b + 1]? = some (.cells #[.slice none 0 0, .slice none 0 0] 32 (0, 0)))
    (r3 : wc.heap[b + 1 + 1]? = some (.cells #[.slice aL' (k + 1) cL', .slice aG' k cG'] 32 (0, 0))) (hL : wc.ownsRow 0 42 4 (.slice aL' (k + 1) cL') (k + 1) (Q'.flatMap cellsQ ++ entCells x v'))
    (hG : wc.ownsRow 0 4 1 (.slice aG' k cG') k (Q'.map goneQ)) (hvs : ∀ q ∈ Q', BytesAt wc q.2.1 (bytesOf q.1.val)) (hv' : BytesAt wc v' (bytesOf x.val))
    (fL : ∀ g, (Value.slice aL' (k + 1) cL').ownBlock = some g → b + 1 + 1 < g) (fG : ∀ g, (Value.slice aG' k cG').ownBlock = some g → b + 1 + 1 < g)
    (hr7 : w5.ownsRow 0 4 1 (.slice a7 (k + 1) c7) (k + 1) (Q'.map goneQ ++ [.bool gone]))
    (hg7 : (wc.alloc (.cells cs 4)).grownBy w5 (Value.slice aG' k cG').ownBlock)
    (hb7 : (Value.slice a7 (k + 1) c7).ownBlock = (Value.slice aG' k cG').ownBlock ∨ (Value.slice a7 (k + 1) c7).ownBlock = some (wc.heap.size + 1)) :
    CpInv w b aL cL aG cG Q (k + 1) (w5.setCell ⟨b + 1 + 1, 1, none⟩ (.slice a7 (k + 1) c7)) := by
  have hlr : b + 1 + 1 < wc.heap.size := lt_of_block r3
  have hM : Mod (fun k' => (Value.slice aG' k cG').ownBlock = some k' ∨ k' = b + 1 + 1) wc (w5.setCell ⟨b + 1 + 1, 1, none⟩ (.slice a7 (k + 1) c7)) :=
    (((Mod.refl _ wc).alloc _).then (Mod.of_grown (S := fun k' => (Value.slice aG' k cG').ownBlock = some k' ∨ k' = b + 1 + 1) hg7 (fun k e _ => .inl e)) (fun _ _ h => h)).setCell (fun _ => .inr rfl) _
  have hn : ∀ k', k' ≤ b + 1 → ¬ ((Value.slice aG' k cG').ownBlock = some k' ∨ k' = b + 1 + 1) := by
    rintro k' hk (h | rfl)
    · have := fG _ h; omega
    · omega
  have m5 : w5.heap[b + 1 + 1]? = some (.cells #[.slice aL' (k + 1) cL', .slice aG' k cG'] 32 (0, 0)) :=
    Mod.heap (Mod.of_grown (S := fun k' => (Value.slice aG' k cG').ownBlock = some k') hg7 (fun k e _ => e)) (fun e => by have := fG _ e; omega) (heap_keep r3)
  have h8 : ∀ g, (Value.slice a7 (k + 1) c7).ownBlock = some g → b + 1 + 1 < g := by
    intro g hg
    rcases hb7 with e | e <;> rw [e] at hg
    · exact fG g hg
    · cases hg; omega
  have nby : ∀ {T j n : Nat} {v : Value} {xs : List Value}, wc.ownsRow 0 T j v n xs → T ≠ 4 → T ≠ 32 → (w5.setCell ⟨b + 1 + 1, 1, none⟩ (.slice a7 (k + 1) c7)).ownsRow 0 T j v n xs := by
    intro T j n v xs ho h1 h2
    refine owns_mod ho hM (fun g hg h => ?_)
    rcases h with h | h
    · exact owns_apart ho hG h1 hg h
    · obtain ⟨c, e⟩ := owns_type ho hg
      rw [h, r3] at e
      cases e
      exact h2 rfl
  refine ⟨by omega, pu.then hM (fun k' hk h => hn k' (by omega) h), hM.heap (hn _ (by omega)) r1, hM.heap (hn _ (by omega)) r2, aL', cL', a7, c7, Q' ++ [(x, v', gone)], ?_, ?_, ⟨?_, ?_, ?_, ?_, ?_⟩, fL, h8⟩
  · rw [List.map_append, hQ', List.take_add_one, he]
    simp [absQ]
  · simpa using heap_setCell_same w5 (b + 1 + 1) 1 _ _ (.slice a7 (k + 1) c7) m5
  · rw [List.length_append, hQl, List.flatMap_append]
    simpa [cellsQ] using nby hL (by decide) (by decide)
  · rw [List.length_append, hQl, List.map_append]
    exact owns_mod hr7 ((Mod.refl (fun k' => k' = b + 1 + 1) w5).setCell (p := ⟨b + 1 + 1, 1, none⟩) (fun _ => rfl) _) (fun g hg h => by have := h8 g hg; omega)
  · intro q hq
    rcases List.mem_append.1 hq with h | h
    · exact nby (hvs q h) (by decide) (by decide)
    · rw [List.mem_singleton] at h
      subst h
      exact nby hv' (by decide) (by decide)
  · intro q hq
    rcases List.mem_append.1 hq with h | h
    · exact hQok q h
    · rw [List.mem_singleton] at h
      subst h
      exact hxok
  · rw [List.length_append, hQl]
    simp
    omega

set_option maxHeartbeats 1000000 in
theorem ref_LogCopy {w : World} {aL : Option Addr} {cL : Nat} {aG : Option Addr} {cG : Nat} {Q : List RQ} (h : RefRow w aL cL aG cG Q) :
    Calls Tryz.prog 71 #[.agg #[.slice aL Q.length cL, .slice aG Q.length cG]] w (refCopyPost w Q) := by
  have H := Lib.hid h
  have hlen := h.len
  clear h
  go_enter Tryz.func71, Tryz.ntmps71
  go_wp2
  go_loopw [4] (fun i wr => ∃ k : Nat, i = .int .i64 k ∧ CpInv w w.heap.size aL cL aG cG Q k wr) (fun i _ => Q.length - (intOf i).toNat)
  case atStart =>
    refine ⟨0, rfl, Nat.zero_le _, by (repeat' (first | (with_reducible exact Mod.refl _ _) | (with_reducible refine Mod.alloc ?_ _) | (with_reducible refine Mod.drew ?_) | (with_reducible refine Mod.drewN ?_ _) | (with_reducible refine Mod.setCell ?_ ?_ _) | (refine Mod.then ?_ (by with_reducible assumption) ?_))) <;> (all_goals (intros; first | (exfalso; assumption) | omega | (simp at *; done) | (simp at *; omega))), ?_, ?_, none, 0, none, 0, [], rfl, ?_, RefRow.nil _, (fun g e => by cases e), (fun g e => by cases e)⟩
    · exact heap_keep (heap_keep (heap_new rfl))
    · exact heap_keep (heap_new (by simp))
    · exact heap_new (by simp)
  case round =>
    obtain ⟨k, rfl, hI⟩ := hrel
    obtain ⟨hk, hpu, hr1, hr2, aL', cL', aG', cG', Q', hQ', hr3, hR', hfL, hfG⟩ := hI
    have e1 := cell_of_row wr _ 0 _ _ _ hr1; have e11 := cell_of_row wr _ 1 _ _ _ hr1
    have e3 := cell_of_row wr _ 0 _ _ _ hr3; have e31 := cell_of_row wr _ 1 _ _ _ hr3
    have f3 := fun j => frozen_of_row wr _ j _ _ hr3
    simp at e1 e11 e3 e31
    have HPU := Lib.hid hpu
    have HR1 := Lib.hid hr1
    have HR2 := Lib.hid hr2
    have HR3 := Lib.hid hr3
    have HQ' := Lib.hid hQ'
    have HR' := Lib.hid hR'
    have HFL := Lib.hid hfL
    have HFG := Lib.hid hfG
    have HW := Lib.hid (H.out.pure hpu)
    clear hpu hr1 hr2 hr3 hQ' hR' hfL hfG
    by_cases hlt : k < Q.length
    · have hk1 : (k : Int) < (Q.length : Int) := by omega
      have he := List.getElem?_eq_getElem hlt
      generalize Q[k] = q at he
      obtain ⟨x, v, gone⟩ := q
      obtain ⟨g, _, hsv, _, hg, hc, hf, _⟩ := owns_at HW.out.L (by omega)
      cases hsv
      obtain ⟨g2, _, hsv, _, hg2, hc2, hf2, _⟩ := owns_at HW.out.G (by omega)
      cases hsv
      have hcc : ∀ j u, (cellsQ (x, v, gone))[j]? = some u → wr.cell? ⟨g, k * 4 + j, none⟩ = some u := by
        intro j u hu
        have hj : j < 4 := by rw [← cellsQ_length (x, v, gone)]; exact (List.getElem?_eq_some_iff.1 hu).1
        refine hc _ _ ?_
        rw [flat_get cellsQ 4 cellsQ_length j hj, he]
        exact hu
      have s0 : wr.cell? ⟨g, k * 4, none⟩ = _ := hcc 0 _ rfl; have s1 := hcc 1 _ rfl; have s2 := hcc 2 _ rfl; have s3 := hcc 3 _ rfl
      have sg : wr.cell? ⟨g2, k, none⟩ = some (.bool gone) := hc2 k _ (by rw [List.getElem?_map, he]; rfl)
      have hv := (HW.out.vals _ (List.mem_of_getElem? he)).read (bytesOf_one _)
      have hxok := HW.out.ok _ (List.mem_of_getElem? he)
      obtain ⟨va, vn, vc, rfl, hvl, _⟩ := id hv
      have hvn : vn ≤ 65536 := by have := hxok.v1; rw [bytesOf_length] at hvl; omega
      have HV := Lib.hid hv
      have HE := Lib.hid he
      clear hc hf hc2 hf2 hcc hv hvl he
      dsimp only at s0 s1 s2 s3
      have e3d : wr.drew.cell? ⟨w.heap.size + 1 + 1, 0, none⟩ = some (.slice aL' k cL') := e3
      have hQl : Q'.length = k := by have := congrArg List.length HQ'.out; simp at this; omega
      obtain ⟨i0, hi, iz0, iz1, iz2⟩ := info_parts info_Entry
      go_upto_region 5 with (fail)
      go_cut [] (fun wc => CpMid w w.heap.size (some ⟨g, 0, none⟩) cL (some ⟨g2, 0, none⟩) cG Q k Q' x wc)
      case first =>
        have hlr : w.heap.size + 1 + 1 < wr.heap.size := lt_of_block HR3.out
        go_region_law ((first
          | (go_simp; go_at_call 72; refine Calls.mono (ref_Copy x.key va vn vc x.dl x.birth _ _ HV.out hvn) ?_; rintro e w1 ⟨a1, n1, c1, rfl, hr1, hf1, hp1⟩; have q6 := hp1.cell (fun h => h) e3d; have hl1 : w.heap.size + 1 + 1 < w1.heap.size := Nat.lt_of_lt_of_le hlr hp1.size)
          | (refine step_append_read _ (by rfl) _ _ 29 (by rfl) 42 i0 _ 4 56 Tryz.underlying29 hi iz0 iz1 iz2 rfl (by decide) (.slice aL' k cL') k (Q'.flatMap cellsQ) (by rfl) (hQl ▸ (owns_mod (owns_mod HR'.out.L (Mod.of_drew hp1) (fun _ _ h => h)) ((Mod.refl (fun _ => False) w1).alloc _) (fun _ _ h => h))) _ [.string x.key, .slice a1 n1 c1, .int .u64 x.dl, .int .u64 x.birth] 1 (by rfl) (ReadAt.of_block 1 1 4 (heap_new (by simp)) (by rfl) (by simp [Value.oneCell'])) (by rfl) (by unfold maxLen; omega) (by omega) ?_; intro a7 c7 w5 hr7 hg7 hb7; have m7 := Mod.heap (Mod.of_grown (S := fun k' => (Value.slice aL' k cL').ownBlock = some k') hg7 (fun k e _ => e)) (fun e => (by have := HFL.out _ e; omega)) (heap_keep ((Mod.of_drew hp1).heap (fun h => h) HR3.out)); have M7 := Lib.hid m7; have fr7 := (fun j => frozen_of_row w5 _ j _ _ m7); have z7 := cell_of_row w5 _ 0 _ _ _ m7; clear m7)))
        all_goals
          clear e1 e11 e3 e31 f3 s0 s1 s2 s3 sg e3d q6 z7 fr7
          go_wp2_with fail
          go_meet
          exact cp_mid rfl HPU.out HR1.out HR2.out HR3.out HR'.out hQl HFL.out HFG.out (Mod.of_drew hp1) hr1 hr7 hg7 (by simpa using hb7)
      case rest =>
        clear e1 e11 e3 e31 f3 s0 s1 s2 s3 sg e3d
        obtain ⟨hpu, hr1, hr2, aL2, cL2, aG2, cG2, v', hr3, hoL, hoG, hvs, hv', hfL, hfG⟩ := hcut
        obtain ⟨g2', _, hsv, _, hg2', hc2, hf2, _⟩ := owns_at (H.out.pure hpu).G (by omega)
        cases hsv
        have sg : wc.cell? ⟨g2, k, none⟩ = some (.bool gone) := hc2 k _ (by rw [List.getElem?_map, HE.out]; rfl)
        have e1 := cell_of_row wc _ 1 _ _ _ hr1
        have e3 := cell_of_row wc _ 1 _ _ _ hr3
        simp at e1 e3
        have f3 := fun j => frozen_of_row wc _ j _ _ hr3
        have hlr : w.heap.size + 1 + 1 < wc.heap.size := lt_of_block hr3
        obtain ⟨i1, hi1, iy0, iy1, iy2⟩ := info_parts info_bool
        have HPU2 := Lib.hid hpu; have KR1 := Lib.hid hr1; have KR2 := Lib.hid hr2; have KR3 := Lib.hid hr3; have KL := Lib.hid hoL; have KG := Lib.hid hoG; have KV := Lib.hid hvs; have KV' := Lib.hid hv'; have KFL := Lib.hid hfL; have KFG := Lib.hid hfG
        clear hpu hr1 hr2 hr3 hoL hoG hvs hv' hfL hfG hc2 hf2
        go_upto_region 6 with (fail)
        go_region_law ((refine step_append_read _ (by rfl) _ _ 30 (by rfl) 4 i1 _ 1 1 Tryz.underlying30 hi1 iy0 iy1 iy2 rfl (by decide) (.slice aG2 k cG2) k (Q'.map goneQ) (by rfl) ((KG.out.alloc _).drew) _ [.bool gone] 1 (by rfl) (ReadAt.of_block 1 1 1 (heap_new (by simp)) (by rfl) (by simp [Value.oneCell'])) (by rfl) (by unfold maxLen; omega) (by omega) ?_; intro a7 c7 w5 hr7 hg7 hb7; have m7 := Mod.heap (Mod.of_grown (S := fun k' => (Value.slice aG2 k cG2).ownBlock = some k') hg7 (fun k e _ => e)) (fun e => (by have := KFG.out _ e; omega)) (heap_keep KR3.out); have M7 := Lib.hid m7; have fr7 := (fun j => frozen_of_row w5 _ j _ _ m7); have z7 := cell_of_row w5 _ 1 _ _ _ m7; clear m7))
        all_goals
          have hend : CpInv w w.heap.size (some ⟨g, 0, none⟩) cL (some ⟨g2, 0, none⟩) cG Q (k + 1) (w5.setCell ⟨w.heap.size + 1 + 1, 1, none⟩ (.slice a7 (k + 1) c7)) :=
            cp_end rfl hlt HE.out hlen hxok HQ'.out HR'.out.ok hQl HPU2.out KR1.out KR2.out KR3.out KL.out KG.out KV.out KV'.out KFL.out KFG.out hr7 (cs := #[.bool gone]) ⟨hg7.os, hg7.tape, hg7.output, hg7.size, hg7.block⟩ (by simpa using hb7)
          have HEND := Lib.hid hend
          clear hend hr7 hg7 hb7 z7 fr7 e1 e3 f3 sg
          go_wp2
          go_roundw
          case rel => exact ⟨k + 1, by go_num, HEND.out⟩
          case measure => simp [intOf]; omega
    · have hend : Q.length = k := by omega
      have hk1 : (Q.length : Int) ≤ (k : Int) := by omega
      have HEND := Lib.hid hend
      clear hend
      have e2 := cell_of_row wr _ 0 _ _ _ HR2.out; have e21 := cell_of_row wr _ 1 _ _ _ HR2.out
      have f2 := fun j => frozen_of_row wr _ j _ _ HR2.out
      simp at e2 e21
      go_wp2
      have z := heap_setCell_same _ _ 1 _ _ (.slice aG' k cG') (heap_setCell_same wr _ 0 _ _ (.slice aL' k cL') HR2.out)
      have z0 := cell_of_row _ _ 0 _ _ _ z; have z1 := cell_of_row _ _ 1 _ _ _ z
      simp at z0 z1
      clear z
      have hm : Mod (fun k' => k' = w.heap.size + 1) wr ((wr.setCell ⟨w.heap.size + 1, 0, none⟩ (.slice aL' k cL')).setCell ⟨w.heap.size + 1, 1, none⟩ (.slice aG' k cG')) :=
        ((Mod.refl (fun k' => k' = w.heap.size + 1) wr).setCell (p := ⟨w.heap.size + 1, 0, none⟩) (fun _ => rfl) _).setCell (p := ⟨w.heap.size + 1, 1, none⟩) (fun _ => rfl) _
      have hQl : Q'.length = k := by have := congrArg List.length HQ'.out; simp at this; omega
      have hq' : Q'.map absQ = Q.map absQ := by rw [HQ'.out, ← HEND.out, List.take_length]
      have hR := HR'.out
      have hnb : ∀ {T j n : Nat} {v : Value} {xs : List Value}, wr.ownsRow 0 T j v n xs → T ≠ 32 → ((wr.setCell ⟨w.heap.size + 1, 0, none⟩ (.slice aL' k cL')).setCell ⟨w.heap.size + 1, 1, none⟩ (.slice aG' k cG')).ownsRow 0 T j v n xs := by
        intro T j n v xs ho h1
        refine owns_mod ho hm (fun g hg h => ?_)
        obtain ⟨c, e⟩ := owns_type ho hg
        rw [h, HR2.out] at e
        cases e
        exact h1 rfl
      refine bodyPost_ret (v := .agg #[.slice aL' k cL', .slice aG' k cG']) (by simp [results, Tryz.results71, go_sem, z0, z1]) rfl ⟨aL', cL', aG', cG', Q', by rw [hQl], hq', ⟨hnb hR.L (by decide), hnb hR.G (by decide), fun q hq => hnb (hR.vals q hq) (by decide), hR.ok, hR.len⟩, ?_, ?_, HPU.out.then hm (fun i hi h => by omega)⟩
      · rw [hQl]; exact fun g hg => by have := HFL.out g hg; omega
      · rw [hQl]; exact fun g hg => by have := HFG.out g hg; omega
end Go.Proofs.YtapplindfijngaaGreat
