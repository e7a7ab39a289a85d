/- A slice of acts that came in. -/
import Derived.Test.YtbjiebhbmpafpaaLaw7
import Derived.Test.YtbjiebhbmpafpaaSwCopy
import Derived.Deep.Slices
import Derived.Deep.Fields
import Derived.ChangeSame
namespace Go.Proofs.Ytbjiebhbmpafpaa
open Go.ChangeShapes Go.WideShapes Go.ChangeAt Go.RowKit Go.Deep

set_option maxRecDepth 100000
section
variable {H : Type} {enc : TypeId × Value → H} {P : Program} {w : World} {base : Nat} {spare : Nat → Bool} {held : Bool}
theorem open_rows {t e : TypeId} {fs : Array Field} {fuel : Nat} {cs : List Value} {x : DataW H × List MemPlace} (ht : P.underlying t = some (.slice e)) (he : P.underlying e = some (.struct fs))
    (hone : oneCellFields P fs = true) (hC : P.cellsOf e = fs.size) (h : DataW.trod enc P w base spare held fuel t cs = some x) :
    cs = [.slice none 0 0] ∨
    ∃ (a : Addr) (len cap : Nat), cs = [.slice (some a) len cap] ∧ len ≤ cap ∧ cap ≤ maxLen ∧
      ∀ i, i < len → ∀ (j : Nat) (f : Field), fs[j]? = some f → ∃ (v : Value) (y : DataW H × List MemPlace) (n : Nat), w.cell? (a.add (i * fs.size + j)) = some v ∧ DataW.trod enc P w base spare held n f.type [v] = some y := by
  rcases open_slice ht h with h0 | ⟨a, len, cap, m, n, D, Pl, hcs, hb, hl, hm, hmm, hx, hi⟩
  · exact .inl h0.1
  · refine .inr ⟨a, len, cap, hcs, hl, hm, fun i him j f hj => ?_⟩
    have him' : i < m := by rw [hmm]; split <;> omega
    obtain ⟨cs', hc, ht'⟩ := hi i him'
    rw [hC] at hc
    obtain ⟨ys, n', hn', hy, hlen, hyl, hf⟩ := DataW.trod_struct he ht'
    obtain ⟨_, hcl, hat⟩ := World.cells?_some hc
    obtain ⟨ho, hk⟩ := hone_of hone j f hj
    have hjl : j < fs.size := (Array.getElem?_eq_some_iff.1 hj).1
    have hcell := hat j hjl
    have hv : cs'[j]? = some (cs'[j]'(by omega)) := List.getElem?_eq_getElem (by omega)
    have h1 := hf j f hj
    rw [ho, hk] at h1
    have hone' : (cs'.drop j).take 1 = [cs'[j]'(by omega)] := by
      rw [List.drop_eq_getElem_cons (by omega)]
      rfl
    rw [hone'] at h1
    have hys : ys[j]? = some (ys[j]'(by omega)) := List.getElem?_eq_getElem (by omega)
    refine ⟨_, _, _, ?_, h1.trans hys⟩
    rw [← Go.Deep.add_add, hcell, hv]
end
theorem acts_of {H : Type} {enc : TypeId × Value → H} {W : World} {base : Nat} {sp : Nat → Bool} {held : Bool} {r : Reach} {b0 : Nat} {v : Value} {d : DataW H} {p : List MemPlace} (hv : Value.okWide Try.prog W r b0 80 v) (h : DataW.Trod enc Try.prog W base sp held 80 v d p) :
    ∃ (a : Option Addr) (c : Nat) (ac : List ActV), v = .slice a ac.length c ∧ ac.length ≤ 9223372036854775807 ∧ ReadAt W (.slice a ac.length c) 5 (ac.flatMap actCells) ∧ (∀ y ∈ ac, y.Ok) := by
  obtain ⟨a0, n0, c0, rfl⟩ := okWide_slice Try.underlying80 hv
  obtain ⟨fuel, hf⟩ := h
  rcases open_rows Try.underlying80 Try.underlying86 (by kernel_rfl) (by kernel_rfl) hf with hcs | ⟨a, n, c, hcs, hl, hm, hz⟩
  · simp [Value.cells] at hcs
    obtain ⟨rfl, rfl, rfl⟩ := hcs
    exact ⟨none, 0, [], rfl, by simp, ReadAt.nil _ _, by simp⟩
  · simp [Value.cells] at hcs
    obtain ⟨rfl, rfl, rfl⟩ := hcs
    have hone : ∀ i, i < n0 → ∃ y : ActV, y.Ok ∧ ∀ j u, (actCells y)[j]? = some u → W.cell? (a.add (i * 5 + j)) = some u := fun i hi => by
      obtain ⟨v0, y0, m0, e0, t0⟩ := hz i hi 0 _ rfl
      obtain ⟨v1, y1, m1, e1, t1⟩ := hz i hi 1 _ rfl
      obtain ⟨v2, y2, m2, e2, t2⟩ := hz i hi 2 _ rfl
      obtain ⟨v3, y3, m3, e3, t3⟩ := hz i hi 3 _ rfl
      obtain ⟨v4, y4, m4, e4, t4⟩ := hz i hi 4 _ rfl
      obtain ⟨z0, f0, _, _⟩ := DataW.trod_int Try.underlying3 t0
      obtain ⟨z1, f1, _, w1⟩ := DataW.trod_int Try.underlying45 t1
      obtain ⟨z2, f2, _, w2⟩ := DataW.trod_int Try.underlying43 t2
      obtain ⟨z3, f3, _, w3⟩ := DataW.trod_int Try.underlying43 t3
      obtain ⟨z4, f4, _, _⟩ := DataW.trod_int Try.underlying3 t4
      cases f0; cases f1; cases f2; cases f3; cases f4
      simp [Lit.wf, IntKind.min, IntKind.max, IntKind.signed, IntKind.bits] at w1 w2 w3
      have s1 : ((z1.toNat : Nat) : Int) = z1 := Int.toNat_of_nonneg w1.1
      have s2 : ((z2.toNat : Nat) : Int) = z2 := Int.toNat_of_nonneg w2.1
      have s3 : ((z3.toNat : Nat) : Int) = z3 := Int.toNat_of_nonneg w3.1
      refine ⟨⟨z0, z1.toNat, z2.toNat, z3.toNat, z4⟩, ⟨by show z1.toNat < _; omega, by show z2.toNat ≤ _; omega, by show z3.toNat ≤ _; omega⟩, fun j u hu => ?_⟩
      have hj : j < 5 := (List.getElem?_eq_some_iff.1 hu).1
      unfold actCells at hu
      simp only [s1, s2, s3] at hu
      have : j = 0 ∨ j = 1 ∨ j = 2 ∨ j = 3 ∨ j = 4 := by omega
      rcases this with rfl | rfl | rfl | rfl | rfl
      · cases hu; exact e0
      · cases hu; exact e1
      · cases hu; exact e2
      · cases hu; exact e3
      · cases hu; exact e4
    obtain ⟨ac, hlen, hac⟩ : ∃ ac : List ActV, ac.length = n0 ∧ ∀ i, i < n0 → ∃ y, ac[i]? = some y ∧ y.Ok ∧ ∀ j u, (actCells y)[j]? = some u → W.cell? (a.add (i * 5 + j)) = some u := by
      classical
      refine ⟨List.ofFn (fun i : Fin n0 => Classical.choose (hone i.1 i.2)), by simp, fun i hi => ⟨Classical.choose (hone i hi), by simp [List.getElem?_ofFn, hi], Classical.choose_spec (hone i hi)⟩⟩
    clear hone hz
    have hm' : n0 ≤ 9223372036854775807 := by unfold maxLen at hm; omega
    refine ⟨some a, c0, ac, by rw [hlen], by rw [hlen]; exact hm', ⟨some a, n0, c0, by rw [hlen], ?_, ?_, (fun h => by cases h), ?_⟩, fun y hy => ?_⟩
    · rw [flat_length actCells 5 (fun _ => rfl) ac, hlen]
    · intro u hu
      obtain ⟨y, _, hy⟩ := List.mem_flatMap.1 hu
      unfold actCells at hy
      simp only [List.mem_cons, List.not_mem_nil, or_false] at hy
      rcases hy with rfl | rfl | rfl | rfl | rfl <;> rfl
    · intro ad had k u hu
      cases had
      have hk : k < n0 * 5 := by
        have := (List.getElem?_eq_some_iff.1 hu).1
        rw [flat_length actCells 5 (fun _ => rfl) ac, hlen] at this
        exact this
      have hd : k / 5 * 5 + k % 5 = k := by omega
      obtain ⟨y, hy, _, hc⟩ := hac (k / 5) (by omega)
      have h1 := flat_get actCells 5 (fun _ => rfl) (k % 5) (by omega) ac (k / 5)
      rw [hy, hd, hu] at h1
      have := hc (k % 5) u h1.symm
      rw [hd] at this
      exact this
    · obtain ⟨i, hi⟩ := List.getElem?_of_mem hy
      have hil := (List.getElem?_eq_some_iff.1 hi).1
      obtain ⟨y', hy', hok, _⟩ := hac i (by omega)
      rw [hi] at hy'
      cases hy'
      exact hok
end Go.Proofs.Ytbjiebhbmpafpaa
