/- Lemmas and contracts of functions, strung together out of 10 texts. No condition. -/
import Derived.Test.YtlalpenfgkfkpaaDoorJPfCascadePlays6
import Derived.Shelf.SlSortCmp.NoneTotal
import Derived.Deep.Slices
import Derived.Test.YtlalpenfgkfkpaaDoorJPfCascadePlays3
import Derived.Stop.RegionWithIn
import Derived.Deep.RegionHeld3
/- slices.SortFunc over what is timed, by its deadline and birth. Conditions: the elements lie in an own row, with births apart. -/
namespace Go.Proofs.YtlalpenfgkfkpaaDoor
open Go.RowKit Go.Sort Go.Shelf
set_option maxRecDepth 100000
instance tdInh : Inhabited Td := ⟨⟨0, 0, 0⟩⟩
def tdC (x : Td) : List Value := [.int .u32 x.slot, .int .u64 x.dl, .int .u64 x.birth]
theorem lt_cfT (x y : Td) : ltOf cfT x y = befB x y := by
  unfold ltOf cfT befB
  rcases cmpN_cases x.dl y.dl with ⟨h, e⟩ | ⟨h, e⟩ | ⟨h, e⟩
  · rw [e]; simp [h]
  · rw [e]
    have h1 : ¬ x.dl < y.dl := by omega
    have h2 : ¬ x.dl = y.dl := by omega
    simp [h1, h2]
  · rw [e, if_pos rfl]
    rcases cmpN_cases x.birth y.birth with ⟨k, f⟩ | ⟨k, f⟩ | ⟨k, f⟩
    · rw [f]; simp [h, k]
    · rw [f]
      have h1 : ¬ x.birth < y.birth := by omega
      simp [h, h1]
    · rw [f]
      have h1 : ¬ x.birth < y.birth := by omega
      simp [h, h1]
theorem swo_cfT : SWO (ltOf cfT) where
  irrefl x := by rw [lt_cfT]; simp [befB]
  trans x y z h1 h2 := by
    rw [lt_cfT] at *
    rw [befB_iff] at *
    unfold bef at *
    omega
  ntrans x y z h1 h2 := by
    rw [lt_cfT] at *
    have n1 : ¬ bef x y := fun c => by rw [befB_iff.2 c] at h1; cases h1
    have n2 : ¬ bef y z := fun c => by rw [befB_iff.2 c] at h2; cases h2
    cases h3 : befB x z with
    | false => rfl
    | true =>
      rw [befB_iff] at h3
      unfold bef at *
      omega
theorem flatK_list (d : Array Td) : (flatK tdC 3 d).toList = d.toList.flatMap tdC := by
  have hl : (d.toList.flatMap tdC).length = d.size * 3 := by rw [flat_length tdC 3 (fun _ => rfl)]; simp
  refine List.ext_getElem? (fun t => ?_)
  by_cases ht : t < d.size * 3
  · have h1 := get_flatK tdC 3 d t ht
    have hi : t / 3 < d.size := by omega
    have hf := flat_get tdC 3 (fun _ => rfl) (t % 3) (by omega) d.toList (t / 3)
    rw [show t / 3 * 3 + t % 3 = t by omega] at hf
    rw [hf]
    have h2 : (flatK tdC 3 d).toList[t]? = some ((flatK tdC 3 d)[t]!) := by
      rw [Array.getElem?_toList, getElem!_pos (flatK tdC 3 d) t (by simpa using ht), Array.getElem?_eq_getElem]
    rw [h2, h1, Array.getElem?_toList, Array.getElem?_eq_getElem hi, getElem!_pos d (t / 3) hi]
    show some _ = (tdC d[t / 3])[t % 3]?
    have hm : t % 3 < 3 := by omega
    rw [getElem!_pos (tdC d[t / 3]) (t % 3) (by simpa [tdC] using hm), List.getElem?_eq_getElem]
  · rw [List.getElem?_eq_none (by simp; omega), List.getElem?_eq_none (by rw [hl]; omega)]
theorem isAgg_td : ∀ w, (isAgg 31).run Tryd.prog w = .ok true w := fun w => by kernel_rfl
theorem sizeOf_td : ∀ w, (Go.sizeOf 31).run Tryd.prog w = .ok 3 w := fun w => by kernel_rfl
theorem clos_lays (blk off size : Nat) (w : World) : CmpLays Tryd.prog 54 #[] tdC 3 cfT blk off size w :=
  fun _ _ _ _ x y => clos_ok x y _
/-- An own row of what is timed. -/
abbrev TdRow (w : World) (a : Option Addr) (c : Nat) (d : List Td) : Prop := w.ownsRow 0 31 3 (.slice a d.length c) d.length (d.flatMap tdC)
theorem heap_sort {w : World} {g m : Nat} {cur : Array Value} {T : TypeId} {F : Array Value} {os : Array Obj} (hg : w.heap[g]? = some (.cells cur T (0, 0))) :
    (grow (putRow id (Go.Sort.ahead w m) g 0 F) os).heap[g]? = some (.cells (putCells id 0 F cur) T (0, 0)) := by
  have hlt := lt_of_block hg
  show ((w.heap.modify g (onCells (putCells id 0 F))) ++ os)[g]? = _
  rw [Array.getElem?_append_left (by simpa using hlt), Array.getElem?_modify, if_pos rfl, hg]
  rfl
theorem mod_sort {w : World} {g m : Nat} {F : Array Value} {os : Array Obj} : Mod (fun k => k = g) w (grow (putRow id (Go.Sort.ahead w m) g 0 F) os) := by
  refine ⟨rfl, rfl, rfl, ?_, fun k hk hn => ?_⟩
  · show w.heap.size ≤ ((w.heap.modify g (onCells (putCells id 0 F))) ++ os).size
    simp
  · show ((w.heap.modify g (onCells (putCells id 0 F))) ++ os)[k]? = _
    rw [Array.getElem?_append_left (by simpa using hk), Array.getElem?_modify, if_neg (fun e => hn e.symm)]
theorem put_take {F cur : Array Value} {n : Nat} (hF : F.size = n) (hc : n ≤ cur.size) : (putCells id 0 F cur).toList.take n = F.toList := by
  refine List.ext_getElem? (fun t => ?_)
  rw [List.getElem?_take]
  by_cases ht : t < n
  · rw [if_pos ht, Array.getElem?_toList, Array.getElem?_toList]
    unfold putCells
    rw [Array.getElem?_mapIdx, Array.getElem?_eq_getElem (show t < cur.size by omega)]
    show some (if 0 ≤ t ∧ t < 0 + F.size then id F[t - 0]! else cur[t]) = _
    rw [if_pos ⟨Nat.zero_le _, by omega⟩, Array.getElem?_eq_getElem (show t < F.size by omega), Nat.sub_zero, getElem!_pos F t (by omega)]
    rfl
  · rw [if_neg ht, List.getElem?_eq_none (by simp; omega)]
theorem sort_ok {w : World} {a : Option Addr} {c : Nat} {d : List Td} (hr : TdRow w a c d) (hl : d.length < 4611686018427387904) (hu : ∀ x ∈ d, ∀ y ∈ d, x.birth = y.birth → x = y) (hnd : d.Nodup) :
    Calls Tryd.prog 53 #[.slice a d.length c, .func (.func 54) #[] #[]] w fun e w' => e = .returned (.tuple #[]) ∧ ∃ d' : List Td, d'.Pairwise bef ∧ d'.Perm d ∧ d'.length = d.length ∧ TdRow w' a c d' ∧ Mod (fun k => (Value.slice a d.length c).ownBlock = some k) w w' := by
  rcases Nat.eq_zero_or_pos d.length with h0 | h0
  · have hd : d = [] := List.length_eq_zero_iff.1 h0
    subst hd
    refine (AnyF.slices_SortFunc_none sortTd a c (.func (.func 54) #[] #[]) w).mono ?_
    rintro e w' ⟨rfl, rfl⟩
    exact ⟨rfl, [], List.Pairwise.nil, List.Perm.refl _, rfl, hr, Mod.refl _ _⟩
  · obtain ⟨g, c', hv, hnc, hlt, hcell, hfz, cur, hg, hcs, ht, hm⟩ := owns_at hr h0
    injection hv with ha hn hc
    subst ha hc
    have eg : ∀ args w, (callFunc 54 args).run Tryd.prog w = .ok (.enter 54 args) w := enters_of Tryd.func54 (by kernel_rfl) rfl
    have hH : HoldsK tdC 3 w g 0 d.toArray := fun j hj => by
      rw [size_flatK] at hj
      rw [Nat.zero_add]
      refine ⟨hcell j _ ?_, hfz j⟩
      rw [← show (flatK tdC 3 d.toArray).toList = d.flatMap tdC from flatK_list d.toArray, Array.getElem?_toList, getElem!_pos (flatK tdC 3 d.toArray) j (by rw [size_flatK]; exact hj), Array.getElem?_eq_getElem]
      rfl
    have hs := AnyQ.slices_SortFunc sortTd 3 isAgg_td sizeOf_td tdC (fun _ => rfl) (fun x v hv => by simp [tdC] at hv; rcases hv with rfl | rfl | rfl <;> rfl) cfT swo_cfT 54 #[] g 0 c d.toArray w eg (clos_lays g 0 _ w) hH hlt (by simpa using hl)
    refine Calls.mono hs ?_
    rintro e w' ⟨rfl, d', m, os, ⟨p1, p2, p3⟩, hso, rfl⟩
    have hsz : d'.size = d.length := by simpa using p1
    have e1 : d'.extract 0 d.toArray.size = d' := by rw [← p1]; exact Array.extract_size
    rw [e1, Array.extract_size] at p3
    have hp : d'.toList.Perm d := p3
    have hF : (flatK tdC 3 d').size = d.length * 3 := by rw [size_flatK, hsz]
    refine ⟨rfl, d'.toList, ?_, hp, by simpa using hsz, ?_, ?_⟩
    · rw [List.pairwise_iff_getElem]
      intro i j hi hj hij
      have hi' : i < d'.size := by simpa using hi
      have hj' : j < d'.size := by simpa using hj
      have h1 := hso i j (Nat.zero_le _) hij (by simpa [hsz] using hj')
      rw [getElem!_pos d' i hi', getElem!_pos d' j hj', lt_cfT] at h1
      have hne : d'[i].birth ≠ d'[j].birth := fun e => by
        have m1 : d'[i] ∈ d := hp.mem_iff.1 (by simp)
        have m2 : d'[j] ∈ d := hp.mem_iff.1 (by simp)
        have heq := hu _ m1 _ m2 e
        have hnd' := hp.nodup_iff.2 hnd
        exact (List.pairwise_iff_getElem.1 hnd') i j hi hj hij (by simpa using heq)
      rcases (show bef d'[i] d'[j] ∨ bef d'[j] d'[i] by unfold bef; omega) with k | k
      · simpa using k
      · rw [befB_iff.2 k] at h1; cases h1
    · have hlen : d'.toList.length = d.length := by simpa using hsz
      show World.ownsRow _ 0 _ 3 (.slice (some ⟨g, 0, none⟩) d'.toList.length c) d'.toList.length (d'.toList.flatMap tdC)
      rw [hlen]
      refine ⟨by rw [flat_length tdC 3 (fun _ => rfl), hlen], .inr ⟨g, c, putCells id 0 (flatK tdC 3 d') cur, rfl, Nat.zero_le _, heap_sort hg, hnc, hm, ?_, ?_⟩⟩
      · rw [← hcs]; simp [putCells]
      · rw [put_take hF (by rw [hcs]; exact Nat.mul_le_mul_right 3 hnc), flatK_list]
    · exact Mod.mono (mod_sort (g := g) (F := flatK tdC 3 d') (m := m) (os := os)) (fun k _ e => by rw [e]; rfl)
end Go.Proofs.YtlalpenfgkfkpaaDoor

/- The reference of cascade: Before, Find, born, Same (of equal lists), Where. Conditions: the lists are read. -/
namespace Go.Proofs.YtlalpenfgkfkpaaDoor
open Go.RowKit
set_option maxRecDepth 100000
/-- A list of what is timed is read. -/
abbrev TdRd (w : World) (a : Option Addr) (c : Nat) (L : List Td) : Prop := ReadAt w (.slice a L.length c) 3 (L.flatMap tdC)
theorem tdC_one (L : List Td) : ∀ u ∈ L.flatMap tdC, u.oneCell' = true := fun u hu => by
  obtain ⟨x, _, hx⟩ := List.mem_flatMap.1 hu
  simp [tdC] at hx
  rcases hx with rfl | rfl | rfl <;> rfl
theorem TdRow.rd {w : World} {a : Option Addr} {c : Nat} {L : List Td} (h : TdRow w a c L) : TdRd w a c L := ReadAt.of_owns h (tdC_one L)
theorem cell_addT {W : World} {ad : Addr} {k j : Nat} {u : Value} (h : W.cell? (ad.add (k + (j + 1))) = some u) : W.cell? ⟨(ad.add k).block, (ad.add k).off + (j + 1), none⟩ = some u := by
  rw [← Go.Deep.add_add] at h
  unfold Addr.add at h ⊢
  rw [if_neg (by omega)] at h
  exact h
theorem td_read {w : World} {a : Option Addr} {n c : Nat} {L : List Td} (h : ReadAt w (.slice a n c) 3 (L.flatMap tdC)) {j : Nat} {x : Td} (hx : L[j]? = some x) :
    ∃ ad, a = some ad ∧ w.cell? (ad.add (j * 3)) = some (.int .u32 x.slot) ∧ w.cell? ⟨(ad.add (j * 3)).block, (ad.add (j * 3)).off + 1, none⟩ = some (.int .u64 x.dl) ∧ w.cell? ⟨(ad.add (j * 3)).block, (ad.add (j * 3)).off + 2, none⟩ = some (.int .u64 x.birth) := by
  obtain ⟨a', n', c', e, hl, _, h0, hc⟩ := h
  injection e with e1 e2 e3
  subst e1 e2 e3
  have hj := (List.getElem?_eq_some_iff.1 hx).1
  cases a with
  | none =>
    have := h0 rfl
    subst this
    rw [flat_length tdC 3 (fun _ => rfl)] at hl
    omega
  | some ad =>
    have g := fun i (hi : i < 3) => flat_get tdC 3 (fun _ => rfl) i hi L j
    have c0 := hc ad rfl (j * 3 + 0) (.int .u32 x.slot) (by rw [g 0 (by omega), hx]; rfl)
    have c1 := hc ad rfl (j * 3 + 1) (.int .u64 x.dl) (by rw [g 1 (by omega), hx]; rfl)
    have c2 := hc ad rfl (j * 3 + 2) (.int .u64 x.birth) (by rw [g 2 (by omega), hx]; rfl)
    exact ⟨ad, rfl, c0, cell_addT (j := 0) c1, cell_addT (j := 1) c2⟩
section
variable {w w' : World} {a : Option Addr} {c n : Nat} {L : List Td}
def findR (L : List Td) (s : Nat) : Int := if hasB L s = true then (findI L s : Nat) else -1
theorem find_spec {L : List Td} {s j : Nat} (h : ∀ (i : Nat) (y : Td), i < j → L[i]? = some y → y.slot ≠ s) {x : Td} (hx : L[j]? = some x) (hs : x.slot = s) : findR L s = (j : Nat) := by
  have hj := (List.getElem?_eq_some_iff.1 hx).1
  have hh : hasB L s = true := hasB_iff.2 ⟨x, List.mem_of_getElem? hx, hs⟩
  unfold findR
  rw [if_pos hh]
  have : findI L s = j := by
    unfold findI
    rw [List.findIdx_eq hj]
    refine ⟨?_, fun i hi => ?_⟩
    · rw [List.getElem?_eq_getElem hj] at hx
      injection hx with hx
      rw [hx]; simpa using hs
    · have := h i L[i] hi (List.getElem?_eq_getElem (by omega))
      simpa using this
  rw [this]
theorem find_spec0 {L : List Td} {s : Nat} (h : ∀ (i : Nat) (y : Td), L[i]? = some y → y.slot ≠ s) : findR L s = -1 := by
  unfold findR
  rw [if_neg]
  intro hh
  obtain ⟨y, hy, e⟩ := hasB_iff.1 hh
  obtain ⟨i, hi⟩ := List.getElem?_of_mem hy
  exact h i y hi e
theorem rfind_ok (h : ReadAt w (.slice a n c) 3 (L.flatMap tdC)) (hn : L.length = n) (hl : n ≤ 4194304) (s : Nat) :
    Calls Tryd.prog 18 #[.slice a n c, .int .u32 s] w fun e w' => e = .returned (.int .i64 (findR L s)) ∧ w = w' := by
  have HR := Lib.hid h; have HN := Lib.hid hn
  clear h hn
  go_enter Tryd.func18, Tryd.ntmps18
  go_upto_region 2 with fail
  go_loopw [5] (fun v5 wr => ∃ j : Nat, v5 = .int .i64 (j : Nat) ∧ j ≤ n ∧ w = wr ∧ ∀ i y, i < j → L[i]? = some y → y.slot ≠ s) (fun v5 _ => n - (intOf v5).toNat)
  case atStart => exact ⟨0, rfl, Nat.zero_le _, rfl, fun i y h => by omega⟩
  case round =>
    obtain ⟨j, rfl, hj, rfl, hno⟩ := hrel
    have HNO := Lib.hid hno
    clear hno
    by_cases hlt : j < n
    · have hlt' : (j : Int) < (n : Int) := by omega
      have j0 : (0 : Int) ≤ (j : Int) := by omega
      have wj : IntKind.i64.wrap ((j : Int) + 1) = (j : Int) + 1 := IntWalk.i64_in _ (by omega)
      obtain ⟨x, hx⟩ : ∃ x, L[j]? = some x := ⟨_, List.getElem?_eq_getElem (by rw [HN.out]; exact hlt)⟩
      obtain ⟨ad, rfl, z0, z1, z2⟩ := td_read HR.out hx
      have HX := Lib.hid hx
      clear hx
      by_cases hs : x.slot = s
      · have hf := find_spec HNO.out HX.out hs
        have HF := Lib.hid hf
        clear hf
        have he : ((x.slot : Int) == (s : Int)) = true := by simp; omega
        subst hs
        go_wp2
        go_ret
        exact ⟨by rw [HF.out]; rfl, rfl⟩
      · have he : ((x.slot : Int) == (s : Int)) = false := by simp; omega
        have hno2 : ∀ i y, i < j + 1 → L[i]? = some y → y.slot ≠ s := fun i y hi hy => by
          rcases Nat.lt_or_ge i j with h | h
          · exact HNO.out i y h hy
          · have : i = j := by omega
            subst this
            rw [HX.out] at hy
            cases hy
            exact hs
        have HNO2 := Lib.hid hno2
        clear hno2
        go_wp2
        go_roundw
        case rel => exact ⟨j + 1, by go_num, hlt, trivial, HNO2.out⟩
        case measure => simp [intOf]; omega
    · have hf := find_spec0 (L := L) (s := s) (fun i y hy => HNO.out i y (by have := (List.getElem?_eq_some_iff.1 hy).1; rw [HN.out] at this; omega) hy)
      have HF := Lib.hid hf
      have hge : ¬ (j : Int) < (n : Int) := by omega
      clear hf
      go_wp2
      go_ret
      exact ⟨by rw [HF.out]; rfl, rfl⟩
theorem born_spec0 {L : List Td} {s : Nat} (h : ∀ (i : Nat) (y : Td), L[i]? = some y → y.birth ≠ s) : bornB L s = false := by
  cases hh : bornB L s with
  | false => rfl
  | true =>
    obtain ⟨y, hy, e⟩ := bornB_iff.1 hh
    obtain ⟨i, hi⟩ := List.getElem?_of_mem hy
    exact absurd e (h i y hi)
theorem rborn_ok (h : ReadAt w (.slice a n c) 3 (L.flatMap tdC)) (hn : L.length = n) (hl : n ≤ 4194304) (s : Nat) :
    Calls Tryd.prog 58 #[.slice a n c, .int .u64 s] w fun e w' => e = .returned (.bool (bornB L s)) ∧ w = w' := by
  have HR := Lib.hid h; have HN := Lib.hid hn
  clear h hn
  go_enter Tryd.func58, Tryd.ntmps58
  go_upto_region 2 with fail
  go_loopw [5] (fun v5 wr => ∃ j : Nat, v5 = .int .i64 (j : Nat) ∧ j ≤ n ∧ w = wr ∧ ∀ i y, i < j → L[i]? = some y → y.birth ≠ s) (fun v5 _ => n - (intOf v5).toNat)
  case atStart => exact ⟨0, rfl, Nat.zero_le _, rfl, fun i y h => by omega⟩
  case round =>
    obtain ⟨j, rfl, hj, rfl, hno⟩ := hrel
    have HNO := Lib.hid hno
    clear hno
    by_cases hlt : j < n
    · have hlt' : (j : Int) < (n : Int) := by omega
      have j0 : (0 : Int) ≤ (j : Int) := by omega
      have wj : IntKind.i64.wrap ((j : Int) + 1) = (j : Int) + 1 := IntWalk.i64_in _ (by omega)
      obtain ⟨x, hx⟩ : ∃ x, L[j]? = some x := ⟨_, List.getElem?_eq_getElem (by rw [HN.out]; exact hlt)⟩
      obtain ⟨ad, rfl, z0, z1, z2⟩ := td_read HR.out hx
      have HX := Lib.hid hx
      clear hx
      by_cases hs : x.birth = s
      · have hf : bornB L s = true := bornB_iff.2 ⟨x, List.mem_of_getElem? HX.out, hs⟩
        have HF := Lib.hid hf
        clear hf
        have he : ((x.birth : Int) == (s : Int)) = true := by simp; omega
        subst hs
        go_wp2
        go_ret
        exact ⟨by rw [HF.out]; rfl, rfl⟩
      · have he : ((x.birth : Int) == (s : Int)) = false := by simp; omega
        have hno2 : ∀ i y, i < j + 1 → L[i]? = some y → y.birth ≠ s := fun i y hi hy => by
          rcases Nat.lt_or_ge i j with h | h
          · exact HNO.out i y h hy
          · have : i = j := by omega
            subst this
            rw [HX.out] at hy
            cases hy
            exact hs
        have HNO2 := Lib.hid hno2
        clear hno2
        go_wp2
        go_roundw
        case rel => exact ⟨j + 1, by go_num, hlt, trivial, HNO2.out⟩
        case measure => simp [intOf]; omega
    · have hf := born_spec0 (L := L) (s := s) (fun i y hy => HNO.out i y (by have := (List.getElem?_eq_some_iff.1 hy).1; rw [HN.out] at this; omega) hy)
      have HF := Lib.hid hf
      have hge : ¬ (j : Int) < (n : Int) := by omega
      clear hf
      go_wp2
      go_ret
      exact ⟨by rw [HF.out]; rfl, rfl⟩
set_option maxHeartbeats 1000000 in
theorem rsame_ok {a2 : Option Addr} {c2 : Nat} (h : ReadAt w (.slice a n c) 3 (L.flatMap tdC)) (h2 : ReadAt w (.slice a2 n c2) 3 (L.flatMap tdC)) (hn : L.length = n) (hl : n ≤ 4194304) :
    Calls Tryd.prog 17 #[.slice a n c, .slice a2 n c2] w fun e w' => e = .returned (.bool true) ∧ Pure w w' := by
  have HR := Lib.hid h; have HR2 := Lib.hid h2; have HN := Lib.hid hn
  clear h h2 hn
  go_enter Tryd.func17, Tryd.ntmps17
  go_upto_region 4 with fail
  go_loopw [5] (fun v5 wr => ∃ j : Nat, v5 = .int .i64 (j : Nat) ∧ j ≤ n ∧ Pure w wr) (fun v5 _ => n - (intOf v5).toNat)
  case atStart => exact ⟨0, rfl, Nat.zero_le _, Mod.refl _ _⟩
  case round =>
    obtain ⟨j, rfl, hj, hp⟩ := hrel
    have HP := Lib.hid hp
    by_cases hlt : j < n
    · have hlt' : (j : Int) < (n : Int) := by omega
      have j0 : (0 : Int) ≤ (j : Int) := by omega
      have wj : IntKind.i64.wrap ((j : Int) + 1) = (j : Int) + 1 := IntWalk.i64_in _ (by omega)
      obtain ⟨x, hx⟩ : ∃ x, L[j]? = some x := ⟨_, List.getElem?_eq_getElem (by rw [HN.out]; exact hlt)⟩
      obtain ⟨ad, rfl, z0, z1, z2⟩ := td_read (HR.out.frame hp (fun _ _ h => h)) hx
      obtain ⟨ad2, rfl, y0, y1, y2⟩ := td_read (HR2.out.frame hp (fun _ _ h => h)) hx
      clear hx hp
      go_upto_region 6 with fail
      go_region_held3 (fun w' => w'.cell? (ad.add (j * 3)) = some (.int .u32 x.slot) ∧ w'.cell? ⟨(ad.add (j * 3)).block, (ad.add (j * 3)).off + 1, none⟩ = some (.int .u64 x.dl) ∧ w'.cell? ⟨(ad.add (j * 3)).block, (ad.add (j * 3)).off + 2, none⟩ = some (.int .u64 x.birth) ∧ w'.cell? (ad2.add (j * 3)) = some (.int .u32 x.slot) ∧ w'.cell? ⟨(ad2.add (j * 3)).block, (ad2.add (j * 3)).off + 1, none⟩ = some (.int .u64 x.dl) ∧ w'.cell? ⟨(ad2.add (j * 3)).block, (ad2.add (j * 3)).off + 2, none⟩ = some (.int .u64 x.birth)) (first | go_keep | exact ⟨z0, z1, z2, y0, y1, y2⟩) (fail)
      go_wp2
      go_roundw
      case rel => exact ⟨j + 1, by go_num, hlt, HP.out.drew⟩
      case measure => simp [intOf]; omega
    · have hge : ¬ (j : Int) < (n : Int) := by omega
      clear hp
      go_wp2
      go_ret
      exact ⟨rfl, HP.out⟩
/-- Where, of what is later. -/
theorem rwhere_ok {now dl : Nat} (hn : now < 18446744073709551616) (hd : dl < 18446744073709551616) (w : World) : Calls Tryd.prog 61 #[.int .u64 dl, .int .u64 now] w fun e w' => e = .returned (.tuple #[.int .i64 (lvl now dl : Nat), .int .i64 (bkt now dl : Nat)]) ∧ w = w' := by
  obtain ⟨s1, s2, s3⟩ := lvl_spec hn hd
  have hb : bkt now dl = dl / 256 ^ lvl now dl % 256 := rfl
  obtain ⟨lv, hlv⟩ : ∃ lv, lvl now dl = lv := ⟨_, rfl⟩
  obtain ⟨bk, hbk⟩ : ∃ bk, bkt now dl = bk := ⟨_, rfl⟩
  rw [hlv] at s1 s2 s3 hb
  rw [hbk] at hb
  rw [hlv, hbk]
  have HS2 := Lib.hid s2; have HS3 := Lib.hid s3; have HB := Lib.hid hb
  clear s2 s3 hlv hbk hb
  go_enter Tryd.func61, Tryd.ntmps61
  go_upto_region 2 with fail
  go_loopw [0, 1, 6] (fun v0 v1 v6 wr => ∃ k d m : Nat, v0 = .int .u64 (d : Nat) ∧ v1 = .int .u64 (m : Nat) ∧ v6 = .int .i64 (k : Nat) ∧ k ≤ lv ∧ d = dl / 256 ^ k ∧ m = now / 256 ^ k ∧ w = wr) (fun _ _ v6 _ => 8 - (intOf v6).toNat)
  case atStart => exact ⟨0, dl, now, rfl, rfl, rfl, Nat.zero_le _, by simp, by simp, rfl⟩
  case round =>
    obtain ⟨k, d, m, rfl, rfl, rfl, hk, hdk, hmk, rfl⟩ := hrel
    have hd64 : d ≤ dl := by rw [hdk]; exact Nat.div_le_self _ _
    have hm64 : m ≤ now := by rw [hmk]; exact Nat.div_le_self _ _
    have e1 : d / 256 = dl / 256 ^ (k + 1) := by rw [hdk, Nat.div_div_eq_div_mul, Nat.pow_succ]
    have e2 : m / 256 = now / 256 ^ (k + 1) := by rw [hmk, Nat.div_div_eq_div_mul, Nat.pow_succ]
    by_cases hlt : k < lv
    · have hne : d / 256 ≠ m / 256 := by rw [e1, e2]; exact HS3.out k hlt
      have hne2 : (((d : Int) / 256) == ((m : Int) / 256)) = false := by simp; omega
      have hne3 : (((d : Int) / 256) != ((m : Int) / 256)) = true := by simp; omega
      have wk : IntKind.i64.wrap ((k : Int) + 1) = (k : Int) + 1 := IntWalk.i64_in _ (by omega)
      have HE1 := Lib.hid e1; have HE2 := Lib.hid e2
      clear e1 e2 hdk hmk
      go_wp2
      go_roundw
      case rel => exact ⟨k + 1, d / 256, m / 256, by go_num, by go_num, by go_num, hlt, HE1.out, HE2.out, trivial⟩
      case measure => simp [intOf]; omega
    · have e : k = lv := by omega
      subst e
      have heq : d / 256 = m / 256 := by rw [e1, e2]; exact HS2.out
      have hne2 : (((d : Int) / 256) == ((m : Int) / 256)) = true := by simp; omega
      have hne3 : (((d : Int) / 256) != ((m : Int) / 256)) = false := by simp; omega
      have hbd : bk = d % 256 := by rw [hdk]; exact HB.out
      clear e1 e2 hdk hmk
      go_wp2
      go_ret2
      exact ⟨by rw [hbd]; go_num, rfl⟩
end
end Go.Proofs.YtlalpenfgkfkpaaDoor

/- The law for a range over a function (XRange), at a loop within a round of another one. -/
namespace Go.Proofs.YtlalpenfgkfkpaaDoor
open Go.RowKit Go.Shelf
variable {P : Program}

/-- THE LAW, at a loop within a round of loop l0. -/
theorem wp_range_in {α : Type} {l0 : Nat} {r0 : Loop} {g : Operand} {ps : Array Tmp} {assign body : Code} {Q : Exit → Act → World → Prop} {a : Act} {w : World}
    (hl0 : w.heap[l0]? = some (.loop r0)) {gf : Nat} {lb : Array Value} (hg : a.eval g = .func (.func gf) #[] lb) (eg : ∀ args w, (callFunc gf args).run P w = .ok (.enter gf args) w)
    {encs : α → Array Value} {It : Nat → Prop} {G : List α → α → World → Prop} {S : List α → Prop} (hit : IterOk P gf lb encs It G S w) (hItlt : ∀ k, It k → k < w.heap.size)
    (hps : ∀ x, (encs x).size = ps.size)
    (I : List α → World → Prop) (Ix : Code → List α → World → Prop) (hI : ∀ pre A B, I pre A → Quiet w.heap.size A B → I pre B) (hIx : ∀ c pre A B, Ix c pre A → Quiet w.heap.size A B → Ix c pre B) (h0 : I [] w)
    (Ax : List α → α → Act → World → Prop) (hAx : ∀ pre x a' A B, Ax pre x a' A → Quiet w.heap.size A B → Ax pre x a' B)
    (hassign : ∀ (l : Nat) (pre : List α) (x : α) (W : World) (K : Act → World → Prop), I pre W → G pre x W → (∀ a' W', Pure W W' → Ax pre x a' W' → K a' W') →
      assign.wpIn (Fence.wide.inRound l) 0 P (Exit.then K (fun _ _ _ => False)) { tmps := (ps.zip (encs x)).foldl (fun t (p, v) => t.setIfInBounds p v) a.tmps, defers := [] } W)
    (hbody : ∀ (l : Nat) (pre : List α) (x : α) (a' : Act) (W : World), w.heap.size ≤ l → (∃ r, W.heap[l]? = some (.loop r)) → Ax pre x a' W →
      body.wpIn (Fence.wide.inRound l) 0 P (roundEnd w.heap.size It I Ix (pre ++ [x]) W) a' W)
    (hdone : ∀ (xs : List α) (W : World), S xs → I xs W → Q .normal a W)
    (hstop : ∀ (c : Code) (pre : List α) (W : World), Ix c pre W → c.wpIn (Fence.wide.inRound l0) 0 P Q a W) :
    (Code.rangeFunc g ps assign body).wpIn (Fence.wide.inRound l0) 0 P Q a w := by
  refine wpIn_rangeFunc ?_
  intro fn hfn
  obtain ⟨rec, hrec⟩ : ∃ rec : LoopState → Option Code → Loop, rec = fun st pe => { state := st, pending := pe, fn, tmps := a.tmps, params := ps, assign, body, defers := r0.defers } := ⟨_, rfl⟩
  obtain ⟨W1, hW1⟩ : ∃ W1, w.alloc (.loop (rec .ready none)) = W1 := ⟨_, rfl⟩
  have hL1 : W1.heap[w.heap.size]? = some (.loop (rec .ready none)) := by rw [← hW1]; exact heap_new rfl
  have hP1 : Pure w W1 := by rw [← hW1]; exact (Mod.refl _ w).alloc _
  have hI1 : I [] W1 := hI _ _ _ h0 (Quiet.of_pure hP1)
  refine ⟨w.heap.size, [], W1, { target := .fn (.func gf) lb, args := #[.func (.yield (w.heap.size)) #[] #[]] }, W1, gf,
    #[.func (.yield (w.heap.size)) #[] #[]] ++ lb, W1, ?_, ?_, fun _ _ => trivial, ?_, (fun h => by cases h), ?_⟩
  · rw [← hW1, hrec]; exact run_enterLoop_inner hl0 _ _ _ _ _
  · simp only [resolve, hg]
    simp [go_sem]
  · simp [invoke, go_sem, eg]
  · refine (hit (w.heap.size)
      (fun pre W => I pre W ∧ W.heap[w.heap.size]? = some (.loop (rec .ready none)) ∧ w.heap.size ≤ W.heap.size)
      (fun pre W => ∃ c, Ix c pre W ∧ W.heap[w.heap.size]? = some (.loop (rec .done (some c))))
      W1 hP1
      (fun pre A B hs hp => ⟨hI _ _ _ hs.1 (Quiet.of_pure hp), hp.heap (fun h => h) hs.2.1, Nat.le_trans hs.2.2 hp.size⟩)
      (fun pre A B hs hp => by
        obtain ⟨c, hc, hl⟩ := hs
        exact ⟨c, hIx _ _ _ _ hc (Quiet.of_pure hp), hp.heap (fun h => h) hl⟩)
      ?_ ⟨hI1, hL1, hP1.size⟩).mono ?_
    · rintro pre x W ⟨hi, hl, hsz⟩ hGx
      have hlt : w.heap.size < W.heap.size := (Array.getElem?_eq_some_iff.1 hl).1
      have hy := run_yield (P := P) (args := encs x) hl (by rw [hrec]; exact hps x)
      rw [hrec] at hy
      refine ⟨fn, _, assign, body, hy, roundIn_of_wpIn hfn (hassign _ pre x W _ hi hGx ?_)⟩
      clear hy
      intro a' Wa hpa hax
      have hla : Wa.heap[w.heap.size]? = _ := hpa.heap (fun h => h) hl
      have hlta : w.heap.size < Wa.heap.size := (Array.getElem?_eq_some_iff.1 hla).1
      refine ⟨_, run_beginRound hla (by rw [hrec]), ?_⟩
      have hq2 : Quiet w.heap.size Wa (Wa.putObj (w.heap.size) (.loop { rec .ready none with state := .busy })) := Quiet.putObj _ (by omega) hla rfl
      have hl2 : (Wa.putObj (w.heap.size) (.loop { rec .ready none with state := .busy })).heap[w.heap.size]? = some (.loop { rec .ready none with state := .busy }) := World.putObj_heap_same hlta
      have ha2 := hAx _ _ _ _ _ hax hq2
      have hit2 : KeepsIt It W (Wa.putObj (w.heap.size) (.loop { rec .ready none with state := .busy })) :=
        (KeepsIt.of_pure hpa).trans ⟨by simp, fun k hk _ => World.putObj_heap_other (by have := hItlt k hk; omega)⟩
      refine wpIn_mono (hbody _ pre x a' _ (by omega) ⟨_, hl2⟩ ha2) ?_
      have fin : ∀ (jump : Option Code) (W3 : World), KeepsRec w.heap.size (Wa.putObj (w.heap.size) (.loop { rec .ready none with state := .busy })) W3 →
          (Instr.endRound (w.heap.size) jump).run P W3 = .ok (.bool jump.isNone) (W3.putObj (w.heap.size) (.loop (rec (if jump.isNone then .ready else .done) jump))) ∧
          W3.heap[w.heap.size]? = some (.loop { rec .ready none with state := .busy }) ∧
          (W3.putObj (w.heap.size) (.loop (rec (if jump.isNone then .ready else .done) jump))).heap[w.heap.size]? = some (.loop (rec (if jump.isNone then .ready else .done) jump)) := fun jump W3 hk3 => by
        have hl3 := hk3 _ _ (by omega) hl2 rfl
        have := run_endRound (P := P) jump hl3
        rw [hrec] at this ⊢
        exact ⟨this, by rw [hrec] at hl3; exact hl3, World.putObj_heap_same (Array.getElem?_eq_some_iff.1 hl3).1⟩
      rintro e a3 W3 hp
      cases e with
      | normal =>
        obtain ⟨hk3, hkp3, hi3⟩ := hp
        obtain ⟨hr, hl3, hl4⟩ := fin none W3 hk3
        have hlt3 : w.heap.size < W3.heap.size := (Array.getElem?_eq_some_iff.1 hl3).1
        exact ⟨_, _, hr, .inl ⟨rfl, ⟨hI _ _ _ hi3 (Quiet.putObj _ (by omega) hl3 rfl), hl4, by simp; omega⟩,
          (hit2.trans hkp3).trans ⟨by simp, fun k hk _ => World.putObj_heap_other (by have := hItlt k hk; omega)⟩⟩⟩
      | ret =>
        obtain ⟨hk3, hi3⟩ := hp
        obtain ⟨hr, hl3, hl4⟩ := fin (some .ret) W3 hk3
        exact ⟨_, _, hr, .inr ⟨rfl, .ret, hIx _ _ _ _ hi3 (Quiet.putObj _ (by omega) hl3 rfl), hl4⟩⟩
      | exit id =>
        obtain ⟨hk3, hi3⟩ := hp
        obtain ⟨hr, hl3, hl4⟩ := fin (some (.exit id)) W3 hk3
        exact ⟨_, _, hr, .inr ⟨rfl, .exit id, hIx _ _ _ _ hi3 (Quiet.putObj _ (by omega) hl3 rfl), hl4⟩⟩
      | goto t =>
        obtain ⟨hk3, hi3⟩ := hp
        obtain ⟨hr, hl3, hl4⟩ := fin (some (.goto t)) W3 hk3
        exact ⟨_, _, hr, .inr ⟨rfl, .goto t, hIx _ _ _ _ hi3 (Quiet.putObj _ (by omega) hl3 rfl), hl4⟩⟩
      | panic ch => exact hp.elim
      | outgrown => exact hp.elim
    · rintro e W2 ⟨⟨v, rfl⟩, (⟨xs, hS, hi, hl, _⟩ | ⟨pre, c, hi, hl⟩)⟩
      · exact ⟨none, _, by have := run_endLoop (P := P) hl (by rw [hrec]; simp); rw [hrec] at this; exact this, hdone xs _ hS (hI _ _ _ hi (Quiet.putObj _ (by omega) hl rfl))⟩
      · exact ⟨some c, _, by have := run_endLoop (P := P) hl (by rw [hrec]; simp); rw [hrec] at this; exact this, hstop c pre _ (hIx _ _ _ _ hi (Quiet.putObj _ (by omega) hl rfl))⟩


theorem wp_range_in2 {α : Type} {l0 : Nat} {r0 : Loop} {g : Operand} {ps : Array Tmp} {assign body : Code} {Q : Exit → Act → World → Prop} {a : Act} {w : World}
    (hl0 : w.heap[l0]? = some (.loop r0)) {gf : Nat} {lb : Array Value} (hg : a.eval g = .func (.func gf) #[] lb) (eg : ∀ args w, (callFunc gf args).run P w = .ok (.enter gf args) w)
    {encs : α → Array Value} {It : Nat → Prop} {G : List α → α → World → Prop} {S : List α → Prop} (hit : IterOk P gf lb encs It G S w) (hItlt : ∀ k, It k → k < w.heap.size)
    (hps : ∀ x, (encs x).size = ps.size)
    (I : List α → World → Prop) (Ix : Code → List α → World → Prop) (hI : ∀ pre A B, I pre A → Quiet w.heap.size A B → I pre B) (hIx : ∀ c pre A B, Ix c pre A → Quiet w.heap.size A B → Ix c pre B) (h0 : I [] w)
    (hround : ∀ (l : Nat) (pre : List α) (x : α) (W : World) (K : Act → World → Prop), I pre W → G pre x W →
      (∀ a' W', Pure W W' → (∀ (l' : Nat) (W2 : World), w.heap.size ≤ l' → (∃ r, W2.heap[l']? = some (.loop r)) → Quiet w.heap.size W' W2 → body.wpIn (Fence.wide.inRound l') 0 P (roundEnd w.heap.size It I Ix (pre ++ [x]) W2) a' W2) → K a' W') →
      assign.wpIn (Fence.wide.inRound l) 0 P (Exit.then K (fun _ _ _ => False)) { tmps := (ps.zip (encs x)).foldl (fun t (p, v) => t.setIfInBounds p v) a.tmps, defers := [] } W)
    (hdone : ∀ (xs : List α) (W : World), S xs → I xs W → Q .normal a W)
    (hstop : ∀ (c : Code) (pre : List α) (W : World), Ix c pre W → c.wpIn (Fence.wide.inRound l0) 0 P Q a W) :
    (Code.rangeFunc g ps assign body).wpIn (Fence.wide.inRound l0) 0 P Q a w :=
  wp_range_in hl0 hg eg hit hItlt hps I Ix hI hIx h0
    (fun pre x a' W' => ∀ (l' : Nat) (W2 : World), w.heap.size ≤ l' → (∃ r, W2.heap[l']? = some (.loop r)) → Quiet w.heap.size W' W2 → body.wpIn (Fence.wide.inRound l') 0 P (roundEnd w.heap.size It I Ix (pre ++ [x]) W2) a' W2)
    (fun _ _ _ _ _ h hq l' W2 hl hr hq2 => h l' W2 hl hr (hq.trans hq2)) hround (fun l _ _ _ W hl hr h => h l W hl hr (Quiet.refl _ _)) hdone hstop
end Go.Proofs.YtlalpenfgkfkpaaDoor

/- A region that draws, within a round: its orders as outside one (but for 'defer'), so that what yields in whatever world can be taken first. -/
namespace Go.Proofs.YtlalpenfgkfkpaaDoor
open Go.RowKit Go.Shelf
variable {P : Program}

theorem wpOpIn_inRound {l n : Nat} {ops : Array Oper} {Q : Exit → Act → World → Prop} (hd : ∀ (j : Nat) (o : Oper) c, ops[j]? = some o → o.op ≠ .defer c) {i : Nat} {K : Act → World → Prop} {a : Act} {w : World} (h : wpOpIn Fence.wide n P ops Q i K a w) : wpOpIn (Fence.wide.inRound l) n P ops Q i K a w := by
  unfold wpOpIn at *
  cases ho : ops[i]? with
  | none => rw [ho] at h; exact h
  | some o =>
    rw [ho] at h
    dsimp only at h ⊢
    split
    · rename_i hw
      rw [if_pos hw] at h
      unfold Oper.wpIn at *
      refine ⟨h.1, ?_⟩
      have h2 := h.2
      have e : Oper.semAt (Fence.wide.inRound l).round a.eval o = Oper.semAt Fence.wide.round a.eval o := by
        show Oper.semAt (some l) a.eval o = Oper.semAt none a.eval o
        rw [Oper.semAt_some l _ _ (fun c => hd i o c ho), Oper.semAt_none]
      rw [e]
      exact h2
    · rename_i hw
      rw [if_neg hw] at h
      exact h
theorem wpAnyIn_inRound {l n : Nat} {md : Region.Mode} {ops : Array Oper} {Q : Exit → Act → World → Prop} (hd : ∀ (j : Nat) (o : Oper) c, ops[j]? = some o → o.op ≠ .defer c) : ∀ (fuel : Nat) (listed : Array Bool) (a : Act) (w : World),
    wpAnyIn Fence.wide n P md ops Q fuel listed a w → wpAnyIn (Fence.wide.inRound l) n P md ops Q fuel listed a w
  | 0, _, _, _, h => h
  | fuel + 1, listed, _, _, h => ⟨h.1, fun i hi => wpOpIn_inRound hd (wpOpIn_mono (fun _ _ hk => wpAnyIn_inRound hd fuel _ _ _ hk) (h.2 i hi))⟩
def noDefer (ops : Array Oper) : Bool := ops.all (fun o => match o.op with | .defer _ => false | _ => true)
theorem noDefer_spec {ops : Array Oper} (h : noDefer ops = true) (j : Nat) (o : Oper) (ho : ops[j]? = some o) : ∀ c, o.op ≠ .defer c := by
  intro c e
  obtain ⟨hj, rfl⟩ := Array.getElem?_eq_some_iff.1 ho
  have := (Array.all_eq_true.1 h) j hj
  rw [e] at this
  cases this
/-- A region that draws, within a round: all its orders, at the fence that is wide. -/
theorem region_in {l id : Nat} {ops : Array Oper} {Q : Exit → Act → World → Prop} {a : Act} {w : World} (hm : P.follows .mixedOrders = true) (hd : noDefer ops = true)
    (h : wpAnyIn Fence.wide 0 P .any ops Q ops.size (Array.replicate ops.size false) a w.drew) : (Code.region id ops true).wpIn (Fence.wide.inRound l) 0 P Q a w :=
  wpIn_region_any hm (wpAnyIn_inRound (fun j o c ho => noDefer_spec hd j o ho c) _ _ _ _ h)
end Go.Proofs.YtlalpenfgkfkpaaDoor

/- A region that draws, within a round, by the laws of the plain walk (a condition S on the world that every operation keeps): its reads can be taken first. -/
namespace Go.Proofs.YtlalpenfgkfkpaaDoor
open Go.RowKit Go.Shelf
variable {P : Program}

theorem wpOpIn_of_plain {ops : Array Oper} {Q : Exit → Act → World → Prop} (hL : ¬ LetsOut Q) {i : Nat} {K : Act → World → Prop} {a : Act} {w : World} (h : wpOp P ops Q i K a w) : wpOpIn Fence.wide 0 P ops Q i K a w := by
  unfold wpOp at h
  unfold wpOpIn
  cases ho : ops[i]? with
  | none => rw [ho] at h; exact h
  | some o =>
    rw [ho] at h
    dsimp only at h ⊢
    split
    · rename_i hw
      rw [if_pos hw] at h
      rcases h with h | h
      · unfold Oper.wpIn
        refine ⟨fun f _ => trivial, ?_⟩
        rw [show Fence.wide.round = none from rfl, Oper.semAt_none]
        unfold Oper.wp at h
        generalize (execOp a.eval o).run P w = r at h ⊢
        cases r with
        | ok x w' =>
          cases x <;> simp only [Oper.upon, Oper.uponIn] at h ⊢
          all_goals first | exact h | exact h.elim | exact ⟨fun hc => (by cases hc), callsIn_wide.2 h⟩ | exact ⟨fun hc => (by cases hc), fun c cs _ => let ⟨v, w', r, s⟩ := h c cs; ⟨v, w', r, stepsIn_wide.2 s⟩⟩
        | halt x w' =>
          cases x <;> simp only [Oper.upon, Oper.uponIn] at h ⊢
          all_goals first | exact h | exact h.elim
      · exact absurd h.2 hL
    · rename_i hw
      rw [if_neg hw] at h
      exact ⟨fun f _ => trivial, h⟩
theorem wpAnyIn_of_plain {md : Region.Mode} {ops : Array Oper} {Q : Exit → Act → World → Prop} (hL : ¬ LetsOut Q) : ∀ (fuel : Nat) (listed : Array Bool) (a : Act) (w : World),
    wpAny P md ops Q fuel listed a w → wpAnyIn Fence.wide 0 P md ops Q fuel listed a w
  | 0, _, _, _, h => h
  | fuel + 1, listed, _, _, h => ⟨h.1, fun i hi => wpOpIn_of_plain hL (wpOp_mono (fun _ _ hk => wpAnyIn_of_plain hL fuel _ _ _ hk) (h.2 i hi))⟩
/-- A region that draws, within a round, by a condition on the world. -/
theorem region_held {l id : Nat} {ops : Array Oper} {Q : Exit → Act → World → Prop} {a : Act} {w : World} (S : World → Prop) (hm : P.follows .mixedOrders = true) (hd : noDefer ops = true) (hL : ¬ LetsOut Q) (hS : S w.drew)
    (h : S w.drew → wpAnyH P .any ops Q S ops.size (Array.replicate ops.size false) a w.drew) : (Code.region id ops true).wpIn (Fence.wide.inRound l) 0 P Q a w :=
  region_in hm hd (wpAnyIn_of_plain hL _ _ _ _ (wpAny_of_held _ _ _ _ (h hS)))

/-! ### a function's end behind several ranges over a function -/
def marksOf (ls : List Nat) : List Deferred := ls.map (fun l => { target := .collected l, args := #[] })
theorem bodyPostM_marks {fn : Func} {R : Ending → World → Prop} {tmps : Array Value} {N : Nat} {v : Value} : ∀ {ls : List Nat} {W : World} (_ : ∀ l ∈ ls, W.heap[l]? = some (.deferred (some []))) (_ : ls.Nodup) (_ : ∀ l ∈ ls, N ≤ l)
    (_ : ∀ W', (results fn tmps).run P W' = .ok v W') (_ : ∀ W', Quiet N W W' → R (.returned v) W'), bodyPostM Fence.wide 0 P fn R .ret { tmps := tmps, defers := marksOf ls } W
  | [], W, _, _, _, hr, hR => ⟨v, hr W, hR W (Quiet.refl _ _)⟩
  | l :: ls, W, hm, hn, hN, hr, hR => by
    have hk := hm l (by simp)
    refine ⟨by simp, .inl ⟨_, _, rfl, run_takeDeferred hk, ?_⟩⟩
    have hq : Quiet N W (W.putObj l (.deferred none)) := Quiet.putObj (.deferred none) (hN l (by simp)) hk rfl
    refine bodyPostM_marks (ls := ls) (fun l' hl' => ?_) (List.nodup_cons.1 hn).2 (fun l' hl' => hN l' (by simp [hl'])) hr (fun W' hW' => hR W' (hq.trans hW'))
    have hne : l' ≠ l := fun e => (List.nodup_cons.1 hn).1 (e ▸ hl')
    exact (World.putObj_heap_other hne).trans (hm l' (by simp [hl']))
end Go.Proofs.YtlalpenfgkfkpaaDoor

/- cascade: Cancel. Conditions: the cascade lies in memory; what is timed is in its bucket. -/
namespace Go.Proofs.YtlalpenfgkfkpaaDoor
open Go.RowKit
set_option maxRecDepth 100000
section
variable {w w' : World} {D : Nat → Prop} {p now : Nat} {ws : List Nat} {bm bb : Nat} {Ds : Nat → Nat → Prop} {Dm Db : DataW Unit} {M : List Td} {Lss : List (List (List Nat))}
set_option maxHeartbeats 2000000 in
theorem ccancel_ok (h : CasMem w D p now ws bm bb Ds Dm Db M Lss) {x : Td} {M' : List Td} (hg : M.find? (fun y => y.slot == x.slot) = some x) (hs : x.slot < 4194304) (hd : x.dl < 18446744073709551616) (hb : x.birth ≤ 18446744073709551615) (hne : x.dl ≠ now) {Ls : List (List Nat)} {L : List Nat}
    (hL : Lss[lvl now x.dl]? = some Ls) (hK : Ls[bkt now x.dl]? = some L) (hf : x.slot ∈ L) (hM : ∀ y, y ∈ M' ↔ y ∈ M ∧ y.slot ≠ x.slot) (hM2 : ∀ y, y ∈ M' ↔ y ∈ M ∧ y.birth ≠ x.birth) (hl : M'.length + 1 = M.length) :
    Calls Tryd.prog 24 #[lkP p, .int .u32 x.slot] w fun e w' => e = .returned (.tuple #[tdV x, .int .i64 0]) ∧ (∃ D' Ds' Dm' Db', CasMem w' D' p now ws bm bb Ds' Dm' Db' M' (Lss.set (lvl now x.dl) (Ls.set (bkt now x.dl) (L.erase x.slot))) ∧ grewD D D' w) ∧ Mod D w w' := by
  have hal : Pure w (w.alloc (.cells #[.int .u32 0, .int .u64 0, .int .u64 0] 31)) := (Mod.refl _ w).alloc _
  have h4 := heap_new (w := w) (o := .cells #[.int .u32 0, .int .u64 0, .int .u64 0] 31 (0, 0)) rfl
  have hl8 : lvl now x.dl < 8 := (lvl_spec h.box.now hd).1
  obtain ⟨q, hq⟩ : ∃ q, ws[lvl now x.dl]? = some q := ⟨_, List.getElem?_eq_getElem (by rw [h.box.len]; exact hl8)⟩
  have hget := cget_ok (h.pure hal) (s := x.slot) (by omega)
  rw [getT_hit hs hg] at hget
  have HGe := Lib.hid hget
  have HPl := Lib.hid (fun (W : World) (hW : Pure (w.alloc (.cells #[.int .u32 0, .int .u64 0, .int .u64 0] 31)) W) => cplace_ok ((h.pure hal).pure hW).box hd hne)
  obtain ⟨lv, hlv⟩ : ∃ lv, lvl now x.dl = lv := ⟨_, rfl⟩
  obtain ⟨bk, hbk2⟩ : ∃ bk, bkt now x.dl = bk := ⟨_, rfl⟩
  rw [hlv] at hl8 hq hL HPl ⊢
  rw [hbk2] at hK HPl ⊢
  have nD : ∀ k, D k → k < w.heap.size := fun k hk => h.lt hk
  have HC0 := Lib.hid h; have HC := Lib.hid (h.pure hal); have HND := Lib.hid nD; have HAL := Lib.hid hal
  have HXM := Lib.hid (List.mem_of_find?_eq_some hg)
  have HL := Lib.hid hL; have HK := Lib.hid hK; have HF := Lib.hid hf; have HQ := Lib.hid hq; have HM := Lib.hid hM; have HM2 := Lib.hid hM2
  clear h hal nD hL hK hf hq hlv hbk2 hne hg hM hM2 hget
  unfold tdV at HGe ⊢
  dsimp only at HGe
  go_enter Tryd.func24, Tryd.ntmps24
  go_upto_region 1 with fail
  generalize w.alloc (.cells #[.int .u32 0, .int .u64 0, .int .u64 0] 31) = W1 at *
  obtain ⟨b4, hb4⟩ : ∃ b4, w.heap.size = b4 := ⟨_, rfl⟩
  rw [hb4] at h4 HND ⊢
  have HB4 := Lib.hid hb4
  have H4 := Lib.hid h4
  clear hb4 h4
  go_upto_region 2 with (go_at_call 19; refine Calls.mono HGe.out ?_; rintro e w2 ⟨rfl, hp2⟩)
  have hal2 : Pure w2 (w2.alloc (.cells #[.int .u32 x.slot, .int .u64 x.dl, .int .u64 x.birth] 31)) := (Mod.refl _ w2).alloc _
  have h6 := heap_new (w := w2) (o := .cells #[.int .u32 x.slot, .int .u64 x.dl, .int .u64 x.birth] 31 (0, 0)) rfl
  have hp3 := hp2.trans hal2
  have hb46 : b4 < w2.heap.size := hp2.lt (lt_of_block H4.out)
  have HP3 := Lib.hid hp3
  have HC3 := Lib.hid (HC.out.pure hp3)
  have HPl3 := Lib.hid (HPl.out _ hp3)
  clear hal2 hp2 hp3 HPl HGe
  generalize w2.alloc (.cells #[.int .u32 x.slot, .int .u64 x.dl, .int .u64 x.birth] 31) = W3 at *
  generalize w2.heap.size = b6 at *
  have H6 := Lib.hid h6
  have h6_0 := cell_of_row _ _ 0 _ _ _ h6; have h6_1 := cell_of_row _ _ 1 _ _ _ h6; have h6_2 := cell_of_row _ _ 2 _ _ _ h6; have h6_f := (fun j => frozen_of_row _ _ j _ _ h6); have h6_l := lt_of_block h6; simp at h6_0 h6_1 h6_2; have H_h6 := Lib.hid h6; clear h6
  go_upto_region 4 with (go_at_call 49; refine Calls.mono HPl3.out ?_; rintro e w4 ⟨rfl, hp4⟩)
  have h64 := hp4.heap (fun h => h) H6.out
  have HC4 := Lib.hid (HC3.out.pure hp4)
  have hcl := HC4.out.box.level HQ.out
  have HP4 := Lib.hid (HP3.out.trans hp4)
  clear h6_0 h6_1 h6_2 h6_f h6_l
  clear H_h6 HPl3 hp4 HC3
  have dl8 : decide (lv < 8) = true := decide_eq_true hl8
  have l0 : (0 : Int) ≤ (lv : Int) := by omega
  have l1 : (lv : Int) < 8 := by omega
  have HRe := Lib.hid (wrem_ok (HC4.out.lev lv q Ls HQ.out HL.out) hs HK.out HF.out)
  obtain ⟨c0, c9, c10, _, _⟩ := HC4.out.box.cells
  have H64 := Lib.hid h64
  clear h64
  go_upto_region 5 with (go_at_call 62; refine Calls.mono HRe.out ?_; rintro e w5 ⟨rfl, hw5, hm5⟩)
  obtain ⟨D4, hC5, hg5⟩ := HC4.out.level hl8 HQ.out hw5 (grewD.refl _ _) hm5
  have inD : ∀ k, Ds lv k → D k := fun k hk => (HC0.out.dd k).2 (.inr (.inr (.inr ⟨lv, hl8, hk⟩)))
  have hb46' : b4 < b6 := hb46
  have h65 := hm5.heap (fun e => by have := HND.out b6 (inD b6 e); omega) H64.out
  have hmD : Mod D w4 w5 := hm5.mono (fun k _ hk => inD k hk)
  have h45 := hmD.heap (fun e => by have := HND.out b4 e; omega) (HP4.out.heap (fun h => h) H4.out)
  have hfo := cforget_ok hC5 HXM.out (by omega) hb HM.out HM2.out hl
  unfold tdV at hfo
  have HFo := Lib.hid hfo; have HG5 := Lib.hid hg5; have HMD := Lib.hid hmD; have H65 := Lib.hid h65; have H45 := Lib.hid h45
  have hnm : ∀ k, (k = bm ∨ k = bb) → D k := fun k hk => by
    rcases hk with rfl | rfl
    · exact (HC0.out.dd k).2 (.inr (.inl rfl))
    · exact (HC0.out.dd k).2 (.inr (.inr (.inl rfl)))
  have HNM := Lib.hid hnm
  clear hC5 hg5 inD hm5 hw5 hmD hfo h45 hnm HRe c0 c9 c10 hcl
  have h65_0 := cell_of_row _ _ 0 _ _ _ h65; have h65_1 := cell_of_row _ _ 1 _ _ _ h65; have h65_2 := cell_of_row _ _ 2 _ _ _ h65; have h65_f := (fun j => frozen_of_row _ _ j _ _ h65); have h65_l := lt_of_block h65; simp at h65_0 h65_1 h65_2; have H_h65 := Lib.hid h65; clear h65
  go_upto_region 6 with (go_at_call 52; refine Calls.mono HFo.out ?_; rintro e w6 ⟨rfl, ⟨Dm', Db', hC6⟩, hm6⟩)
  have h66 := hm6.heap (fun e => by have := HND.out b6 (HNM.out b6 e); omega) H65.out
  have h46 := hm6.heap (fun e => by have := HND.out b4 (HNM.out b4 e); omega) H45.out
  have HC6 := Lib.hid hC6; have HM6 := Lib.hid hm6; have H46 := Lib.hid h46
  have hsz : w.heap.size ≤ w4.heap.size := (HAL.out.trans HP4.out).size
  have HSZ := Lib.hid hsz
  clear h65_0 h65_1 h65_2 h65_f h65_l
  clear H_h65 hC6 hm6 hsz
  have h66_0 := cell_of_row _ _ 0 _ _ _ h66; have h66_1 := cell_of_row _ _ 1 _ _ _ h66; have h66_2 := cell_of_row _ _ 2 _ _ _ h66; have h66_f := (fun j => frozen_of_row _ _ j _ _ h66); have h66_l := lt_of_block h66; simp at h66_0 h66_1 h66_2; have H_h66 := Lib.hid h66; clear h66
  have h46_0 := cell_of_row _ _ 0 _ _ _ h46; have h46_1 := cell_of_row _ _ 1 _ _ _ h46; have h46_2 := cell_of_row _ _ 2 _ _ _ h46; have h46_f := (fun j => frozen_of_row _ _ j _ _ h46); have h46_l := lt_of_block h46; simp at h46_0 h46_1 h46_2; have H_h46 := Lib.hid h46; clear h46
  go_wp2
  have hmf : Mod (fun k => k = b4) w6 (((w6.setCell ⟨b4, 0, none⟩ (.int .u32 x.slot)).setCell ⟨b4, 1, none⟩ (.int .u64 x.dl)).setCell ⟨b4, 2, none⟩ (.int .u64 x.birth)) :=
    (((Mod.refl (fun k => k = b4) w6).setCell (p := ⟨b4, 0, none⟩) (fun _ => rfl) _).setCell (p := ⟨b4, 1, none⟩) (fun _ => rfl) _).setCell (p := ⟨b4, 2, none⟩) (fun _ => rfl) _
  have hD4 : ∀ k, D4 k → k ≠ b4 := fun k hk e => by
    subst e
    rcases HG5.out k hk with c | c
    · have := HND.out k c; omega
    · have := HP4.out.size; have := lt_of_block H4.out; omega
  have hB4 : b4 = w.heap.size := HB4.out.symm
  refine bodyPost_ret (v := .tuple #[.agg #[.int .u32 x.slot, .int .u64 x.dl, .int .u64 x.birth], .int .i64 0]) (by simp [results, Tryd.results24, go_sem, h46_0, h46_1, h46_2, h46_l]) rfl ⟨rfl, ⟨D4, _, _, _, HC6.out.frame hmf (fun k hk e => hD4 k hk e), fun k hk => ?_⟩, ?_⟩
  · rcases HG5.out k hk with c | c
    · exact .inl c
    · exact .inr (Nat.le_trans HSZ.out c)
  · exact (((HAL.out.trans HP4.out).mono (fun _ _ h => h.elim) : Mod D w w4).trans (HMD.out.trans (HM6.out.mono (fun k _ hk => HNM.out k hk)))).then hmf (fun k hk e => by exfalso; omega)
end
end Go.Proofs.YtlalpenfgkfkpaaDoor

/- cascade: Cancel of a slot that is not there; Now, Len. Conditions: the cascade lies in memory. -/
namespace Go.Proofs.YtlalpenfgkfkpaaDoor
open Go.RowKit
set_option maxRecDepth 100000
section
variable {w w' : World} {D : Nat → Prop} {p now : Nat} {ws : List Nat} {bm bb : Nat} {Ds : Nat → Nat → Prop} {Dm Db : DataW Unit} {M : List Td} {Lss : List (List (List Nat))}
set_option maxHeartbeats 1000000 in
theorem ccancel_no (h : CasMem w D p now ws bm bb Ds Dm Db M Lss) {s : Nat} (h32 : s ≤ 4294967295) {er : Int} (he : getT M s = (zTd, er)) (h0 : er ≠ 0) :
    Calls Tryd.prog 24 #[lkP p, .int .u32 s] w fun e w' => e = .returned (.tuple #[tdV zTd, .int .i64 er]) ∧ Pure w w' := by
  have hal : Pure w (w.alloc (.cells #[.int .u32 0, .int .u64 0, .int .u64 0] 31)) := (Mod.refl _ w).alloc _
  have h4 := heap_new (w := w) (o := .cells #[.int .u32 0, .int .u64 0, .int .u64 0] 31 (0, 0)) rfl
  have hget := cget_ok (h.pure hal) (s := s) h32
  rw [he] at hget
  have HGe := Lib.hid hget
  have HAL := Lib.hid hal
  have e0 : (er == 0) = false := by simpa using h0
  clear h hal hget he h0
  unfold tdV at HGe ⊢
  dsimp only at HGe
  go_enter Tryd.func24, Tryd.ntmps24
  go_upto_region 1 with fail
  generalize w.alloc (.cells #[.int .u32 0, .int .u64 0, .int .u64 0] 31) = W1 at *
  obtain ⟨b4, hb4⟩ : ∃ b4, w.heap.size = b4 := ⟨_, rfl⟩
  rw [hb4] at h4 ⊢
  have hb4' : w.heap.size ≤ b4 := by omega
  have H4 := Lib.hid h4
  clear hb4 h4
  go_upto_region 2 with (go_at_call 19; refine Calls.mono HGe.out ?_; rintro e w2 ⟨rfl, hp2⟩)
  have hal2 : Pure w2 (w2.alloc (.cells #[.int .u32 0, .int .u64 0, .int .u64 0] 31)) := (Mod.refl _ w2).alloc _
  have h6 := heap_new (w := w2) (o := .cells #[.int .u32 0, .int .u64 0, .int .u64 0] 31 (0, 0)) rfl
  have h42 := (hp2.trans hal2).heap (fun h => h) H4.out
  have HPP := Lib.hid (HAL.out.trans (hp2.trans hal2))
  clear hal2 hp2 HGe
  generalize w2.alloc (.cells #[.int .u32 0, .int .u64 0, .int .u64 0] 31) = W3 at *
  generalize w2.heap.size = b6 at *
  have h6_0 := cell_of_row _ _ 0 _ _ _ h6; have h6_1 := cell_of_row _ _ 1 _ _ _ h6; have h6_2 := cell_of_row _ _ 2 _ _ _ h6; have h6_f := (fun j => frozen_of_row _ _ j _ _ h6); have h6_l := lt_of_block h6; simp at h6_0 h6_1 h6_2; have H_h6 := Lib.hid h6; clear h6
  have h42_0 := cell_of_row _ _ 0 _ _ _ h42; have h42_1 := cell_of_row _ _ 1 _ _ _ h42; have h42_2 := cell_of_row _ _ 2 _ _ _ h42; have h42_f := (fun j => frozen_of_row _ _ j _ _ h42); have h42_l := lt_of_block h42; simp at h42_0 h42_1 h42_2; have H_h42 := Lib.hid h42; clear h42
  go_wp2
  have hpp := HPP.out
  refine bodyPost_ret (v := .tuple #[.agg #[.int .u32 0, .int .u64 0, .int .u64 0], .int .i64 er]) (by simp [results, Tryd.results24, go_sem, h42_0, h42_1, h42_2, h42_l]) rfl ⟨rfl, ?_⟩
  (repeat' (first | (with_reducible exact Mod.refl _ _) | (with_reducible refine Mod.alloc ?_ _) | (with_reducible refine Mod.drew ?_) | (with_reducible refine Mod.drewN ?_ _) | (with_reducible refine Mod.setCell ?_ ?_ _) | (refine Mod.then ?_ (by with_reducible assumption) ?_)))
  (all_goals (intros; first | (exfalso; assumption) | omega | (simp at *; done) | (simp at *; omega)))
theorem cnow_ok (h : CasMem w D p now ws bm bb Ds Dm Db M Lss) : Calls Tryd.prog 28 #[lkP p] w fun e w' => e = .returned (.int .u64 now) ∧ w = w' := by
  have HCk := Lib.hid (ccheck_ok h.box (s := 0) (by omega))
  obtain ⟨c0, c9, c10, _, _⟩ := h.box.cells
  clear h
  go_enter Tryd.func28, Tryd.ntmps28
  go_wp2_with (go_at_call 46; refine Calls.mono HCk.out ?_; rintro e w' ⟨rfl, rfl⟩)
  go_ret
  exact ⟨rfl, rfl⟩
theorem clen_ok (h : CasMem w D p now ws bm bb Ds Dm Db M Lss) : Calls Tryd.prog 15 #[lkP p] w fun e w' => e = .returned (.int .i64 M.length) ∧ w = w' := by
  have HCk := Lib.hid (ccheck_ok h.box (s := 0) (by omega))
  obtain ⟨c0, c9, c10, _, _⟩ := h.box.cells
  have hlen := fun ty => h.what.own.len Tryd.underlying54 ty
  rw [h.what.size] at hlen
  clear h
  go_enter Tryd.func15, Tryd.ntmps15
  go_wp2_with (go_at_call 46; refine Calls.mono HCk.out ?_; rintro e w' ⟨rfl, rfl⟩)
  go_ret
  exact ⟨rfl, rfl⟩
end
end Go.Proofs.YtlalpenfgkfkpaaDoor

/- cascade: at. Conditions: the cascade lies in memory. -/
namespace Go.Proofs.YtlalpenfgkfkpaaDoor
open Go.RowKit
set_option maxRecDepth 100000
/-- The error of a slot and a deadline. -/
def atE (now s dl : Nat) : Int := if s < 4194304 then (if dl = 18446744073709551615 then 2 else if dl ≤ now then 3 else 0) else 2
section
variable {w w' : World} {p now bm bb : Nat} {ws : List Nat}
theorem cat_any (h : CasBox w p now ws bm bb) {s dl : Nat} (h32 : s ≤ 4294967295) (hd : dl ≤ 18446744073709551615) : Calls Tryd.prog 47 #[lkP p, .int .u32 s, .int .u64 dl] w fun e w' => e = .returned (.int .i64 (atE now s dl)) ∧ w = w' := by
  have HCk := Lib.hid (ccheck_any h h32)
  obtain ⟨c0, _, _, _, _⟩ := h.cells
  clear h
  unfold slotE at HCk
  unfold atE
  by_cases hs : s < 4194304
  · rw [if_pos hs] at HCk ⊢
    by_cases hn : dl = 18446744073709551615
    · rw [if_pos hn]
      have e1 : ((dl : Int) == 18446744073709551615) = true := by simp; omega
      clear hn
      go_enter Tryd.func47, Tryd.ntmps47
      go_wp2_with (go_at_call 46; refine Calls.mono HCk.out ?_; rintro e w' ⟨rfl, rfl⟩)
      go_ret
      exact ⟨rfl, rfl⟩
    · rw [if_neg hn]
      have e1 : ((dl : Int) == 18446744073709551615) = false := by simp; omega
      clear hn
      by_cases hl : dl ≤ now
      · rw [if_pos hl]
        have d1 : decide ((dl : Int) ≤ (now : Int)) = true := decide_eq_true (by omega)
        have d2 : decide (dl ≤ now) = true := decide_eq_true hl
        go_enter Tryd.func47, Tryd.ntmps47
        go_wp2_with (go_at_call 46; refine Calls.mono HCk.out ?_; rintro e w' ⟨rfl, rfl⟩)
        go_ret
        exact ⟨rfl, rfl⟩
      · rw [if_neg hl]
        have d1 : decide ((dl : Int) ≤ (now : Int)) = false := decide_eq_false (by omega)
        have d2 : decide (dl ≤ now) = false := decide_eq_false hl
        go_enter Tryd.func47, Tryd.ntmps47
        go_wp2_with (go_at_call 46; refine Calls.mono HCk.out ?_; rintro e w' ⟨rfl, rfl⟩)
        go_ret
        exact ⟨rfl, rfl⟩
  · rw [if_neg hs] at HCk ⊢
    go_enter Tryd.func47, Tryd.ntmps47
    go_wp2_with (go_at_call 46; refine Calls.mono HCk.out ?_; rintro e w' ⟨rfl, rfl⟩)
    go_ret
    exact ⟨rfl, rfl⟩
end
end Go.Proofs.YtlalpenfgkfkpaaDoor

/- cascade: Schedule. Conditions: the cascade lies in memory. -/
namespace Go.Proofs.YtlalpenfgkfkpaaDoor
open Go.RowKit
set_option maxRecDepth 100000
section
variable {w w' : World} {D : Nat → Prop} {p now : Nat} {ws : List Nat} {bm bb : Nat} {Ds : Nat → Nat → Prop} {Dm Db : DataW Unit} {M : List Td} {Lss : List (List (List Nat))}
set_option maxHeartbeats 2000000 in
theorem csched_ok (h : CasMem w D p now ws bm bb Ds Dm Db M Lss) {x : Td} (hs : x.slot < 4194304) (hd : x.dl < 18446744073709551615) (hb : x.birth ≤ 18446744073709551615) (hb0 : x.birth ≠ 0) (hn : now < x.dl) (hMl : M.length < maxLen) {Ls : List (List Nat)} {L : List Nat}
    (hL : Lss[lvl now x.dl]? = some Ls) (hK : Ls[bkt now x.dl]? = some L) (hf : ¬ inL Ls x.slot) (h1 : ∀ y ∈ M, y.slot ≠ x.slot) (h2 : ∀ y ∈ M, y.birth ≠ x.birth) :
    Calls Tryd.prog 13 #[lkP p, tdV x] w fun e w' => e = .returned (.int .i64 0) ∧ (∃ D' Ds' Dm' Db', CasMem w' D' p now ws bm bb Ds' Dm' Db' (x :: M) (Lss.set (lvl now x.dl) (Ls.set (bkt now x.dl) (L ++ [x.slot]))) ∧ grewD D D' w) ∧ Mod D w w' := by
  have hal : Pure w (w.alloc (.cells #[.int .u32 x.slot, .int .u64 x.dl, .int .u64 x.birth] 31)) := (Mod.refl _ w).alloc _
  have h3 := heap_new (w := w) (o := .cells #[.int .u32 x.slot, .int .u64 x.dl, .int .u64 x.birth] 31 (0, 0)) rfl
  have HC := Lib.hid (h.pure hal)
  have HCk := Lib.hid (ccheck_ok (h.pure hal).box hs)
  have hat := cat_any (h.pure hal).box (s := x.slot) (dl := x.dl) (by omega) (by omega)
  unfold atE at hat
  rw [if_pos hs, if_neg (by omega), if_neg (by omega)] at hat
  have HAt := Lib.hid hat
  have HPu := Lib.hid (fun (W : World) (hW : Pure w W) => cput_ok (h.pure hW) (x := x) (M' := x :: M) hs (by omega) hb (by omega) hMl hL hK hf (.inl ⟨h1, h2, rfl⟩))
  have hlk := fun (W : World) (hW : Pure (w.alloc (.cells #[.int .u32 x.slot, .int .u64 x.dl, .int .u64 x.birth] 31)) W) => ((h.pure hal).pure hW).what.look_no (s := x.slot) (by omega) h1
  have hlb := fun (W : World) (hW : Pure (w.alloc (.cells #[.int .u32 x.slot, .int .u64 x.dl, .int .u64 x.birth] 31)) W) => ((h.pure hal).pure hW).births.look (s := x.birth) hb
  have hbh : Maps.has Db (kB x.birth) = false := by
    cases hh : Maps.has Db (kB x.birth) with
    | false => rfl
    | true => obtain ⟨y, hy, e⟩ := (h.births.has _).1 hh; exact absurd e (h2 y hy)
  rw [hbh] at hlb
  have HLK := Lib.hid hlk; have HLB := Lib.hid hlb; have HAL := Lib.hid hal
  have e0 : ((x.birth : Int) == 0) = false := by simp; omega
  clear h hal hat hlk hlb hbh hL hK hf h1 h2 hb0
  unfold tdV at HPu HLK ⊢
  go_enter Tryd.func13, Tryd.ntmps13
  go_upto_region 1 with fail
  generalize w.alloc (.cells #[.int .u32 x.slot, .int .u64 x.dl, .int .u64 x.birth] 31) = W1 at *
  obtain ⟨b3, hb3⟩ : ∃ b3, w.heap.size = b3 := ⟨_, rfl⟩
  rw [hb3] at h3 ⊢
  have H3 := Lib.hid h3
  clear hb3
  have h3_0 := cell_of_row _ _ 0 _ _ _ h3; have h3_1 := cell_of_row _ _ 1 _ _ _ h3; have h3_2 := cell_of_row _ _ 2 _ _ _ h3; have h3_f := (fun j => frozen_of_row _ _ j _ _ h3); have h3_l := lt_of_block h3; simp at h3_0 h3_1 h3_2; have H_h3 := Lib.hid h3; clear h3
  obtain ⟨c0, c9, c10, _, _⟩ := HC.out.box.cells
  go_upto_region 9 with (first
    | (go_at_call 46; refine Calls.mono HCk.out ?_; rintro e w' ⟨rfl, rfl⟩)
    | (go_at_call 47; refine Calls.mono HAt.out ?_; rintro e w' ⟨rfl, rfl⟩))
  have hk1 := HLK.out W1 (Mod.refl _ _)
  have hk2 := HLK.out W1.drew (Mod.refl _ _).drew
  have hk3 := HLK.out (W1.alloc (.cells #[.int .u32 0, .int .u64 0, .int .u64 0] 31)) ((Mod.refl _ _).alloc _)
  have hk4 := HLK.out (W1.alloc (.cells #[.int .u32 0, .int .u64 0, .int .u64 0] 31)).drew ((Mod.refl _ _).alloc _).drew
  go_cut [8] (fun v wx => v = .bool false ∧ Pure W1 wx)
  case first =>
    go_region
    all_goals
      (try go_wp2)
      go_meet
      first
        | exact ⟨rfl, (Mod.refl _ _).alloc _⟩
        | exact ⟨rfl, ((Mod.refl _ _).alloc _).drew⟩
  case rest =>
    obtain ⟨rfl, hpx⟩ := hcut
    have h3x := hpx.heap (fun h => h) H3.out
    have HCx := Lib.hid (HC.out.pure hpx)
    have HPX := Lib.hid hpx
    have H3x := Lib.hid h3x
    clear h3_0 h3_1 h3_2 h3_f h3_l
    clear H_h3 c0 c9 c10 hk1 hk2 hk3 hk4
    have h3x_0 := cell_of_row _ _ 0 _ _ _ h3x; have h3x_1 := cell_of_row _ _ 1 _ _ _ h3x; have h3x_2 := cell_of_row _ _ 2 _ _ _ h3x; have h3x_f := (fun j => frozen_of_row _ _ j _ _ h3x); have h3x_l := lt_of_block h3x; simp at h3x_0 h3x_1 h3x_2; have H_h3x := Lib.hid h3x; clear h3x
    obtain ⟨c0, c9, c10, _, _⟩ := HCx.out.box.cells
    have hk1 := HLB.out wc hpx
    have hk2 := HLB.out wc.drew hpx.drew
    have hk3 := HLB.out (wc.alloc (.cells #[] 96)) (hpx.alloc _)
    have hk4 := HLB.out (wc.alloc (.cells #[] 96)).drew (hpx.alloc _).drew
    go_upto_region 10 with fail
    go_cut [10] (fun v wx => v = .bool false ∧ Pure W1 wx)
    case first =>
      go_region
      all_goals
        (try go_wp2)
        try go_meet
        first
          | exact ⟨rfl, hpx⟩
          | exact ⟨rfl, hpx.drew⟩
          | exact ⟨rfl, hpx.alloc _⟩
          | exact ⟨rfl, (hpx.alloc _).drew⟩
    case rest =>
      obtain ⟨rfl, hpy⟩ := hcut
      have h3y := hpy.heap (fun h => h) H3.out
      have HCy := Lib.hid (HC.out.pure hpy)
      have HPY := Lib.hid hpy
      have H3y := Lib.hid h3y
      clear h3x_0 h3x_1 h3x_2 h3x_f h3x_l
      clear H_h3x c0 c9 c10 hk1 hk2 hk3 hk4 HCx
      have h3y_0 := cell_of_row _ _ 0 _ _ _ h3y; have h3y_1 := cell_of_row _ _ 1 _ _ _ h3y; have h3y_2 := cell_of_row _ _ 2 _ _ _ h3y; have h3y_f := (fun j => frozen_of_row _ _ j _ _ h3y); have h3y_l := lt_of_block h3y; simp at h3y_0 h3y_1 h3y_2; have H_h3y := Lib.hid h3y; clear h3y
      obtain ⟨c0, c9, c10, _, _⟩ := HCy.out.box.cells
      go_upto_region 13 with fail
      go_upto_region 14 with (go_at_call 48; refine Calls.mono (HPu.out _ (by first | exact HAL.out.trans HPY.out | exact (HAL.out.trans HPY.out).drew)) ?_; rintro e w' ⟨rfl, ⟨D', Ds', Dm', Db', hC, hg⟩, hm⟩)
      have hm0 : Mod D w w' := ((HAL.out.trans HPY.out).mono (fun _ _ h => h.elim) : Mod D w wc).trans (by first | exact hm | exact Mod.of_drew hm)
      have hg0 : grewD D D' w := fun k hk => by
        rcases hg k hk with e | e
        · exact .inl e
        · exact .inr (Nat.le_trans (HAL.out.trans HPY.out).size e)
      have HF := Lib.hid hC
      have HM := Lib.hid hm0
      have HG := Lib.hid hg0
      clear hC hm hg hm0 hg0
      go_wp2
      exact bodyPost_ret (v := .int .i64 0) (by simp [results, Tryd.results13, go_sem]) rfl ⟨rfl, ⟨_, _, _, _, HF.out, HG.out⟩, HM.out⟩
end
end Go.Proofs.YtlalpenfgkfkpaaDoor

/- cascade: Schedule's errors ahead of the maps. Conditions: the cascade lies in memory. -/
namespace Go.Proofs.YtlalpenfgkfkpaaDoor
open Go.RowKit
set_option maxRecDepth 100000
/-- The error of what is to be scheduled, ahead of the maps. -/
def schE (now : Nat) (x : Td) : Int := if x.slot < 4194304 then (if x.birth = 0 then 2 else atE now x.slot x.dl) else 2
section
variable {w w' : World} {D : Nat → Prop} {p now : Nat} {ws : List Nat} {bm bb : Nat} {Ds : Nat → Nat → Prop} {Dm Db : DataW Unit} {M : List Td} {Lss : List (List (List Nat))}
set_option maxHeartbeats 2000000 in
theorem csched_er (h : CasMem w D p now ws bm bb Ds Dm Db M Lss) {x : Td} (h32 : x.slot ≤ 4294967295) (hd : x.dl ≤ 18446744073709551615) (hb : x.birth ≤ 18446744073709551615) (he : schE now x ≠ 0) :
    Calls Tryd.prog 13 #[lkP p, tdV x] w fun e w' => e = .returned (.int .i64 (schE now x)) ∧ Pure w w' := by
  have hal : Pure w (w.alloc (.cells #[.int .u32 x.slot, .int .u64 x.dl, .int .u64 x.birth] 31)) := (Mod.refl _ w).alloc _
  have h3 := heap_new (w := w) (o := .cells #[.int .u32 x.slot, .int .u64 x.dl, .int .u64 x.birth] 31 (0, 0)) rfl
  have hck := ccheck_any (h.pure hal).box (s := x.slot) h32
  unfold slotE at hck
  have hat := cat_any (h.pure hal).box (s := x.slot) (dl := x.dl) h32 hd
  have HCk := Lib.hid hck
  have HAt := Lib.hid hat
  have HAL := Lib.hid hal
  obtain ⟨E, hE⟩ : ∃ E, schE now x = E := ⟨_, rfl⟩
  rw [hE] at he ⊢
  clear h hal hck hat
  unfold tdV
  go_enter Tryd.func13, Tryd.ntmps13
  go_upto_region 1 with fail
  generalize w.alloc (.cells #[.int .u32 x.slot, .int .u64 x.dl, .int .u64 x.birth] 31) = W1 at *
  obtain ⟨b3, hb3⟩ : ∃ b3, w.heap.size = b3 := ⟨_, rfl⟩
  rw [hb3] at h3 ⊢
  clear hb3
  have h3_0 := cell_of_row _ _ 0 _ _ _ h3; have h3_1 := cell_of_row _ _ 1 _ _ _ h3; have h3_2 := cell_of_row _ _ 2 _ _ _ h3; have h3_f := (fun j => frozen_of_row _ _ j _ _ h3); have h3_l := lt_of_block h3; simp at h3_0 h3_1 h3_2; have H_h3 := Lib.hid h3; clear h3
  unfold schE at hE
  by_cases hs : x.slot < 4194304
  · rw [if_pos hs] at hE
    have hck := HCk.out
    rw [if_pos hs] at hck
    have HCk2 := Lib.hid hck
    clear HCk hck
    by_cases hb0 : x.birth = 0
    · rw [if_pos hb0] at hE
      subst hE
      have e0 : ((x.birth : Int) == 0) = true := by simp; omega
      go_wp2_with (go_at_call 46; refine Calls.mono HCk2.out ?_; rintro e w' ⟨rfl, rfl⟩)
      have hpp := HAL.out
      exact bodyPost_ret (v := .int .i64 2) (by simp [results, Tryd.results13, go_sem]) rfl ⟨rfl, by first | exact hpp | exact hpp.drew⟩
    · rw [if_neg hb0] at hE
      have e0 : ((x.birth : Int) == 0) = false := by simp; omega
      rw [hE] at HAt
      have e1 : (E == 0) = false := by simpa using he
      clear hE
      go_wp2_with (first
        | (go_at_call 46; refine Calls.mono HCk2.out ?_; rintro e w' ⟨rfl, rfl⟩)
        | (go_at_call 47; refine Calls.mono HAt.out ?_; rintro e w' ⟨rfl, rfl⟩))
      have hpp := HAL.out
      exact bodyPost_ret (v := .int .i64 E) (by simp [results, Tryd.results13, go_sem]) rfl ⟨rfl, by first | exact hpp | exact hpp.drew⟩
  · rw [if_neg hs] at hE
    subst hE
    have hck := HCk.out
    rw [if_neg hs] at hck
    have HCk2 := Lib.hid hck
    clear HCk hck
    go_wp2_with (go_at_call 46; refine Calls.mono HCk2.out ?_; rintro e w' ⟨rfl, rfl⟩)
    have hpp := HAL.out
    exact bodyPost_ret (v := .int .i64 2) (by simp [results, Tryd.results13, go_sem]) rfl ⟨rfl, by first | exact hpp | exact hpp.drew⟩
end
end Go.Proofs.YtlalpenfgkfkpaaDoor
