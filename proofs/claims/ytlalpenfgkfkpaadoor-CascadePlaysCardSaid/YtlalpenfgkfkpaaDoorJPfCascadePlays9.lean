/- Lemmas and contracts of functions, strung together out of 5 texts. No condition. -/
import Derived.Test.YtlalpenfgkfkpaaDoorJPfCascadePlays8
import Derived.Test.YtlalpenfgkfkpaaDoorJPfCascadePlays7
/- The reference of cascade: Before, Put, Out, Next, Advance. Conditions: the lists are read. -/
namespace Go.Proofs.YtlalpenfgkfkpaaDoor
open Go.RowKit Go.Shelf
set_option maxRecDepth 100000
theorem rd_pre {w : World} {a : Option Addr} {n c j : Nat} {L : List Td} (h : ReadAt w (.slice a n c) 3 (L.flatMap tdC)) (hj : j ≤ n) : ReadAt w (.slice a j c) 3 ((L.take j).flatMap tdC) := by
  obtain ⟨a', n', c', e, hl, h1, h0, hc⟩ := h
  injection e with e1 e2 e3
  subst e1 e2 e3
  have hln : L.length = n := by rw [flat_length tdC 3 (fun _ => rfl)] at hl; omega
  refine ⟨a, j, c, rfl, by rw [flat_length tdC 3 (fun _ => rfl), List.length_take]; omega, tdC_one _, fun e => by have := h0 e; omega, fun ad ha i u hu => hc ad ha i u ?_⟩
  rw [← List.take_append_drop j L, List.flatMap_append]
  have hi := (List.getElem?_eq_some_iff.1 hu).1
  rw [List.getElem?_append_left hi]
  exact hu
theorem rd_suf {w : World} {ad : Addr} {n c j k : Nat} {L : List Td} (h : ReadAt w (.slice (some ad) n c) 3 (L.flatMap tdC)) (hj : j ≤ n) (hk : k = n - j) : ReadAt w (.slice (some (ad.add (j * 3))) k (c - j)) 3 ((L.drop j).flatMap tdC) := by
  subst hk
  obtain ⟨a', n', c', e, hl, h1, h0, hc⟩ := h
  injection e with e1 e2 e3
  subst e1 e2 e3
  have hln : L.length = n := by rw [flat_length tdC 3 (fun _ => rfl)] at hl; omega
  refine ⟨some (ad.add (j * 3)), n - j, c - j, rfl, by rw [flat_length tdC 3 (fun _ => rfl), List.length_drop]; omega, tdC_one _, fun e => (by cases e), fun ad' ha i u hu => ?_⟩
  injection ha with ha
  subst ha
  rw [Go.Deep.add_add]
  refine hc ad rfl (j * 3 + i) u ?_
  rw [← List.take_append_drop j L, List.flatMap_append, List.getElem?_append_right (by rw [flat_length tdC 3 (fun _ => rfl), List.length_take]; omega), flat_length tdC 3 (fun _ => rfl), List.length_take]
  rw [show j * 3 + i - min j L.length * 3 = i by rw [Nat.min_eq_left (by omega)]; omega]
  exact hu
theorem rd_sufI {w : World} {ad : Addr} {n c j : Nat} {L : List Td} (h : ReadAt w (.slice (some ad) n c) 3 (L.flatMap tdC)) (hj : j ≤ n) (hc : n ≤ c) : ReadAt w (.slice (if c = j then some ad else some (ad.add (j * 3))) (n - j) (c - j)) 3 ((L.drop j).flatMap tdC) := by
  by_cases e : c = j
  · rw [if_pos e]
    have hl : L.length = n := by
      obtain ⟨a', n', c', e, hl, _⟩ := h
      injection e with e1 e2 e3
      subst e2
      rw [flat_length tdC 3 (fun _ => rfl)] at hl; omega
    have e0 : n - j = 0 := by omega
    rw [e0, List.drop_of_length_le (by omega)]
    exact ⟨some ad, 0, c - j, rfl, rfl, (fun u hu => by cases hu), (fun h => by cases h), fun ad' ha i u hu => by cases hu⟩
  · rw [if_neg e]
    exact rd_suf h hj rfl
theorem one_row {w : World} {x : Td} {B : Nat} (hB : B = w.heap.size) : (w.alloc (.cells #[.int .u32 x.slot, .int .u64 x.dl, .int .u64 x.birth] 31)).ownsRow 0 31 3 (.slice (some ⟨B, 0, none⟩) 1 1) 1 (tdC x) :=
  ⟨rfl, .inr ⟨B, 1, _, rfl, Nat.zero_le _, heap_new hB, Nat.le_refl _, by decide, rfl, rfl⟩⟩
set_option maxHeartbeats 1000000 in
theorem rbef_ok (x y : Td) (w : World) : Calls Tryd.prog 39 #[tdV x, tdV y] w fun e w' => e = .returned (.bool (befB x y)) ∧ Pure w w' := by
  unfold tdV
  by_cases h1 : x.dl < y.dl
  · have e : befB x y = true := by unfold befB; simp [h1]
    rw [e]
    have c_1 : (x.dl : Int) < (y.dl : Int) := by omega
    clear e
    go_enter Tryd.func39, Tryd.ntmps39
    go_wp2
    go_ret
    exact ⟨rfl, ((Mod.refl _ w).alloc _).alloc _⟩
  · have c_1 : ¬ (x.dl : Int) < (y.dl : Int) := by omega
    by_cases h2 : x.dl = y.dl
    · by_cases h3 : x.birth < y.birth
      · have e : befB x y = true := by unfold befB; simp [h2, h3]
        rw [e]
        have c_2 : (x.birth : Int) < (y.birth : Int) := by omega
        have c_3 : ((x.dl : Int) == (y.dl : Int)) = true := by simp; omega
        clear e
        go_enter Tryd.func39, Tryd.ntmps39
        go_wp2
        go_ret
        exact ⟨rfl, ((Mod.refl _ w).alloc _).alloc _⟩
      · have e : befB x y = false := by unfold befB; simp [h1, h3]
        rw [e]
        have c_2 : ¬ (x.birth : Int) < (y.birth : Int) := by omega
        have c_3 : ((x.dl : Int) == (y.dl : Int)) = true := by simp; omega
        clear e
        go_enter Tryd.func39, Tryd.ntmps39
        go_wp2
        go_ret
        exact ⟨rfl, ((Mod.refl _ w).alloc _).alloc _⟩
    · have e : befB x y = false := by unfold befB; simp [h1, h2]
      rw [e]
      have c_3 : ((x.dl : Int) == (y.dl : Int)) = false := by simp; omega
      clear e
      go_enter Tryd.func39, Tryd.ntmps39
      go_wp2
      go_ret
      exact ⟨rfl, ((Mod.refl _ w).alloc _).alloc _⟩
theorem addr_zero (ad : Addr) : ad.add 0 = ad := by unfold Addr.add; simp
def whV (now : Nat) (a : Option Addr) (n c : Nat) : Value := .agg #[.int .u64 now, .slice a n c]
theorem rnext_ok {w : World} {a : Option Addr} {n c now : Nat} {L : List Td} (h : ReadAt w (.slice a n c) 3 (L.flatMap tdC)) (hn : L.length = n) : Calls Tryd.prog 60 #[whV now a n c] w fun e w' => e = .returned (.int .u64 (nextD L)) ∧ Pure w w' := by
  unfold whV
  have hal : Pure w (w.alloc (.cells #[.int .u64 now, .slice a n c] 45)) := (Mod.refl _ w).alloc _
  cases hL : L with
  | nil =>
    have e0 : n = 0 := by rw [← hn, hL]; rfl
    subst e0
    have HAL := Lib.hid hal
    clear h hn hL hal
    go_enter Tryd.func60, Tryd.ntmps60
    go_wp2
    go_ret
    exact ⟨rfl, HAL.out⟩
  | cons x L' =>
    have hx : L[0]? = some x := by rw [hL]; rfl
    obtain ⟨ad, had, z0, z1, z2⟩ := td_read (h.frame hal (fun _ _ h => h)) hx
    have hn0 : 0 < n := by rw [← hn, hL]; simp
    have e0 : ((n : Int) == 0) = false := by simp; omega
    have c0 : (0 : Int) < (n : Int) := by omega
    subst had
    rw [Nat.zero_mul, addr_zero] at z0 z1 z2
    have HAL := Lib.hid hal
    clear h hn hL hx hal
    go_enter Tryd.func60, Tryd.ntmps60
    go_wp2
    go_ret
    exact ⟨rfl, HAL.out⟩
theorem tw_len {L : List Td} {x : Td} {k : Nat} (h1 : ∀ i y, i < k → L[i]? = some y → befB y x = true) (h2 : ∀ y, L[k]? = some y → befB y x = false) (hk : k ≤ L.length) : L.take k = L.takeWhile (fun y => befB y x) ∧ L.drop k = L.dropWhile (fun y => befB y x) := by
  induction L generalizing k with
  | nil =>
    have : k = 0 := by simpa using hk
    subst this
    exact ⟨rfl, rfl⟩
  | cons a L ih =>
    cases k with
    | zero =>
      have := h2 a rfl
      simp [this]
    | succ k =>
      have := h1 0 a (by omega) rfl
      obtain ⟨i1, i2⟩ := ih (k := k) (fun i y hi hy => h1 (i + 1) y (by omega) hy) (fun y hy => h2 y hy) (by simpa using hk)
      simp [this, i1, i2]
set_option maxHeartbeats 2000000 in
theorem rput_some {w : World} {ad : Addr} {n c : Nat} {L : List Td} (h : ReadAt w (.slice (some ad) n c) 3 (L.flatMap tdC)) (hn : L.length = n) (hl : n ≤ 4194304) (hnc : n ≤ c) (x : Td) :
    Calls Tryd.prog 59 #[.slice (some ad) n c, tdV x] w fun e w' => ∃ a' c', e = .returned (.slice a' (n + 1) c') ∧ TdRow w' a' c' (putL L x) ∧ FreshV w (.slice a' (n + 1) c') ∧ Pure w w' := by
  unfold tdV
  have hal : Pure w (w.alloc (.cells #[.int .u32 x.slot, .int .u64 x.dl, .int .u64 x.birth] 31)) := (Mod.refl _ w).alloc _
  have h3 := heap_new (w := w) (o := .cells #[.int .u32 x.slot, .int .u64 x.dl, .int .u64 x.birth] 31 (0, 0)) rfl
  have HR := Lib.hid (h.frame hal (fun _ _ h => h)); have HN := Lib.hid hn; have HAL := Lib.hid hal
  obtain ⟨j0, hj, jz0, jz1, jz2⟩ := info_parts info_td
  clear h hn hal
  go_enter Tryd.func59, Tryd.ntmps59
  go_upto_region 2 with fail
  generalize w.alloc (.cells #[.int .u32 x.slot, .int .u64 x.dl, .int .u64 x.birth] 31) = W1 at *
  obtain ⟨b3, hb3⟩ : ∃ b, w.heap.size = b := ⟨_, rfl⟩
  rw [hb3] at h3 ⊢
  have HB3 := Lib.hid hb3; have H3 := Lib.hid h3
  clear hb3 h3
  go_loopw [5] (fun v5 wr => ∃ k : Nat, v5 = .int .i64 (k : Nat) ∧ k ≤ n ∧ Pure W1 wr ∧ ∀ i y, i < k → L[i]? = some y → befB y x = true) (fun v5 _ => n - (intOf v5).toNat)
  case atStart => exact ⟨0, rfl, Nat.zero_le _, Mod.refl _ _, fun i y hi => by omega⟩
  case round =>
    obtain ⟨k, rfl, hk, hp, hall⟩ := hrel
    have HP := Lib.hid hp; have HA := Lib.hid hall
    have h3r := hp.heap (fun h => h) H3.out
    have x0 : wr.cell? ⟨b3, 0, none⟩ = some (.int .u32 x.slot) := by rw [cell_of_row wr _ 0 _ _ _ h3r]; rfl
    have x1 : wr.cell? ⟨b3, 1, none⟩ = some (.int .u64 x.dl) := by rw [cell_of_row wr _ 1 _ _ _ h3r]; rfl
    have x2 : wr.cell? ⟨b3, 2, none⟩ = some (.int .u64 x.birth) := by rw [cell_of_row wr _ 2 _ _ _ h3r]; rfl
    have hlt3 := lt_of_block h3r
    clear h3r hall
    by_cases hlt : k < n
    · have hlt' : (k : Int) < (n : Int) := by omega
      have k0 : (0 : Int) ≤ (k : Int) := by omega
      have wk : IntKind.i64.wrap ((k : Int) + 1) = (k : Int) + 1 := IntWalk.i64_in _ (by omega)
      have d1 : decide (k < n) = true := decide_eq_true hlt
      obtain ⟨y, hy⟩ : ∃ y, L[k]? = some y := ⟨_, List.getElem?_eq_getElem (by rw [HN.out]; exact hlt)⟩
      obtain ⟨ad', had, z0, z1, z2⟩ := td_read (HR.out.frame hp (fun _ _ h => h)) hy
      injection had with had
      have hbf := rbef_ok y x
      unfold tdV at hbf
      have HBf := Lib.hid hbf; have HY := Lib.hid hy
      subst had
      clear hbf hy
      have hk9 : ∀ u9, Pure wr.drew u9 → u9.cell? (ad.add (k * 3)) = some (.int .u32 y.slot) ∧ u9.cell? ⟨(ad.add (k * 3)).block, (ad.add (k * 3)).off + 1, none⟩ = some (.int .u64 y.dl) ∧ u9.cell? ⟨(ad.add (k * 3)).block, (ad.add (k * 3)).off + 2, none⟩ = some (.int .u64 y.birth) ∧ u9.cell? ⟨b3, 0, none⟩ = some (.int .u32 x.slot) ∧ u9.cell? ⟨b3, 1, none⟩ = some (.int .u64 x.dl) ∧ u9.cell? ⟨b3, 2, none⟩ = some (.int .u64 x.birth) := fun u9 hq =>
        ⟨hq.cell (fun h => h) z0, hq.cell (fun h => h) z1, hq.cell (fun h => h) z2, hq.cell (fun h => h) x0, hq.cell (fun h => h) x1, hq.cell (fun h => h) x2⟩
      have HK9 := Lib.hid hk9
      clear hk9
      cases hb : befB y x with
      | true =>
        rw [hb] at HBf
        go_upto_region 2 with fail
        refine wp_region_held_drew (S := fun u9 => u9.cell? (ad.add (k * 3)) = some (.int .u32 y.slot) ∧ u9.cell? ⟨(ad.add (k * 3)).block, (ad.add (k * 3)).off + 1, none⟩ = some (.int .u64 y.dl) ∧ u9.cell? ⟨(ad.add (k * 3)).block, (ad.add (k * 3)).off + 2, none⟩ = some (.int .u64 y.birth) ∧ u9.cell? ⟨b3, 0, none⟩ = some (.int .u32 x.slot) ∧ u9.cell? ⟨b3, 1, none⟩ = some (.int .u64 x.dl) ∧ u9.cell? ⟨b3, 2, none⟩ = some (.int .u64 x.birth)) (by kernel_rfl) ⟨z0, z1, z2, x0, x1, x2⟩ (fun hHeld => ?_)
        ((refine wpAnyH_take (i := 0) (v := ?_) rfl (by kernel_rfl) (by kernel_rfl) (by kernel_rfl) (fun _ _ _ h => h) (Yields.yieldsIf (Or.inl ⟨by rfl, ?_⟩)) hHeld ?_; rotate_left 1; focus (intro w; go_simp; try with_reducible rfl)); try simp only [Act.put, List.getElem_toArray, List.getElem_cons_zero, List.getElem_cons_succ, List.setIfInBounds_toArray, List.set_cons_zero, List.set_cons_succ])
        ((refine wpAnyH_take (i := 1) (v := ?_) rfl (by kernel_rfl) (by kernel_rfl) (by kernel_rfl) (fun _ _ _ h => h) (Yields.yieldsIf (Or.inl ⟨by rfl, ?_⟩)) hHeld ?_; rotate_left 1; focus (intro w; go_simp; try with_reducible rfl)); try simp only [Act.put, List.getElem_toArray, List.getElem_cons_zero, List.getElem_cons_succ, List.setIfInBounds_toArray, List.set_cons_zero, List.set_cons_succ])
        ((refine wpAnyH_take (i := 2) (v := ?_) rfl (by kernel_rfl) (by kernel_rfl) (by kernel_rfl) (fun _ _ _ h => h) (Yields.yieldsIf (Or.inl ⟨by rfl, ?_⟩)) hHeld ?_; rotate_left 1; focus (intro w; go_simp; try with_reducible rfl)); try simp only [Act.put, List.getElem_toArray, List.getElem_cons_zero, List.getElem_cons_succ, List.setIfInBounds_toArray, List.set_cons_zero, List.set_cons_succ])
        ((refine wpAnyH_take (i := 3) (v := ?_) rfl (by kernel_rfl) (by kernel_rfl) (by kernel_rfl) (fun _ _ _ h => h) (Yields.yieldsIf (Or.inl ⟨by rfl, ?_⟩)) hHeld ?_; rotate_left 1; focus (intro w; go_simp; try with_reducible rfl)); try simp only [Act.put, List.getElem_toArray, List.getElem_cons_zero, List.getElem_cons_succ, List.setIfInBounds_toArray, List.set_cons_zero, List.set_cons_succ])
        ((refine wpAnyH_take (i := 4) (v := ?_) rfl (by kernel_rfl) (by kernel_rfl) (by kernel_rfl) (fun _ _ _ h => h) (Yields.yieldsIf (Or.inl ⟨by rfl, ?_⟩)) hHeld ?_; rotate_left 1; focus (intro w; go_simp; try with_reducible rfl)); try simp only [Act.put, List.getElem_toArray, List.getElem_cons_zero, List.getElem_cons_succ, List.setIfInBounds_toArray, List.set_cons_zero, List.set_cons_succ])
        ((refine wpAnyH_take (i := 5) (v := ?_) rfl (by kernel_rfl) (by kernel_rfl) (by kernel_rfl) (fun _ _ _ h => h) (Yields.yieldsIf (Or.inl ⟨by rfl, ?_⟩)) hHeld ?_; rotate_left 1; focus (intro w; go_simp; try with_reducible rfl)); try simp only [Act.put, List.getElem_toArray, List.getElem_cons_zero, List.getElem_cons_succ, List.setIfInBounds_toArray, List.set_cons_zero, List.set_cons_succ])
        ((refine wpAnyH_take (i := 6) (v := ?_) rfl (by kernel_rfl) (by kernel_rfl) (by kernel_rfl) (fun _ _ _ h => h) (Yields.yieldsIf (Or.inl ⟨by rfl, ?_⟩)) hHeld ?_; rotate_left 1; focus (intro w; go_simp; try with_reducible rfl)); try simp only [Act.put, List.getElem_toArray, List.getElem_cons_zero, List.getElem_cons_succ, List.setIfInBounds_toArray, List.set_cons_zero, List.set_cons_succ])
        ((refine wpAnyH_take (i := 7) (v := ?_) rfl (by kernel_rfl) (by kernel_rfl) (by kernel_rfl) (fun _ _ _ h => h) (Yields.yieldsIf (Or.inl ⟨by rfl, ?_⟩)) hHeld ?_; rotate_left 1; focus (intro w; go_simp; try with_reducible rfl)); try simp only [Act.put, List.getElem_toArray, List.getElem_cons_zero, List.getElem_cons_succ, List.setIfInBounds_toArray, List.set_cons_zero, List.set_cons_succ])
        ((refine wpAnyH_take (i := 8) (v := ?_) rfl (by kernel_rfl) (by kernel_rfl) (by kernel_rfl) (fun _ _ _ h => h) (Or.inl ⟨by rfl, ?_⟩) hHeld ?_; rotate_left 1; focus (intro w hS; obtain ⟨s0, s1, s2, s3, s4, s5⟩ := hS; go_simp; try with_reducible rfl)); try simp only [Act.put, List.getElem_toArray, List.getElem_cons_zero, List.getElem_cons_succ, List.setIfInBounds_toArray, List.set_cons_zero, List.set_cons_succ])
        ((refine wpAnyH_take (i := 9) (v := ?_) rfl (by kernel_rfl) (by kernel_rfl) (by kernel_rfl) (fun _ _ _ h => h) (Or.inl ⟨by rfl, ?_⟩) hHeld ?_; rotate_left 1; focus (intro w hS; obtain ⟨s0, s1, s2, s3, s4, s5⟩ := hS; go_simp; try with_reducible rfl)); try simp only [Act.put, List.getElem_toArray, List.getElem_cons_zero, List.getElem_cons_succ, List.setIfInBounds_toArray, List.set_cons_zero, List.set_cons_succ])
        ((refine wpAnyH_ready (rs := [10]) (by kernel_rfl) (by simp) ?_; refine AllReadyH.cons rfl (fun K hK => ?_) AllReadyH.nil; go_simp; refine Calls.mono (HBf.out _) ?_; rintro e u9 ⟨rfl, hq9⟩; refine hK.out _ _ ?_ (fun hHeld => ?_); (· exact HK9.out _ hq9); clear hK K); try simp only [Act.put, List.getElem_toArray, List.getElem_cons_zero, List.getElem_cons_succ, List.setIfInBounds_toArray, List.set_cons_zero, List.set_cons_succ])
        ((refine wpAnyH_take (i := 11) (v := ?_) rfl (by kernel_rfl) (by kernel_rfl) (by kernel_rfl) (fun _ _ _ h => h) (Yields.yieldsIf (Or.inl ⟨by rfl, ?_⟩)) hHeld ?_; rotate_left 1; focus (intro w; go_simp; try with_reducible rfl)); try simp only [Act.put, List.getElem_toArray, List.getElem_cons_zero, List.getElem_cons_succ, List.setIfInBounds_toArray, List.set_cons_zero, List.set_cons_succ])
        refine wpAnyH_done (by kernel_rfl) ?_ _
        clear hHeld
        have hp9 : Pure W1 u9 := HP.out.trans (Mod.of_drew hq9)
        have HP9 := Lib.hid hp9
        have hall2 : ∀ i z, i < k + 1 → L[i]? = some z → befB z x = true := fun i z hi hz => by
          rcases Nat.lt_or_ge i k with h | h
          · exact HA.out i z h hz
          · have : i = k := by omega
            subst this
            rw [HY.out] at hz
            cases hz
            exact hb
        have HA2 := Lib.hid hall2
        clear hq9 hp9 hall2 hb
        go_wp2
        go_roundw
        case rel => exact ⟨k + 1, by go_num, hlt, HP9.out, HA2.out⟩
        case measure => simp [intOf]; omega
      | false =>
        rw [hb] at HBf
        go_upto_region 2 with fail
        refine wp_region_held_drew (S := fun u9 => u9.cell? (ad.add (k * 3)) = some (.int .u32 y.slot) ∧ u9.cell? ⟨(ad.add (k * 3)).block, (ad.add (k * 3)).off + 1, none⟩ = some (.int .u64 y.dl) ∧ u9.cell? ⟨(ad.add (k * 3)).block, (ad.add (k * 3)).off + 2, none⟩ = some (.int .u64 y.birth) ∧ u9.cell? ⟨b3, 0, none⟩ = some (.int .u32 x.slot) ∧ u9.cell? ⟨b3, 1, none⟩ = some (.int .u64 x.dl) ∧ u9.cell? ⟨b3, 2, none⟩ = some (.int .u64 x.birth)) (by kernel_rfl) ⟨z0, z1, z2, x0, x1, x2⟩ (fun hHeld => ?_)
        ((refine wpAnyH_take (i := 0) (v := ?_) rfl (by kernel_rfl) (by kernel_rfl) (by kernel_rfl) (fun _ _ _ h => h) (Yields.yieldsIf (Or.inl ⟨by rfl, ?_⟩)) hHeld ?_; rotate_left 1; focus (intro w; go_simp; try with_reducible rfl)); try simp only [Act.put, List.getElem_toArray, List.getElem_cons_zero, List.getElem_cons_succ, List.setIfInBounds_toArray, List.set_cons_zero, List.set_cons_succ])
        ((refine wpAnyH_take (i := 1) (v := ?_) rfl (by kernel_rfl) (by kernel_rfl) (by kernel_rfl) (fun _ _ _ h => h) (Yields.yieldsIf (Or.inl ⟨by rfl, ?_⟩)) hHeld ?_; rotate_left 1; focus (intro w; go_simp; try with_reducible rfl)); try simp only [Act.put, List.getElem_toArray, List.getElem_cons_zero, List.getElem_cons_succ, List.setIfInBounds_toArray, List.set_cons_zero, List.set_cons_succ])
        ((refine wpAnyH_take (i := 2) (v := ?_) rfl (by kernel_rfl) (by kernel_rfl) (by kernel_rfl) (fun _ _ _ h => h) (Yields.yieldsIf (Or.inl ⟨by rfl, ?_⟩)) hHeld ?_; rotate_left 1; focus (intro w; go_simp; try with_reducible rfl)); try simp only [Act.put, List.getElem_toArray, List.getElem_cons_zero, List.getElem_cons_succ, List.setIfInBounds_toArray, List.set_cons_zero, List.set_cons_succ])
        ((refine wpAnyH_take (i := 3) (v := ?_) rfl (by kernel_rfl) (by kernel_rfl) (by kernel_rfl) (fun _ _ _ h => h) (Yields.yieldsIf (Or.inl ⟨by rfl, ?_⟩)) hHeld ?_; rotate_left 1; focus (intro w; go_simp; try with_reducible rfl)); try simp only [Act.put, List.getElem_toArray, List.getElem_cons_zero, List.getElem_cons_succ, List.setIfInBounds_toArray, List.set_cons_zero, List.set_cons_succ])
        ((refine wpAnyH_take (i := 4) (v := ?_) rfl (by kernel_rfl) (by kernel_rfl) (by kernel_rfl) (fun _ _ _ h => h) (Yields.yieldsIf (Or.inl ⟨by rfl, ?_⟩)) hHeld ?_; rotate_left 1; focus (intro w; go_simp; try with_reducible rfl)); try simp only [Act.put, List.getElem_toArray, List.getElem_cons_zero, List.getElem_cons_succ, List.setIfInBounds_toArray, List.set_cons_zero, List.set_cons_succ])
        ((refine wpAnyH_take (i := 5) (v := ?_) rfl (by kernel_rfl) (by kernel_rfl) (by kernel_rfl) (fun _ _ _ h => h) (Yields.yieldsIf (Or.inl ⟨by rfl, ?_⟩)) hHeld ?_; rotate_left 1; focus (intro w; go_simp; try with_reducible rfl)); try simp only [Act.put, List.getElem_toArray, List.getElem_cons_zero, List.getElem_cons_succ, List.setIfInBounds_toArray, List.set_cons_zero, List.set_cons_succ])
        ((refine wpAnyH_take (i := 6) (v := ?_) rfl (by kernel_rfl) (by kernel_rfl) (by kernel_rfl) (fun _ _ _ h => h) (Yields.yieldsIf (Or.inl ⟨by rfl, ?_⟩)) hHeld ?_; rotate_left 1; focus (intro w; go_simp; try with_reducible rfl)); try simp only [Act.put, List.getElem_toArray, List.getElem_cons_zero, List.getElem_cons_succ, List.setIfInBounds_toArray, List.set_cons_zero, List.set_cons_succ])
        ((refine wpAnyH_take (i := 7) (v := ?_) rfl (by kernel_rfl) (by kernel_rfl) (by kernel_rfl) (fun _ _ _ h => h) (Yields.yieldsIf (Or.inl ⟨by rfl, ?_⟩)) hHeld ?_; rotate_left 1; focus (intro w; go_simp; try with_reducible rfl)); try simp only [Act.put, List.getElem_toArray, List.getElem_cons_zero, List.getElem_cons_succ, List.setIfInBounds_toArray, List.set_cons_zero, List.set_cons_succ])
        ((refine wpAnyH_take (i := 8) (v := ?_) rfl (by kernel_rfl) (by kernel_rfl) (by kernel_rfl) (fun _ _ _ h => h) (Or.inl ⟨by rfl, ?_⟩) hHeld ?_; rotate_left 1; focus (intro w hS; obtain ⟨s0, s1, s2, s3, s4, s5⟩ := hS; go_simp; try with_reducible rfl)); try simp only [Act.put, List.getElem_toArray, List.getElem_cons_zero, List.getElem_cons_succ, List.setIfInBounds_toArray, List.set_cons_zero, List.set_cons_succ])
        ((refine wpAnyH_take (i := 9) (v := ?_) rfl (by kernel_rfl) (by kernel_rfl) (by kernel_rfl) (fun _ _ _ h => h) (Or.inl ⟨by rfl, ?_⟩) hHeld ?_; rotate_left 1; focus (intro w hS; obtain ⟨s0, s1, s2, s3, s4, s5⟩ := hS; go_simp; try with_reducible rfl)); try simp only [Act.put, List.getElem_toArray, List.getElem_cons_zero, List.getElem_cons_succ, List.setIfInBounds_toArray, List.set_cons_zero, List.set_cons_succ])
        ((refine wpAnyH_ready (rs := [10]) (by kernel_rfl) (by simp) ?_; refine AllReadyH.cons rfl (fun K hK => ?_) AllReadyH.nil; go_simp; refine Calls.mono (HBf.out _) ?_; rintro e u9 ⟨rfl, hq9⟩; refine hK.out _ _ ?_ (fun hHeld => ?_); (· exact HK9.out _ hq9); clear hK K); try simp only [Act.put, List.getElem_toArray, List.getElem_cons_zero, List.getElem_cons_succ, List.setIfInBounds_toArray, List.set_cons_zero, List.set_cons_succ])
        ((refine wpAnyH_take (i := 11) (v := ?_) rfl (by kernel_rfl) (by kernel_rfl) (by kernel_rfl) (fun _ _ _ h => h) (Yields.yieldsIf (Or.inl ⟨by rfl, ?_⟩)) hHeld ?_; rotate_left 1; focus (intro w; go_simp; try with_reducible rfl)); try simp only [Act.put, List.getElem_toArray, List.getElem_cons_zero, List.getElem_cons_succ, List.setIfInBounds_toArray, List.set_cons_zero, List.set_cons_succ])
        refine wpAnyH_done (by kernel_rfl) ?_ _
        clear hHeld
        have hpq : Pure W1 u9 := HP.out.trans (Mod.of_drew hq9)
        have HPq := Lib.hid hpq
        have hcap : (k : Int) ≤ (c : Int) := by omega
        have hkn : (k : Int) ≤ (n : Int) := by omega
        have htw := tw_len (k := k) HA.out (fun y' hy' => by rw [HY.out] at hy'; cases hy'; exact hb) (by rw [HN.out]; omega)
        have HTw := Lib.hid htw
        clear hq9 hpq htw hb z0 z1 z2 x0 x1 x2
        go_upto_region 4 with fail
        have h3q := HPq.out.heap (fun h => h) H3.out
        have y0 : u9.cell? ⟨b3, 0, none⟩ = some (.int .u32 x.slot) := by rw [cell_of_row _ _ 0 _ _ _ h3q]; rfl
        have y1 : u9.cell? ⟨b3, 1, none⟩ = some (.int .u64 x.dl) := by rw [cell_of_row _ _ 1 _ _ _ h3q]; rfl
        have y2 : u9.cell? ⟨b3, 2, none⟩ = some (.int .u64 x.birth) := by rw [cell_of_row _ _ 2 _ _ _ h3q]; rfl
        have hrl := (HR.out.frame HPq.out (fun _ _ h => h))
        have hsuf := rd_sufI hrl (j := k) (by omega) hnc
        have hpre := rd_pre hrl (j := k) (by omega)
        rw [HTw.out.1] at hpre
        rw [HTw.out.2] at hsuf
        have hpl : (L.takeWhile (fun y => befB y x)).length = k := by rw [← HTw.out.1, List.length_take, HN.out]; omega
        have hsl : (L.dropWhile (fun y => befB y x)).length = n - k := by rw [← HTw.out.2, List.length_drop, HN.out]
        have HSuf := Lib.hid hsuf; have HPre := Lib.hid hpre; have HPL := Lib.hid hpl; have HSL := Lib.hid hsl
        have hal9 : Pure u9 (u9.drew.alloc (.cells #[.int .u32 x.slot, .int .u64 x.dl, .int .u64 x.birth] 31)) := ((Mod.refl _ u9).drew).alloc _
        have h1r := one_row (w := u9.drew) (x := x) (B := u9.heap.size) rfl
        obtain ⟨sv, hsv⟩ : ∃ v, (if c = k then some ad else some (ad.add (k * 3))) = v := ⟨_, rfl⟩
        rw [hsv] at HSuf
        have HAL9 := Lib.hid hal9; have H1R := Lib.hid h1r; have HSV := Lib.hid hsv
        clear h3q hrl hsuf hpre hpl hsl hal9 h1r hsv
        refine wp_region_held_drew (S := fun u => u.cell? ⟨b3, 0, none⟩ = some (.int .u32 x.slot) ∧ u.cell? ⟨b3, 1, none⟩ = some (.int .u64 x.dl) ∧ u.cell? ⟨b3, 2, none⟩ = some (.int .u64 x.birth)) (by kernel_rfl) ⟨y0, y1, y2⟩ (fun hHeld => ?_)
        ((refine wpAnyH_take (i := 0) (v := ?_) rfl (by kernel_rfl) (by kernel_rfl) (by kernel_rfl) (fun _ _ _ h => h) (Or.inl ⟨by rfl, ?_⟩) hHeld ?_; rotate_left 1; focus (intro w hS; obtain ⟨s0, s1, s2⟩ := hS; go_simp; try with_reducible rfl)); try simp only [Act.put, List.getElem_toArray, List.getElem_cons_zero, List.getElem_cons_succ, List.setIfInBounds_toArray, List.set_cons_zero, List.set_cons_succ])
        ((refine wpAnyH_take (i := 2) (v := ?_) rfl (by kernel_rfl) (by kernel_rfl) (by kernel_rfl) (fun _ _ _ h => h) (Yields.yieldsIf (Or.inl ⟨by rfl, ?_⟩)) hHeld ?_; rotate_left 1; focus (intro w; go_simp; try with_reducible rfl)); try simp only [Act.put, List.getElem_toArray, List.getElem_cons_zero, List.getElem_cons_succ, List.setIfInBounds_toArray, List.set_cons_zero, List.set_cons_succ])
        ((refine wpAnyH_take (i := 3) (v := ?_) rfl (by kernel_rfl) (by kernel_rfl) (by kernel_rfl) (fun _ _ _ h => h) (Yields.yieldsIf (Or.inl ⟨by rfl, ?_⟩)) hHeld ?_; rotate_left 1; focus (intro w; go_simp; try with_reducible rfl)); try simp only [Act.put, List.getElem_toArray, List.getElem_cons_zero, List.getElem_cons_succ, List.setIfInBounds_toArray, List.set_cons_zero, List.set_cons_succ])
        ((refine wpAnyH_take (i := 4) (v := ?_) rfl (by kernel_rfl) (by kernel_rfl) (by kernel_rfl) (fun _ _ _ h => h) (Yields.yieldsIf (Or.inl ⟨by rfl, ?_⟩)) hHeld ?_; rotate_left 1; focus (intro w; go_simp; try with_reducible rfl)); try simp only [Act.put, List.getElem_toArray, List.getElem_cons_zero, List.getElem_cons_succ, List.setIfInBounds_toArray, List.set_cons_zero, List.set_cons_succ])
        rw [HSV.out]
        ((refine wpAnyH_ready (rs := [1]) (by kernel_rfl) (by simp) ?_; refine AllReadyH.cons rfl (fun K hK => ?_) AllReadyH.nil; go_simp; skip; refine hK.out _ _ ?_ (fun hHeld => ?_); (· exact ⟨HAL9.out.cell (fun h => h) y0, HAL9.out.cell (fun h => h) y1, HAL9.out.cell (fun h => h) y2⟩); clear hK K); try simp only [Act.put, List.getElem_toArray, List.getElem_cons_zero, List.getElem_cons_succ, List.setIfInBounds_toArray, List.set_cons_zero, List.set_cons_succ])
        refine wpAnyH_ready (rs := [5]) (by kernel_rfl) (by simp) ?_
        refine AllReadyH.cons rfl (fun K hK => ?_) AllReadyH.nil
        refine step_append_read _ (by rfl) _ _ 28 (by rfl) 31 j0 _ 3 24 Tryd.underlying28 hj jz0 jz1 jz2 rfl (by decide) (.slice (some ⟨u9.heap.size, 0, none⟩) 1 1) 1 (tdC x) (by rfl) H1R.out (.slice sv (n - k) (c - k)) _ (n - k) (by rfl) (HSuf.out.frame HAL9.out (fun _ _ h => h)) (by rw [flat_length tdC 3 (fun _ => rfl), HSL.out]) (by unfold maxLen; omega) (by omega) ?_
        intro a7 c7 w6 hr7 hg7 hb7
        have hmg : Pure u9 w6 := HAL9.out.then (Mod.of_grown (S := fun k' => k' = u9.heap.size) hg7 (fun k e _ => by cases e; rfl)) (fun k hk e => by subst e; exact absurd hk (Nat.lt_irrefl _))
        refine hK.out _ _ ?_ (fun hHeld => ?_)
        · exact ⟨hmg.cell (fun h => h) y0, hmg.cell (fun h => h) y1, hmg.cell (fun h => h) y2⟩
        ((refine wpAnyH_take (i := 6) (v := ?_) rfl (by kernel_rfl) (by kernel_rfl) (by kernel_rfl) (fun _ _ _ h => h) (Yields.yieldsIf (Or.inl ⟨by rfl, ?_⟩)) hHeld ?_; rotate_left 1; focus (intro w; go_simp; try with_reducible rfl)); try simp only [Act.put, List.getElem_toArray, List.getElem_cons_zero, List.getElem_cons_succ, List.setIfInBounds_toArray, List.set_cons_zero, List.set_cons_succ])
        refine wpAnyH_done (by kernel_rfl) ?_ _
        have hmg1 : Pure W1 w6 := HPq.out.trans hmg
        obtain ⟨m, hm⟩ : ∃ m, 1 + (n - k) = m := ⟨_, rfl⟩
        rw [hm] at hr7 ⊢
        have hkm : k + m = n + 1 := by omega
        have HR7 := Lib.hid hr7; have HMG := Lib.hid hmg; have HMG1 := Lib.hid hmg1
        clear hHeld hr7 hg7 hb7 hmg hmg1 hm hK K y0 y1 y2
        have V1 : True := trivial
        go_wp2_with (first
          | (at_builtin; clear V1; refine wpList_append_read _ rfl _ _ 28 rfl 31 j0 _ 3 24 Tryd.underlying28 hj jz0 jz1 jz2 rfl (by decide) (.slice none 0 0) 0 [] rfl (World.ownsRow_nil _ _ _ _) (.slice (some ad) k c) _ k rfl (HPre.out.frame HMG.out (fun _ _ h => h)) (by rw [flat_length tdC 3 (fun _ => rfl), HPL.out]) (by unfold maxLen; omega) (by omega) ?_; intro a8 c8 w7 hr8 hg8 hb8
             rw [Nat.zero_add] at hr8 hb8 ⊢
             rw [List.nil_append] at hr8
             have p7 : Pure w6 w7 := Mod.of_grown hg8 (fun k e _ => by cases e)
             have HR8 := Lib.hid hr8; have HB8 := Lib.hid hb8; have HP7 := Lib.hid p7
             clear hr8 hg8 hb8 p7)
          | (at_builtin; refine wpList_append_read _ rfl _ _ 28 rfl 31 j0 _ 3 24 Tryd.underlying28 hj jz0 jz1 jz2 rfl (by decide) (.slice a8 k c8) k _ rfl HR8.out (.slice a7 m c7) _ m rfl (ReadAt.of_owns (owns_mod HR7.out HP7.out (fun _ _ h => h)) (fun u hu => (by
               rcases List.mem_append.1 hu with h | h
               · simp [tdC] at h; rcases h with rfl | rfl | rfl <;> rfl
               · exact tdC_one _ u h))) HR7.out.1 (by unfold maxLen; omega) (by omega) ?_; intro a9 c9 w8 hr9 hg9 hb9))
        rw [hkm] at hr9 hb9
        have h8f : ∀ g, (Value.slice a8 k c8).ownBlock = some g → w.heap.size ≤ g := fun g hg => by
          have e0 := (HAL.out.trans HMG1.out).size
          rcases HB8.out with e | e
          · rw [e] at hg; cases hg
          · rw [e] at hg; injection hg with hg; omega
        have p8 : Pure w w8 := ((HAL.out.trans HMG1.out).trans HP7.out).then (Mod.of_grown (S := fun k' => (Value.slice a8 k c8).ownBlock = some k') hg9 (fun k e _ => e)) (fun k hk e => by have := h8f k e; omega)
        have hrow : TdRow w8 a9 c9 (putL L x) := by
          show World.ownsRow _ 0 _ 3 (.slice a9 (putL L x).length c9) (putL L x).length ((putL L x).flatMap tdC)
          rw [putL_length, HN.out]
          have : (putL L x).flatMap tdC = (L.takeWhile (fun y => befB y x)).flatMap tdC ++ (tdC x ++ (L.dropWhile (fun y => befB y x)).flatMap tdC) := by unfold putL; simp [List.flatMap_append]
          rw [this]
          exact hr9
        have hfin : FreshV w (.slice a9 (n + 1) c9) := fun g hg => by
          rcases hb9 with e | e
          · exact h8f g (e ▸ hg)
          · rw [e] at hg; injection hg with hg; have := ((HAL.out.trans HMG1.out).trans HP7.out).size; omega
        have HF := Lib.hid hfin; have HROW := Lib.hid hrow; have HP8 := Lib.hid p8
        clear hr9 hg9 hb9 h8f p8 hrow hfin
        refine bodyPost_ret (v := .slice a9 (n + 1) c9) (by simp [results, Tryd.results59, go_sem, hkm]) rfl ⟨a9, c9, rfl, HROW.out, HF.out, HP8.out⟩
    · have hk' : k = n := by omega
      have d1 : decide (k < n) = false := decide_eq_false (by omega)
      have hlt' : ¬ (k : Int) < (n : Int) := by omega
      have HKN := Lib.hid hk'
      clear hk'
      go_upto_region 2 with fail
      refine wp_region_held_drew (S := fun _ => True) (by kernel_rfl) trivial (fun hHeld => ?_)
      ((refine wpAnyH_take (i := 0) (v := ?_) rfl (by kernel_rfl) (by kernel_rfl) (by kernel_rfl) (fun _ _ _ h => h) (Yields.yieldsIf (Or.inl ⟨by rfl, ?_⟩)) hHeld ?_; rotate_left 1; focus (intro w; go_simp; try with_reducible rfl)); try simp only [Act.put, List.getElem_toArray, List.getElem_cons_zero, List.getElem_cons_succ, List.setIfInBounds_toArray, List.set_cons_zero, List.set_cons_succ])
      ((refine wpAnyH_take (i := 1) (v := ?_) rfl (by kernel_rfl) (by kernel_rfl) (by kernel_rfl) (fun _ _ _ h => h) (Yields.yieldsIf (Or.inl ⟨by rfl, ?_⟩)) hHeld ?_; rotate_left 1; focus (intro w; go_simp; try with_reducible rfl)); try simp only [Act.put, List.getElem_toArray, List.getElem_cons_zero, List.getElem_cons_succ, List.setIfInBounds_toArray, List.set_cons_zero, List.set_cons_succ])
      ((refine wpAnyH_take (i := 2) (v := ?_) rfl (by kernel_rfl) (by kernel_rfl) (by kernel_rfl) (fun _ _ _ h => h) (Yields.yieldsIf (Or.inl ⟨by rfl, ?_⟩)) hHeld ?_; rotate_left 1; focus (intro w; go_simp; try with_reducible rfl)); try simp only [Act.put, List.getElem_toArray, List.getElem_cons_zero, List.getElem_cons_succ, List.setIfInBounds_toArray, List.set_cons_zero, List.set_cons_succ])
      ((refine wpAnyH_take (i := 3) (v := ?_) rfl (by kernel_rfl) (by kernel_rfl) (by kernel_rfl) (fun _ _ _ h => h) (Yields.yieldsIf (Or.inl ⟨by rfl, ?_⟩)) hHeld ?_; rotate_left 1; focus (intro w; go_simp; try with_reducible rfl)); try simp only [Act.put, List.getElem_toArray, List.getElem_cons_zero, List.getElem_cons_succ, List.setIfInBounds_toArray, List.set_cons_zero, List.set_cons_succ])
      ((refine wpAnyH_take (i := 4) (v := ?_) rfl (by kernel_rfl) (by kernel_rfl) (by kernel_rfl) (fun _ _ _ h => h) (Yields.yieldsIf (Or.inl ⟨by rfl, ?_⟩)) hHeld ?_; rotate_left 1; focus (intro w; go_simp; try with_reducible rfl)); try simp only [Act.put, List.getElem_toArray, List.getElem_cons_zero, List.getElem_cons_succ, List.setIfInBounds_toArray, List.set_cons_zero, List.set_cons_succ])
      (refine wpAnyH_take (i := 5) (v := undef) rfl (by kernel_rfl) (by kernel_rfl) (by kernel_rfl) (fun _ _ _ h => h) (Or.inr ⟨by rfl, rfl⟩) hHeld ?_; try simp only [Act.put, List.getElem_toArray, List.getElem_cons_zero, List.getElem_cons_succ, List.setIfInBounds_toArray, List.set_cons_zero, List.set_cons_succ])
      (refine wpAnyH_take (i := 6) (v := undef) rfl (by kernel_rfl) (by kernel_rfl) (by kernel_rfl) (fun _ _ _ h => h) (Or.inr ⟨by rfl, rfl⟩) hHeld ?_; try simp only [Act.put, List.getElem_toArray, List.getElem_cons_zero, List.getElem_cons_succ, List.setIfInBounds_toArray, List.set_cons_zero, List.set_cons_succ])
      (refine wpAnyH_take (i := 7) (v := undef) rfl (by kernel_rfl) (by kernel_rfl) (by kernel_rfl) (fun _ _ _ h => h) (Or.inr ⟨by rfl, rfl⟩) hHeld ?_; try simp only [Act.put, List.getElem_toArray, List.getElem_cons_zero, List.getElem_cons_succ, List.setIfInBounds_toArray, List.set_cons_zero, List.set_cons_succ])
      (refine wpAnyH_take (i := 8) (v := undef) rfl (by kernel_rfl) (by kernel_rfl) (by kernel_rfl) (fun _ _ _ h => h) (Or.inr ⟨by rfl, rfl⟩) hHeld ?_; try simp only [Act.put, List.getElem_toArray, List.getElem_cons_zero, List.getElem_cons_succ, List.setIfInBounds_toArray, List.set_cons_zero, List.set_cons_succ])
      (refine wpAnyH_take (i := 9) (v := undef) rfl (by kernel_rfl) (by kernel_rfl) (by kernel_rfl) (fun _ _ _ h => h) (Or.inr ⟨by rfl, rfl⟩) hHeld ?_; try simp only [Act.put, List.getElem_toArray, List.getElem_cons_zero, List.getElem_cons_succ, List.setIfInBounds_toArray, List.set_cons_zero, List.set_cons_succ])
      (refine wpAnyH_take (i := 10) (v := undef) rfl (by kernel_rfl) (by kernel_rfl) (by kernel_rfl) (fun _ _ _ h => h) (Or.inr ⟨by rfl, rfl⟩) hHeld ?_; try simp only [Act.put, List.getElem_toArray, List.getElem_cons_zero, List.getElem_cons_succ, List.setIfInBounds_toArray, List.set_cons_zero, List.set_cons_succ])
      ((refine wpAnyH_take (i := 11) (v := ?_) rfl (by kernel_rfl) (by kernel_rfl) (by kernel_rfl) (fun _ _ _ h => h) (Yields.yieldsIf (Or.inl ⟨by rfl, ?_⟩)) hHeld ?_; rotate_left 1; focus (intro w; go_simp; try with_reducible rfl)); try simp only [Act.put, List.getElem_toArray, List.getElem_cons_zero, List.getElem_cons_succ, List.setIfInBounds_toArray, List.set_cons_zero, List.set_cons_succ])
      refine wpAnyH_done (by kernel_rfl) ?_ _
      clear hHeld
      have hpq : Pure W1 wr.drew := HP.out.drew
      have HPq := Lib.hid hpq
      have hcap : (k : Int) ≤ (c : Int) := by omega
      have hkn : (k : Int) ≤ (n : Int) := by omega
      have htw := tw_len (k := k) HA.out (fun y' hy' => by have := (List.getElem?_eq_some_iff.1 hy').1; rw [HN.out] at this; have := HKN.out; omega) (by rw [HN.out]; omega)
      have HTw := Lib.hid htw
      clear htw x0 x1 x2 hpq hlt3 hp HP
      generalize wr.drew = u9 at *
      go_upto_region 4 with fail
      have h3q := HPq.out.heap (fun h => h) H3.out
      have y0 : u9.cell? ⟨b3, 0, none⟩ = some (.int .u32 x.slot) := by rw [cell_of_row _ _ 0 _ _ _ h3q]; rfl
      have y1 : u9.cell? ⟨b3, 1, none⟩ = some (.int .u64 x.dl) := by rw [cell_of_row _ _ 1 _ _ _ h3q]; rfl
      have y2 : u9.cell? ⟨b3, 2, none⟩ = some (.int .u64 x.birth) := by rw [cell_of_row _ _ 2 _ _ _ h3q]; rfl
      have hrl := (HR.out.frame HPq.out (fun _ _ h => h))
      have hsuf := rd_sufI hrl (j := k) (by omega) hnc
      have hpre := rd_pre hrl (j := k) (by omega)
      rw [HTw.out.1] at hpre
      rw [HTw.out.2] at hsuf
      have hpl : (L.takeWhile (fun y => befB y x)).length = k := by rw [← HTw.out.1, List.length_take, HN.out]; omega
      have hsl : (L.dropWhile (fun y => befB y x)).length = n - k := by rw [← HTw.out.2, List.length_drop, HN.out]
      have HSuf := Lib.hid hsuf; have HPre := Lib.hid hpre; have HPL := Lib.hid hpl; have HSL := Lib.hid hsl
      have hal9 : Pure u9 (u9.drew.alloc (.cells #[.int .u32 x.slot, .int .u64 x.dl, .int .u64 x.birth] 31)) := ((Mod.refl _ u9).drew).alloc _
      have h1r := one_row (w := u9.drew) (x := x) (B := u9.heap.size) rfl
      obtain ⟨sv, hsv⟩ : ∃ v, (if c = k then some ad else some (ad.add (k * 3))) = v := ⟨_, rfl⟩
      rw [hsv] at HSuf
      have HAL9 := Lib.hid hal9; have H1R := Lib.hid h1r; have HSV := Lib.hid hsv
      clear h3q hrl hsuf hpre hpl hsl hal9 h1r hsv
      refine wp_region_held_drew (S := fun u => u.cell? ⟨b3, 0, none⟩ = some (.int .u32 x.slot) ∧ u.cell? ⟨b3, 1, none⟩ = some (.int .u64 x.dl) ∧ u.cell? ⟨b3, 2, none⟩ = some (.int .u64 x.birth)) (by kernel_rfl) ⟨y0, y1, y2⟩ (fun hHeld => ?_)
      ((refine wpAnyH_take (i := 0) (v := ?_) rfl (by kernel_rfl) (by kernel_rfl) (by kernel_rfl) (fun _ _ _ h => h) (Or.inl ⟨by rfl, ?_⟩) hHeld ?_; rotate_left 1; focus (intro w hS; obtain ⟨s0, s1, s2⟩ := hS; go_simp; try with_reducible rfl)); try simp only [Act.put, List.getElem_toArray, List.getElem_cons_zero, List.getElem_cons_succ, List.setIfInBounds_toArray, List.set_cons_zero, List.set_cons_succ])
      ((refine wpAnyH_take (i := 2) (v := ?_) rfl (by kernel_rfl) (by kernel_rfl) (by kernel_rfl) (fun _ _ _ h => h) (Yields.yieldsIf (Or.inl ⟨by rfl, ?_⟩)) hHeld ?_; rotate_left 1; focus (intro w; go_simp; try with_reducible rfl)); try simp only [Act.put, List.getElem_toArray, List.getElem_cons_zero, List.getElem_cons_succ, List.setIfInBounds_toArray, List.set_cons_zero, List.set_cons_succ])
      ((refine wpAnyH_take (i := 3) (v := ?_) rfl (by kernel_rfl) (by kernel_rfl) (by kernel_rfl) (fun _ _ _ h => h) (Yields.yieldsIf (Or.inl ⟨by rfl, ?_⟩)) hHeld ?_; rotate_left 1; focus (intro w; go_simp; try with_reducible rfl)); try simp only [Act.put, List.getElem_toArray, List.getElem_cons_zero, List.getElem_cons_succ, List.setIfInBounds_toArray, List.set_cons_zero, List.set_cons_succ])
      ((refine wpAnyH_take (i := 4) (v := ?_) rfl (by kernel_rfl) (by kernel_rfl) (by kernel_rfl) (fun _ _ _ h => h) (Yields.yieldsIf (Or.inl ⟨by rfl, ?_⟩)) hHeld ?_; rotate_left 1; focus (intro w; go_simp; try with_reducible rfl)); try simp only [Act.put, List.getElem_toArray, List.getElem_cons_zero, List.getElem_cons_succ, List.setIfInBounds_toArray, List.set_cons_zero, List.set_cons_succ])
      rw [HSV.out]
      ((refine wpAnyH_ready (rs := [1]) (by kernel_rfl) (by simp) ?_; refine AllReadyH.cons rfl (fun K hK => ?_) AllReadyH.nil; go_simp; skip; refine hK.out _ _ ?_ (fun hHeld => ?_); (· exact ⟨HAL9.out.cell (fun h => h) y0, HAL9.out.cell (fun h => h) y1, HAL9.out.cell (fun h => h) y2⟩); clear hK K); try simp only [Act.put, List.getElem_toArray, List.getElem_cons_zero, List.getElem_cons_succ, List.setIfInBounds_toArray, List.set_cons_zero, List.set_cons_succ])
      refine wpAnyH_ready (rs := [5]) (by kernel_rfl) (by simp) ?_
      refine AllReadyH.cons rfl (fun K hK => ?_) AllReadyH.nil
      refine step_append_read _ (by rfl) _ _ 28 (by rfl) 31 j0 _ 3 24 Tryd.underlying28 hj jz0 jz1 jz2 rfl (by decide) (.slice (some ⟨u9.heap.size, 0, none⟩) 1 1) 1 (tdC x) (by rfl) H1R.out (.slice sv (n - k) (c - k)) _ (n - k) (by rfl) (HSuf.out.frame HAL9.out (fun _ _ h => h)) (by rw [flat_length tdC 3 (fun _ => rfl), HSL.out]) (by unfold maxLen; omega) (by omega) ?_
      intro a7 c7 w6 hr7 hg7 hb7
      have hmg : Pure u9 w6 := HAL9.out.then (Mod.of_grown (S := fun k' => k' = u9.heap.size) hg7 (fun k e _ => by cases e; rfl)) (fun k hk e => by subst e; exact absurd hk (Nat.lt_irrefl _))
      refine hK.out _ _ ?_ (fun hHeld => ?_)
      · exact ⟨hmg.cell (fun h => h) y0, hmg.cell (fun h => h) y1, hmg.cell (fun h => h) y2⟩
      ((refine wpAnyH_take (i := 6) (v := ?_) rfl (by kernel_rfl) (by kernel_rfl) (by kernel_rfl) (fun _ _ _ h => h) (Yields.yieldsIf (Or.inl ⟨by rfl, ?_⟩)) hHeld ?_; rotate_left 1; focus (intro w; go_simp; try with_reducible rfl)); try simp only [Act.put, List.getElem_toArray, List.getElem_cons_zero, List.getElem_cons_succ, List.setIfInBounds_toArray, List.set_cons_zero, List.set_cons_succ])
      refine wpAnyH_done (by kernel_rfl) ?_ _
      have hmg1 : Pure W1 w6 := HPq.out.trans hmg
      obtain ⟨m, hm⟩ : ∃ m, 1 + (n - k) = m := ⟨_, rfl⟩
      rw [hm] at hr7 ⊢
      have hkm : k + m = n + 1 := by omega
      have HR7 := Lib.hid hr7; have HMG := Lib.hid hmg; have HMG1 := Lib.hid hmg1
      clear hHeld hr7 hg7 hb7 hmg hmg1 hm hK K y0 y1 y2
      have V1 : True := trivial
      go_wp2_with (first
        | (at_builtin; clear V1; refine wpList_append_read _ rfl _ _ 28 rfl 31 j0 _ 3 24 Tryd.underlying28 hj jz0 jz1 jz2 rfl (by decide) (.slice none 0 0) 0 [] rfl (World.ownsRow_nil _ _ _ _) (.slice (some ad) k c) _ k rfl (HPre.out.frame HMG.out (fun _ _ h => h)) (by rw [flat_length tdC 3 (fun _ => rfl), HPL.out]) (by unfold maxLen; omega) (by omega) ?_; intro a8 c8 w7 hr8 hg8 hb8
           rw [Nat.zero_add] at hr8 hb8 ⊢
           rw [List.nil_append] at hr8
           have p7 : Pure w6 w7 := Mod.of_grown hg8 (fun k e _ => by cases e)
           have HR8 := Lib.hid hr8; have HB8 := Lib.hid hb8; have HP7 := Lib.hid p7
           clear hr8 hg8 hb8 p7)
        | (at_builtin; refine wpList_append_read _ rfl _ _ 28 rfl 31 j0 _ 3 24 Tryd.underlying28 hj jz0 jz1 jz2 rfl (by decide) (.slice a8 k c8) k _ rfl HR8.out (.slice a7 m c7) _ m rfl (ReadAt.of_owns (owns_mod HR7.out HP7.out (fun _ _ h => h)) (fun u hu => (by
             rcases List.mem_append.1 hu with h | h
             · simp [tdC] at h; rcases h with rfl | rfl | rfl <;> rfl
             · exact tdC_one _ u h))) HR7.out.1 (by unfold maxLen; omega) (by omega) ?_; intro a9 c9 w8 hr9 hg9 hb9))
      rw [hkm] at hr9 hb9
      have h8f : ∀ g, (Value.slice a8 k c8).ownBlock = some g → w.heap.size ≤ g := fun g hg => by
        have e0 := (HAL.out.trans HMG1.out).size
        rcases HB8.out with e | e
        · rw [e] at hg; cases hg
        · rw [e] at hg; injection hg with hg; omega
      have p8 : Pure w w8 := ((HAL.out.trans HMG1.out).trans HP7.out).then (Mod.of_grown (S := fun k' => (Value.slice a8 k c8).ownBlock = some k') hg9 (fun k e _ => e)) (fun k hk e => by have := h8f k e; omega)
      have hrow : TdRow w8 a9 c9 (putL L x) := by
        show World.ownsRow _ 0 _ 3 (.slice a9 (putL L x).length c9) (putL L x).length ((putL L x).flatMap tdC)
        rw [putL_length, HN.out]
        have : (putL L x).flatMap tdC = (L.takeWhile (fun y => befB y x)).flatMap tdC ++ (tdC x ++ (L.dropWhile (fun y => befB y x)).flatMap tdC) := by unfold putL; simp [List.flatMap_append]
        rw [this]
        exact hr9
      have hfin : FreshV w (.slice a9 (n + 1) c9) := fun g hg => by
        rcases hb9 with e | e
        · exact h8f g (e ▸ hg)
        · rw [e] at hg; injection hg with hg; have := ((HAL.out.trans HMG1.out).trans HP7.out).size; omega
      have HF := Lib.hid hfin; have HROW := Lib.hid hrow; have HP8 := Lib.hid p8
      clear hr9 hg9 hb9 h8f p8 hrow hfin
      refine bodyPost_ret (v := .slice a9 (n + 1) c9) (by simp [results, Tryd.results59, go_sem, hkm]) rfl ⟨a9, c9, rfl, HROW.out, HF.out, HP8.out⟩
end Go.Proofs.YtlalpenfgkfkpaaDoor

/- The reference of cascade: Put onto nothing, Put of any row, Advance. Conditions: the lists lie in memory. -/
namespace Go.Proofs.YtlalpenfgkfkpaaDoor
open Go.RowKit Go.Shelf
set_option maxRecDepth 100000
set_option maxHeartbeats 2000000 in
theorem rput_none (w : World) (x : Td) :
    Calls Tryd.prog 59 #[.slice none 0 0, tdV x] w fun e w' => ∃ a' c', e = .returned (.slice a' 1 c') ∧ TdRow w' a' c' [x] ∧ FreshV w (.slice a' 1 c') ∧ Pure w w' := by
  unfold tdV
  have hal : Pure w (w.alloc (.cells #[.int .u32 x.slot, .int .u64 x.dl, .int .u64 x.birth] 31)) := (Mod.refl _ w).alloc _
  have h3 := heap_new (w := w) (o := .cells #[.int .u32 x.slot, .int .u64 x.dl, .int .u64 x.birth] 31 (0, 0)) rfl
  have HAL := Lib.hid hal
  obtain ⟨j0, hj, jz0, jz1, jz2⟩ := info_parts info_td
  clear hal
  go_enter Tryd.func59, Tryd.ntmps59
  go_upto_region 2 with fail
  generalize w.alloc (.cells #[.int .u32 x.slot, .int .u64 x.dl, .int .u64 x.birth] 31) = W1 at *
  obtain ⟨b3, hb3⟩ : ∃ b, w.heap.size = b := ⟨_, rfl⟩
  rw [hb3] at h3 ⊢
  have HB3 := Lib.hid hb3; have H3 := Lib.hid h3
  clear hb3 h3
  refine wp_loop_rounds 1 ?_
  rw [rounds_succ]
  go_upto_region 2 with fail
  refine wp_region_held_drew (S := fun _ => True) (by kernel_rfl) trivial (fun hHeld => ?_)
  ((refine wpAnyH_take (i := 0) (v := ?_) rfl (by kernel_rfl) (by kernel_rfl) (by kernel_rfl) (fun _ _ _ h => h) (Yields.yieldsIf (Or.inl ⟨by rfl, ?_⟩)) hHeld ?_; rotate_left 1; focus (intro w; go_simp; try with_reducible rfl)); try simp only [Act.put, List.getElem_toArray, List.getElem_cons_zero, List.getElem_cons_succ, List.setIfInBounds_toArray, List.set_cons_zero, List.set_cons_succ])
  ((refine wpAnyH_take (i := 1) (v := ?_) rfl (by kernel_rfl) (by kernel_rfl) (by kernel_rfl) (fun _ _ _ h => h) (Yields.yieldsIf (Or.inl ⟨by rfl, ?_⟩)) hHeld ?_; rotate_left 1; focus (intro w; go_simp; try with_reducible rfl)); try simp only [Act.put, List.getElem_toArray, List.getElem_cons_zero, List.getElem_cons_succ, List.setIfInBounds_toArray, List.set_cons_zero, List.set_cons_succ])
  ((refine wpAnyH_take (i := 2) (v := ?_) rfl (by kernel_rfl) (by kernel_rfl) (by kernel_rfl) (fun _ _ _ h => h) (Yields.yieldsIf (Or.inl ⟨by rfl, ?_⟩)) hHeld ?_; rotate_left 1; focus (intro w; go_simp; try with_reducible rfl)); try simp only [Act.put, List.getElem_toArray, List.getElem_cons_zero, List.getElem_cons_succ, List.setIfInBounds_toArray, List.set_cons_zero, List.set_cons_succ])
  ((refine wpAnyH_take (i := 3) (v := ?_) rfl (by kernel_rfl) (by kernel_rfl) (by kernel_rfl) (fun _ _ _ h => h) (Yields.yieldsIf (Or.inl ⟨by rfl, ?_⟩)) hHeld ?_; rotate_left 1; focus (intro w; go_simp; try with_reducible rfl)); try simp only [Act.put, List.getElem_toArray, List.getElem_cons_zero, List.getElem_cons_succ, List.setIfInBounds_toArray, List.set_cons_zero, List.set_cons_succ])
  ((refine wpAnyH_take (i := 4) (v := ?_) rfl (by kernel_rfl) (by kernel_rfl) (by kernel_rfl) (fun _ _ _ h => h) (Yields.yieldsIf (Or.inl ⟨by rfl, ?_⟩)) hHeld ?_; rotate_left 1; focus (intro w; go_simp; try with_reducible rfl)); try simp only [Act.put, List.getElem_toArray, List.getElem_cons_zero, List.getElem_cons_succ, List.setIfInBounds_toArray, List.set_cons_zero, List.set_cons_succ])
  (refine wpAnyH_take (i := 5) (v := undef) rfl (by kernel_rfl) (by kernel_rfl) (by kernel_rfl) (fun _ _ _ h => h) (Or.inr ⟨by rfl, rfl⟩) hHeld ?_; try simp only [Act.put, List.getElem_toArray, List.getElem_cons_zero, List.getElem_cons_succ, List.setIfInBounds_toArray, List.set_cons_zero, List.set_cons_succ])
  (refine wpAnyH_take (i := 6) (v := undef) rfl (by kernel_rfl) (by kernel_rfl) (by kernel_rfl) (fun _ _ _ h => h) (Or.inr ⟨by rfl, rfl⟩) hHeld ?_; try simp only [Act.put, List.getElem_toArray, List.getElem_cons_zero, List.getElem_cons_succ, List.setIfInBounds_toArray, List.set_cons_zero, List.set_cons_succ])
  (refine wpAnyH_take (i := 7) (v := undef) rfl (by kernel_rfl) (by kernel_rfl) (by kernel_rfl) (fun _ _ _ h => h) (Or.inr ⟨by rfl, rfl⟩) hHeld ?_; try simp only [Act.put, List.getElem_toArray, List.getElem_cons_zero, List.getElem_cons_succ, List.setIfInBounds_toArray, List.set_cons_zero, List.set_cons_succ])
  (refine wpAnyH_take (i := 8) (v := undef) rfl (by kernel_rfl) (by kernel_rfl) (by kernel_rfl) (fun _ _ _ h => h) (Or.inr ⟨by rfl, rfl⟩) hHeld ?_; try simp only [Act.put, List.getElem_toArray, List.getElem_cons_zero, List.getElem_cons_succ, List.setIfInBounds_toArray, List.set_cons_zero, List.set_cons_succ])
  (refine wpAnyH_take (i := 9) (v := undef) rfl (by kernel_rfl) (by kernel_rfl) (by kernel_rfl) (fun _ _ _ h => h) (Or.inr ⟨by rfl, rfl⟩) hHeld ?_; try simp only [Act.put, List.getElem_toArray, List.getElem_cons_zero, List.getElem_cons_succ, List.setIfInBounds_toArray, List.set_cons_zero, List.set_cons_succ])
  (refine wpAnyH_take (i := 10) (v := undef) rfl (by kernel_rfl) (by kernel_rfl) (by kernel_rfl) (fun _ _ _ h => h) (Or.inr ⟨by rfl, rfl⟩) hHeld ?_; try simp only [Act.put, List.getElem_toArray, List.getElem_cons_zero, List.getElem_cons_succ, List.setIfInBounds_toArray, List.set_cons_zero, List.set_cons_succ])
  ((refine wpAnyH_take (i := 11) (v := ?_) rfl (by kernel_rfl) (by kernel_rfl) (by kernel_rfl) (fun _ _ _ h => h) (Yields.yieldsIf (Or.inl ⟨by rfl, ?_⟩)) hHeld ?_; rotate_left 1; focus (intro w; go_simp; try with_reducible rfl)); try simp only [Act.put, List.getElem_toArray, List.getElem_cons_zero, List.getElem_cons_succ, List.setIfInBounds_toArray, List.set_cons_zero, List.set_cons_succ])
  refine wpAnyH_done (by kernel_rfl) ?_ _
  clear hHeld
  have hpq : Pure W1 W1.drew := (Mod.refl _ _).drew
  have HPq := Lib.hid hpq
  clear hpq
  generalize W1.drew = u9 at *
  go_upto_region 4 with fail
  have h3q := HPq.out.heap (fun h => h) H3.out
  have y0 : u9.cell? ⟨b3, 0, none⟩ = some (.int .u32 x.slot) := by rw [cell_of_row _ _ 0 _ _ _ h3q]; rfl
  have y1 : u9.cell? ⟨b3, 1, none⟩ = some (.int .u64 x.dl) := by rw [cell_of_row _ _ 1 _ _ _ h3q]; rfl
  have y2 : u9.cell? ⟨b3, 2, none⟩ = some (.int .u64 x.birth) := by rw [cell_of_row _ _ 2 _ _ _ h3q]; rfl
  have hal9 : Pure u9 (u9.drew.alloc (.cells #[.int .u32 x.slot, .int .u64 x.dl, .int .u64 x.birth] 31)) := ((Mod.refl _ u9).drew).alloc _
  have h1r := one_row (w := u9.drew) (x := x) (B := u9.heap.size) rfl
  have HAL9 := Lib.hid hal9; have H1R := Lib.hid h1r
  clear h3q hal9 h1r
  refine wp_region_held_drew (S := fun u => u.cell? ⟨b3, 0, none⟩ = some (.int .u32 x.slot) ∧ u.cell? ⟨b3, 1, none⟩ = some (.int .u64 x.dl) ∧ u.cell? ⟨b3, 2, none⟩ = some (.int .u64 x.birth)) (by kernel_rfl) ⟨y0, y1, y2⟩ (fun hHeld => ?_)
  ((refine wpAnyH_take (i := 0) (v := ?_) rfl (by kernel_rfl) (by kernel_rfl) (by kernel_rfl) (fun _ _ _ h => h) (Or.inl ⟨by rfl, ?_⟩) hHeld ?_; rotate_left 1; focus (intro w hS; obtain ⟨s0, s1, s2⟩ := hS; go_simp; try with_reducible rfl)); try simp only [Act.put, List.getElem_toArray, List.getElem_cons_zero, List.getElem_cons_succ, List.setIfInBounds_toArray, List.set_cons_zero, List.set_cons_succ])
  ((refine wpAnyH_take (i := 2) (v := ?_) rfl (by kernel_rfl) (by kernel_rfl) (by kernel_rfl) (fun _ _ _ h => h) (Yields.yieldsIf (Or.inl ⟨by rfl, ?_⟩)) hHeld ?_; rotate_left 1; focus (intro w; go_simp; try with_reducible rfl)); try simp only [Act.put, List.getElem_toArray, List.getElem_cons_zero, List.getElem_cons_succ, List.setIfInBounds_toArray, List.set_cons_zero, List.set_cons_succ])
  ((refine wpAnyH_take (i := 3) (v := ?_) rfl (by kernel_rfl) (by kernel_rfl) (by kernel_rfl) (fun _ _ _ h => h) (Yields.yieldsIf (Or.inl ⟨by rfl, ?_⟩)) hHeld ?_; rotate_left 1; focus (intro w; go_simp; try with_reducible rfl)); try simp only [Act.put, List.getElem_toArray, List.getElem_cons_zero, List.getElem_cons_succ, List.setIfInBounds_toArray, List.set_cons_zero, List.set_cons_succ])
  ((refine wpAnyH_take (i := 4) (v := ?_) rfl (by kernel_rfl) (by kernel_rfl) (by kernel_rfl) (fun _ _ _ h => h) (Yields.yieldsIf (Or.inl ⟨by rfl, ?_⟩)) hHeld ?_; rotate_left 1; focus (intro w; go_simp; try with_reducible rfl)); try simp only [Act.put, List.getElem_toArray, List.getElem_cons_zero, List.getElem_cons_succ, List.setIfInBounds_toArray, List.set_cons_zero, List.set_cons_succ])
  ((refine wpAnyH_ready (rs := [1]) (by kernel_rfl) (by simp) ?_; refine AllReadyH.cons rfl (fun K hK => ?_) AllReadyH.nil; go_simp; skip; refine hK.out _ _ ?_ (fun hHeld => ?_); (· exact ⟨HAL9.out.cell (fun h => h) y0, HAL9.out.cell (fun h => h) y1, HAL9.out.cell (fun h => h) y2⟩); clear hK K); try simp only [Act.put, List.getElem_toArray, List.getElem_cons_zero, List.getElem_cons_succ, List.setIfInBounds_toArray, List.set_cons_zero, List.set_cons_succ])
  refine wpAnyH_ready (rs := [5]) (by kernel_rfl) (by simp) ?_
  refine AllReadyH.cons rfl (fun K hK => ?_) AllReadyH.nil
  refine step_append_read _ (by rfl) _ _ 28 (by rfl) 31 j0 _ 3 24 Tryd.underlying28 hj jz0 jz1 jz2 rfl (by decide) (.slice (some ⟨u9.heap.size, 0, none⟩) 1 1) 1 (tdC x) (by rfl) H1R.out (.slice none 0 0) [] 0 (by rfl) (ReadAt.nil _ _) rfl (by unfold maxLen; omega) (by omega) ?_
  intro a7 c7 w6 hr7 hg7 hb7
  have hmg : Pure u9 w6 := HAL9.out.then (Mod.of_grown (S := fun k' => k' = u9.heap.size) hg7 (fun k e _ => by cases e; rfl)) (fun k hk e => by subst e; exact absurd hk (Nat.lt_irrefl _))
  refine hK.out _ _ ?_ (fun hHeld => ?_)
  · exact ⟨hmg.cell (fun h => h) y0, hmg.cell (fun h => h) y1, hmg.cell (fun h => h) y2⟩
  ((refine wpAnyH_take (i := 6) (v := ?_) rfl (by kernel_rfl) (by kernel_rfl) (by kernel_rfl) (fun _ _ _ h => h) (Yields.yieldsIf (Or.inl ⟨by rfl, ?_⟩)) hHeld ?_; rotate_left 1; focus (intro w; go_simp; try with_reducible rfl)); try simp only [Act.put, List.getElem_toArray, List.getElem_cons_zero, List.getElem_cons_succ, List.setIfInBounds_toArray, List.set_cons_zero, List.set_cons_succ])
  refine wpAnyH_done (by kernel_rfl) ?_ _
  rw [List.append_nil] at hr7
  have hmg1 : Pure w w6 := HAL.out.trans (HPq.out.trans hmg)
  have hm0 : (1 : Nat) + 0 = 1 := rfl
  rw [hm0] at hr7 ⊢
  have HR7 := Lib.hid hr7; have HMG1 := Lib.hid hmg1
  clear hHeld hr7 hg7 hb7 hmg hmg1 hK K y0 y1 y2 hm0
  have V1 : True := trivial
  go_wp2_with (first
    | (at_builtin; clear V1; refine wpList_append_read _ rfl _ _ 28 rfl 31 j0 _ 3 24 Tryd.underlying28 hj jz0 jz1 jz2 rfl (by decide) (.slice none 0 0) 0 [] rfl (World.ownsRow_nil _ _ _ _) (.slice none 0 0) [] 0 rfl (ReadAt.nil _ _) rfl (by unfold maxLen; omega) (by omega) ?_; intro a8 c8 w7 hr8 hg8 hb8
       have p7 : Pure w6 w7 := Mod.of_grown hg8 (fun k e _ => by cases e)
       have HR8 := Lib.hid hr8; have HB8 := Lib.hid hb8; have HP7 := Lib.hid p7
       clear hr8 hg8 hb8 p7)
    | (at_builtin; refine wpList_append_read _ rfl _ _ 28 rfl 31 j0 _ 3 24 Tryd.underlying28 hj jz0 jz1 jz2 rfl (by decide) (.slice a8 0 c8) 0 [] rfl HR8.out (.slice a7 1 c7) _ 1 rfl (ReadAt.of_owns (owns_mod HR7.out HP7.out (fun _ _ h => h)) (fun u hu => (by
         simp [tdC] at hu; rcases hu with rfl | rfl | rfl <;> rfl))) rfl (by unfold maxLen; omega) (by omega) ?_; intro a9 c9 w8 hr9 hg9 hb9))
  have hm1 : (0 : Nat) + 1 = 1 := rfl
  rw [hm1] at hr9 hb9
  have h8f : ∀ g, (Value.slice a8 0 c8).ownBlock = some g → w.heap.size ≤ g := fun g hg => by
    have e0 := HMG1.out.size
    rcases HB8.out with e | e
    · rw [e] at hg; cases hg
    · rw [e] at hg; injection hg with hg; omega
  have p8 : Pure w w8 := (HMG1.out.trans HP7.out).then (Mod.of_grown (S := fun k' => (Value.slice a8 0 c8).ownBlock = some k') hg9 (fun k e _ => e)) (fun k hk e => by have := h8f k e; omega)
  have hrow : TdRow w8 a9 c9 [x] := by
    show World.ownsRow _ 0 _ 3 (.slice a9 1 c9) 1 ([x].flatMap tdC)
    have : [x].flatMap tdC = [] ++ tdC x := by simp [List.flatMap_cons]
    rw [this]
    exact hr9
  have hfin : FreshV w (.slice a9 1 c9) := fun g hg => by
    rcases hb9 with e | e
    · exact h8f g (e ▸ hg)
    · rw [e] at hg; injection hg with hg; have := (HMG1.out.trans HP7.out).size; omega
  have HF := Lib.hid hfin; have HROW := Lib.hid hrow; have HP8 := Lib.hid p8
  clear hr9 hg9 hb9 h8f p8 hrow hfin
  refine bodyPost_ret (v := .slice a9 1 c9) (by simp [results, Tryd.results59, go_sem]) rfl ⟨a9, c9, rfl, HROW.out, HF.out, HP8.out⟩
end Go.Proofs.YtlalpenfgkfkpaaDoor

/- The reference of cascade: Out, Advance. Conditions: the lists lie in memory. -/
namespace Go.Proofs.YtlalpenfgkfkpaaDoor
open Go.RowKit Go.Shelf
set_option maxRecDepth 100000
set_option maxHeartbeats 2000000 in
theorem rout_ok {w : World} {a : Option Addr} {n c i : Nat} {L : List Td} (h : ReadAt w (.slice a n c) 3 (L.flatMap tdC)) (hn : L.length = n) (hl : n ≤ 4194304) (hnc : n ≤ c) (hi : i < n) :
    Calls Tryd.prog 92 #[.slice a n c, .int .i64 i] w fun e w' => ∃ a' c', e = .returned (.slice a' (n - 1) c') ∧ TdRow w' a' c' (L.eraseIdx i) ∧ FreshV w (.slice a' (n - 1) c') ∧ Pure w w' := by
  cases a with
  | none =>
    obtain ⟨_, _, _, e, _, _, h0, _⟩ := h
    injection e with e1 e2 e3
    have := h0 e1.symm
    omega
  | some ad =>
  obtain ⟨k, hk⟩ : ∃ k, i + 1 = k := ⟨_, rfl⟩
  have hkn : k ≤ n := by omega
  have hpre := rd_pre h (j := i) (by omega)
  have hsuf := rd_sufI h (j := k) hkn hnc
  have hpl : (L.take i).length = i := by rw [List.length_take, hn]; omega
  have hsl : (L.drop k).length = n - k := by rw [List.length_drop, hn]
  have her : (L.eraseIdx i).flatMap tdC = (L.take i).flatMap tdC ++ (L.drop k).flatMap tdC := by
    rw [List.eraseIdx_eq_take_drop_succ, List.flatMap_append, hk]
  have hel : (L.eraseIdx i).length = n - 1 := by rw [List.length_eraseIdx, hn, if_pos hi]
  obtain ⟨sv, hsv⟩ : ∃ v, (if c = k then some ad else some (ad.add (k * 3))) = v := ⟨_, rfl⟩
  rw [hsv] at hsuf
  have HSuf := Lib.hid hsuf; have HPre := Lib.hid hpre; have HPL := Lib.hid hpl; have HSL := Lib.hid hsl; have HSV := Lib.hid hsv; have HER := Lib.hid her; have HEL := Lib.hid hel
  obtain ⟨j0, hj, jz0, jz1, jz2⟩ := info_parts info_td
  have wi : IntKind.i64.wrap ((i : Int) + 1) = (k : Int) := by rw [← hk]; exact IntWalk.i64_in _ (by omega)
  have c1 : (i : Int) ≤ (c : Int) := by omega
  have c2 : (k : Int) ≤ (n : Int) := by omega
  have c3 : (i : Int) ≤ (n : Int) := by omega
  have c4 : (k : Int) ≤ (c : Int) := by omega
  have HK := Lib.hid hk
  clear h hpre hsuf hpl hsl hsv hn hk her hel
  go_enter Tryd.func92, Tryd.ntmps92
  go_upto_region 1 with fail
  refine wp_region_held_drew (S := fun _ => True) (by kernel_rfl) trivial (fun hHeld => ?_)
  ((refine wpAnyH_take (i := 0) (v := ?_) rfl (by kernel_rfl) (by kernel_rfl) (by kernel_rfl) (fun _ _ _ h => h) (Yields.yieldsIf (Or.inl ⟨by rfl, ?_⟩)) hHeld ?_; rotate_left 1; focus (intro w; go_simp; try with_reducible rfl)); try simp only [Act.put, List.getElem_toArray, List.getElem_cons_zero, List.getElem_cons_succ, List.setIfInBounds_toArray, List.set_cons_zero, List.set_cons_succ])
  ((refine wpAnyH_take (i := 1) (v := ?_) rfl (by kernel_rfl) (by kernel_rfl) (by kernel_rfl) (fun _ _ _ h => h) (Yields.yieldsIf (Or.inl ⟨by rfl, ?_⟩)) hHeld ?_; rotate_left 1; focus (intro w; go_simp; try with_reducible rfl)); try simp only [Act.put, List.getElem_toArray, List.getElem_cons_zero, List.getElem_cons_succ, List.setIfInBounds_toArray, List.set_cons_zero, List.set_cons_succ])
  ((refine wpAnyH_take (i := 2) (v := ?_) rfl (by kernel_rfl) (by kernel_rfl) (by kernel_rfl) (fun _ _ _ h => h) (Yields.yieldsIf (Or.inl ⟨by rfl, ?_⟩)) hHeld ?_; rotate_left 1; focus (intro w; go_simp; try with_reducible rfl)); try simp only [Act.put, List.getElem_toArray, List.getElem_cons_zero, List.getElem_cons_succ, List.setIfInBounds_toArray, List.set_cons_zero, List.set_cons_succ])
  ((refine wpAnyH_take (i := 4) (v := ?_) rfl (by kernel_rfl) (by kernel_rfl) (by kernel_rfl) (fun _ _ _ h => h) (Yields.yieldsIf (Or.inl ⟨by rfl, ?_⟩)) hHeld ?_; rotate_left 1; focus (intro w; go_simp; try with_reducible rfl)); try simp only [Act.put, List.getElem_toArray, List.getElem_cons_zero, List.getElem_cons_succ, List.setIfInBounds_toArray, List.set_cons_zero, List.set_cons_succ])
  ((refine wpAnyH_take (i := 5) (v := ?_) rfl (by kernel_rfl) (by kernel_rfl) (by kernel_rfl) (fun _ _ _ h => h) (Yields.yieldsIf (Or.inl ⟨by rfl, ?_⟩)) hHeld ?_; rotate_left 1; focus (intro w; go_simp; try with_reducible rfl)); try simp only [Act.put, List.getElem_toArray, List.getElem_cons_zero, List.getElem_cons_succ, List.setIfInBounds_toArray, List.set_cons_zero, List.set_cons_succ])
  ((refine wpAnyH_take (i := 6) (v := ?_) rfl (by kernel_rfl) (by kernel_rfl) (by kernel_rfl) (fun _ _ _ h => h) (Yields.yieldsIf (Or.inl ⟨by rfl, ?_⟩)) hHeld ?_; rotate_left 1; focus (intro w; go_simp; try with_reducible rfl)); try simp only [Act.put, List.getElem_toArray, List.getElem_cons_zero, List.getElem_cons_succ, List.setIfInBounds_toArray, List.set_cons_zero, List.set_cons_succ])
  ((refine wpAnyH_take (i := 7) (v := ?_) rfl (by kernel_rfl) (by kernel_rfl) (by kernel_rfl) (fun _ _ _ h => h) (Yields.yieldsIf (Or.inl ⟨by rfl, ?_⟩)) hHeld ?_; rotate_left 1; focus (intro w; go_simp; try with_reducible rfl)); try simp only [Act.put, List.getElem_toArray, List.getElem_cons_zero, List.getElem_cons_succ, List.setIfInBounds_toArray, List.set_cons_zero, List.set_cons_succ])
  rw [HSV.out]
  have hpq : Pure w w.drew := (Mod.refl _ _).drew
  refine wpAnyH_ready (rs := [3]) (by kernel_rfl) (by simp) ?_
  refine AllReadyH.cons rfl (fun K hK => ?_) AllReadyH.nil
  refine step_append_read _ (by rfl) _ _ 28 (by rfl) 31 j0 _ 3 24 Tryd.underlying28 hj jz0 jz1 jz2 rfl (by decide) (.slice none 0 0) 0 [] (by rfl) (World.ownsRow_nil _ _ _ _) (.slice (some ad) i c) _ i (by rfl) (HPre.out.frame hpq (fun _ _ h => h)) (by rw [flat_length tdC 3 (fun _ => rfl), HPL.out]) (by unfold maxLen; omega) (by omega) ?_
  intro a8 c8 w7 hr8 hg8 hb8
  rw [Nat.zero_add] at hr8 hb8 ⊢
  rw [List.nil_append] at hr8
  have p7 : Pure w w7 := hpq.trans (Mod.of_grown hg8 (fun k e _ => by cases e))
  refine hK.out _ _ trivial (fun hHeld => ?_)
  refine wpAnyH_ready (rs := [8]) (by kernel_rfl) (by simp) ?_
  refine AllReadyH.cons rfl (fun K' hK' => ?_) AllReadyH.nil
  refine step_append_read _ (by rfl) _ _ 28 (by rfl) 31 j0 _ 3 24 Tryd.underlying28 hj jz0 jz1 jz2 rfl (by decide) (.slice a8 i c8) i _ (by rfl) hr8 (.slice sv (n - k) (c - k)) _ (n - k) (by rfl) (HSuf.out.frame p7 (fun _ _ h => h)) (by rw [flat_length tdC 3 (fun _ => rfl), HSL.out]) (by unfold maxLen; omega) (by omega) ?_
  intro a9 c9 w8 hr9 hg9 hb9
  refine hK'.out _ _ trivial (fun hHeld => ?_)
  ((refine wpAnyH_take (i := 9) (v := ?_) rfl (by kernel_rfl) (by kernel_rfl) (by kernel_rfl) (fun _ _ _ h => h) (Yields.yieldsIf (Or.inl ⟨by rfl, ?_⟩)) hHeld ?_; rotate_left 1; focus (intro w; go_simp; try with_reducible rfl)); try simp only [Act.put, List.getElem_toArray, List.getElem_cons_zero, List.getElem_cons_succ, List.setIfInBounds_toArray, List.set_cons_zero, List.set_cons_succ])
  refine wpAnyH_done (by kernel_rfl) ?_ _
  have hm : i + (n - k) = n - 1 := by have := HK.out; omega
  rw [hm] at hr9 hb9 ⊢
  have h8f : ∀ g, (Value.slice a8 i c8).ownBlock = some g → w.heap.size ≤ g := fun g hg => by
    rcases hb8 with e | e
    · rw [e] at hg; cases hg
    · rw [e] at hg; injection hg with hg; have := hpq.size; omega
  have p8 : Pure w w8 := p7.then (Mod.of_grown (S := fun k' => (Value.slice a8 i c8).ownBlock = some k') hg9 (fun k e _ => e)) (fun k hk e => by have := h8f k e; omega)
  have hrow : TdRow w8 a9 c9 (L.eraseIdx i) := by
    show World.ownsRow _ 0 _ 3 (.slice a9 (L.eraseIdx i).length c9) (L.eraseIdx i).length ((L.eraseIdx i).flatMap tdC)
    rw [HEL.out, HER.out]
    exact hr9
  have hfin : FreshV w (.slice a9 (n - 1) c9) := fun g hg => by
    rcases hb9 with e | e
    · exact h8f g (e ▸ hg)
    · rw [e] at hg; injection hg with hg; have := p7.size; omega
  have HF := Lib.hid hfin; have HROW := Lib.hid hrow; have HP8 := Lib.hid p8
  clear hHeld hr9 hg9 hb9 h8f p8 hrow hfin hr8 hg8 hb8 p7 hpq hm
  go_wp2
  refine bodyPost_ret (v := .slice a9 (n - 1) c9) (by simp [results, Tryd.results92, go_sem]) rfl ⟨a9, c9, rfl, HROW.out, HF.out, HP8.out⟩
end Go.Proofs.YtlalpenfgkfkpaaDoor

/- The reference of cascade: Advance. Conditions: the list is read. Printed by wip/gen_rce.py. -/
namespace Go.Proofs.YtlalpenfgkfkpaaDoor
open Go.RowKit Go.Shelf
set_option maxRecDepth 100000
theorem tw_gen {L : List Td} {p : Td → Bool} {k : Nat} (h1 : ∀ i y, i < k → L[i]? = some y → p y = true) (h2 : ∀ y, L[k]? = some y → p y = false) (hk : k ≤ L.length) : L.take k = L.takeWhile p ∧ L.drop k = L.dropWhile p := by
  induction L generalizing k with
  | nil =>
    have : k = 0 := by simpa using hk
    subst this
    exact ⟨rfl, rfl⟩
  | cons a L ih =>
    cases k with
    | zero =>
      have := h2 a rfl
      simp [this]
    | succ k =>
      have := h1 0 a (by omega) rfl
      obtain ⟨i1, i2⟩ := ih (k := k) (fun i y hi hy => h1 (i + 1) y (by omega) hy) (fun y hy => h2 y hy) (by simpa using hk)
      simp [this, i1, i2]
theorem radv_no {w : World} {a : Option Addr} {n c now tt : Nat} (ht : tt < now) : Calls Tryd.prog 21 #[whV now a n c, .int .u64 tt] w fun e w' => e = .returned (.tuple #[whV now a n c, .slice none 0 0, .int .i64 3]) ∧ Pure w w' := by
  unfold whV
  have hlt : (tt : Int) < (now : Int) := by omega
  have hbx := (Mod.refl (fun _ => False) (w.alloc (.cells #[.int .u64 now, .slice a n c] 45))).alloc (.cells #[.int .u64 0, .slice none 0 0] 45)
  have hal : Pure w ((w.alloc (.cells #[.int .u64 now, .slice a n c] 45)).alloc (.cells #[.int .u64 0, .slice none 0 0] 45)) := ((Mod.refl _ w).alloc _).trans hbx
  have h2 := hbx.heap (fun h => h) (heap_new (w := w) (o := .cells #[.int .u64 now, .slice a n c] 45 (0, 0)) rfl)
  have h4 : ((w.alloc (.cells #[.int .u64 now, .slice a n c] 45)).alloc (.cells #[.int .u64 0, .slice none 0 0] 45)).heap[w.heap.size + 1]? = some (.cells #[.int .u64 0, .slice none 0 0] 45 (0, 0)) := heap_new (by simp)
  have HAL := Lib.hid hal
  clear hbx hal
  go_enter Tryd.func21, Tryd.ntmps21
  go_upto_region 1 with fail
  generalize ((w.alloc (.cells #[.int .u64 now, .slice a n c] 45)).alloc (.cells #[.int .u64 0, .slice none 0 0] 45)) = W1 at *
  obtain ⟨b, hb⟩ : ∃ b, w.heap.size = b := ⟨_, rfl⟩
  rw [hb] at h2 h4 ⊢
  have HB := Lib.hid hb
  clear hb
  have h2_0 := cell_of_row _ _ 0 _ _ _ h2; have h2_1 := cell_of_row _ _ 1 _ _ _ h2; have h2_f := (fun j => frozen_of_row _ _ j _ _ h2); have h2_l := lt_of_block h2; simp at h2_0 h2_1; have H_h2 := Lib.hid h2; clear h2
  have h4_0 := cell_of_row _ _ 0 _ _ _ h4; have h4_1 := cell_of_row _ _ 1 _ _ _ h4; have h4_f := (fun j => frozen_of_row _ _ j _ _ h4); have h4_l := lt_of_block h4; simp at h4_0 h4_1; have H_h4 := Lib.hid h4; clear h4
  go_wp2
  refine bodyPost_ret (v := .tuple #[.agg #[.int .u64 now, .slice a n c], .slice none 0 0, .int .i64 3]) (by simp [results, Tryd.results21, go_sem, h2_0, h2_1, h2_l, h4_0, h4_1, h4_l]) rfl ⟨rfl, ?_⟩
  exact HAL.out.then (Mod.set2 (b + 1) 0 1 _ _) (fun k hk e => by have := HB.out; omega)
theorem whbox {w : World} {b : Nat} {x y : Value} {T : Nat} (h : w.heap[b]? = some (.cells #[x, y] T (0, 0))) : w.cell? ⟨b, 0, none⟩ = some x ∧ w.cell? ⟨b, 1, none⟩ = some y := ⟨by rw [cell_of_row _ _ 0 _ _ _ h]; rfl, by rw [cell_of_row _ _ 1 _ _ _ h]; rfl⟩
set_option maxHeartbeats 2000000 in
theorem radv_some {w : World} {ad : Addr} {n c now tt : Nat} {L : List Td} (h : ReadAt w (.slice (some ad) n c) 3 (L.flatMap tdC)) (hn : L.length = n) (hl : n ≤ 4194304) (hnc : n ≤ c) (ht : now ≤ tt) :
    Calls Tryd.prog 21 #[whV now (some ad) n c, .int .u64 tt] w fun e w' => ∃ a1 c1 a2 c2, e = .returned (.tuple #[whV tt a1 (restL tt L).length c1, .slice a2 (dueL tt L).length c2, .int .i64 0]) ∧ TdRow w' a1 c1 (restL tt L) ∧ TdRow w' a2 c2 (dueL tt L) ∧ FreshV w (.slice a1 (restL tt L).length c1) ∧ FreshV w (.slice a2 (dueL tt L).length c2) ∧ Pure w w' := by
  unfold whV
  obtain ⟨j0, hj, jz0, jz1, jz2⟩ := info_parts info_td
  have hlt0 : ¬ (tt : Int) < (now : Int) := by omega
  have hbx := (Mod.refl (fun _ => False) (w.alloc (.cells #[.int .u64 now, .slice (some ad) n c] 45))).alloc (.cells #[.int .u64 0, .slice none 0 0] 45)
  have hal : Pure w ((w.alloc (.cells #[.int .u64 now, .slice (some ad) n c] 45)).alloc (.cells #[.int .u64 0, .slice none 0 0] 45)) := ((Mod.refl _ w).alloc _).trans hbx
  have h2 := hbx.heap (fun h => h) (heap_new (w := w) (o := .cells #[.int .u64 now, .slice (some ad) n c] 45 (0, 0)) rfl)
  have h4 : ((w.alloc (.cells #[.int .u64 now, .slice (some ad) n c] 45)).alloc (.cells #[.int .u64 0, .slice none 0 0] 45)).heap[w.heap.size + 1]? = some (.cells #[.int .u64 0, .slice none 0 0] 45 (0, 0)) := heap_new (by simp)
  have HR := Lib.hid (h.frame hal (fun _ _ h => h)); have HN := Lib.hid hn
  have HAL := Lib.hid hal
  clear h hn hbx hal
  go_enter Tryd.func21, Tryd.ntmps21
  go_upto_region 4 with fail
  generalize ((w.alloc (.cells #[.int .u64 now, .slice (some ad) n c] 45)).alloc (.cells #[.int .u64 0, .slice none 0 0] 45)) = W1 at *
  obtain ⟨b, hb⟩ : ∃ b, w.heap.size = b := ⟨_, rfl⟩
  rw [hb] at h2 h4 ⊢
  obtain ⟨b', hb'⟩ : ∃ b', b + 1 = b' := ⟨_, rfl⟩
  rw [hb'] at h4 ⊢
  have HB := Lib.hid hb; have HB' := Lib.hid hb'
  clear hb hb'
  obtain ⟨x0, x1⟩ := whbox h2
  have H4 := Lib.hid h4
  clear h2 h4
  go_loopw [7] (fun v7 wr => ∃ k : Nat, v7 = .int .i64 (k : Nat) ∧ k ≤ n ∧ W1 = wr ∧ ∀ i y, i < k → L[i]? = some y → decide (y.dl ≤ tt) = true) (fun v7 _ => n - (intOf v7).toNat)
  case atStart => exact ⟨0, rfl, Nat.zero_le _, rfl, fun i y hi => by omega⟩
  case round =>
    obtain ⟨k, rfl, hk, rfl, hall⟩ := hrel
    have HA := Lib.hid hall
    clear hall
    by_cases hlt : k < n
    · have hlt' : (k : Int) < (n : Int) := by omega
      have k0 : (0 : Int) ≤ (k : Int) := by omega
      have wk : IntKind.i64.wrap ((k : Int) + 1) = (k : Int) + 1 := IntWalk.i64_in _ (by omega)
      have d1 : decide (k < n) = true := decide_eq_true hlt
      obtain ⟨y, hy⟩ : ∃ y, L[k]? = some y := ⟨_, List.getElem?_eq_getElem (by rw [HN.out]; exact hlt)⟩
      obtain ⟨ad', had, z0, z1, z2⟩ := td_read HR.out hy
      injection had with had
      subst had
      have HY := Lib.hid hy
      clear hy
      by_cases hb : y.dl ≤ tt
      · have hle : (y.dl : Int) ≤ (tt : Int) := by omega
        have hall2 : ∀ i z, i < k + 1 → L[i]? = some z → decide (z.dl ≤ tt) = true := fun i z hi hz => by
          rcases Nat.lt_or_ge i k with h | h
          · exact HA.out i z h hz
          · have : i = k := by omega
            subst this
            rw [HY.out] at hz
            cases hz
            exact decide_eq_true hb
        have HA2 := Lib.hid hall2
        clear hall2 hb
        go_wp2
        go_roundw
        case rel => exact ⟨k + 1, by go_num, hlt, trivial, HA2.out⟩
        case measure => simp [intOf]; omega
      · have hnle : ¬ (y.dl : Int) ≤ (tt : Int) := by omega
        have htw := tw_gen (p := fun x => decide (x.dl ≤ tt)) (k := k) HA.out (fun y' hy' => by rw [HY.out] at hy'; cases hy'; exact decide_eq_false hb) (by rw [HN.out]; omega)
        have HTw := Lib.hid htw
        clear htw hb
        have hcap : (k : Int) ≤ (c : Int) := by omega
        have hkn : (k : Int) ≤ (n : Int) := by omega
        have hsuf := rd_suf HR.out (j := k) hk rfl
        have hpre := rd_pre HR.out (j := k) hk
        have hpl : (dueL tt L).length = k := by unfold dueL; rw [← HTw.out.1, List.length_take, HN.out]; omega
        have hsl : (restL tt L).length = n - k := by unfold restL; rw [← HTw.out.2, List.length_drop, HN.out]
        rw [HTw.out.1] at hpre
        rw [HTw.out.2] at hsuf
        have HSuf := Lib.hid hsuf; have HPre := Lib.hid hpre; have HPL := Lib.hid hpl; have HSL := Lib.hid hsl
        clear hsuf hpre hpl hsl
        have V1 : True := trivial
        go_wp2_with (first
          | (at_builtin; clear V1; refine wpList_append_read _ rfl _ _ 28 rfl 31 j0 _ 3 24 Tryd.underlying28 hj jz0 jz1 jz2 rfl (by decide) (.slice none 0 0) 0 [] rfl (World.ownsRow_nil _ _ _ _) (.slice (some ad) k c) _ k rfl HPre.out (by rw [flat_length tdC 3 (fun _ => rfl)]; exact congrArg (· * 3) HPL.out) (by unfold maxLen; omega) (by omega) ?_; intro a8 c8 w7 hr8 hg8 hb8
             rw [Nat.zero_add] at hr8 hb8 ⊢
             rw [List.nil_append] at hr8
             have p7 : Pure W1 w7 := Mod.of_grown hg8 (fun k e _ => by cases e)
             have HR8 := Lib.hid hr8; have HB8 := Lib.hid hb8; have HP7 := Lib.hid p7
             have x0 := p7.cell (fun h => h) x0
             have x1 := p7.cell (fun h => h) x1
             clear hr8 hg8 hb8 p7)
          | (at_builtin; refine wpList_append_read _ rfl _ _ 28 rfl 31 j0 _ 3 24 Tryd.underlying28 hj jz0 jz1 jz2 rfl (by decide) (.slice none 0 0) 0 [] rfl (World.ownsRow_nil _ _ _ _) (.slice (some (ad.add (k * 3))) (n - k) (c - k)) _ (n - k) rfl (HSuf.out.frame HP7.out (fun _ _ h => h)) (by rw [flat_length tdC 3 (fun _ => rfl)]; exact congrArg (· * 3) HSL.out) (by unfold maxLen; omega) (by omega) ?_; intro a9 c9 w8 hr9 hg9 hb9
             rw [Nat.zero_add] at hr9 hb9 ⊢
             rw [List.nil_append] at hr9
             have p8 : Pure W1 w8 := HP7.out.trans (Mod.of_grown hg9 (fun k e _ => by cases e))
             have h4 := p8.heap (fun h => h) H4.out
             have HR9 := Lib.hid hr9; have HB9 := Lib.hid hb9; have HP8 := Lib.hid p8; have HG9 := Lib.hid hg9
             clear hr9 hg9 hb9 p8
             have h4_0 := cell_of_row _ _ 0 _ _ _ h4; have h4_1 := cell_of_row _ _ 1 _ _ _ h4; have h4_f := (fun j => frozen_of_row _ _ j _ _ h4); have h4_l := lt_of_block h4; simp at h4_0 h4_1; have H_h4 := Lib.hid h4; clear h4))
        have h8f : ∀ g, (Value.slice a8 k c8).ownBlock = some g → W1.heap.size ≤ g := fun g hg => by
          rcases HB8.out with e | e
          · rw [e] at hg; cases hg
          · rw [e] at hg; injection hg with hg; omega
        have h9f : ∀ g, (Value.slice a9 (n - k) c9).ownBlock = some g → W1.heap.size ≤ g := fun g hg => by
          rcases HB9.out with e | e
          · rw [e] at hg; cases hg
          · rw [e] at hg; injection hg with hg; have := HP7.out.size; omega
        have hw1 := HAL.out.size
        have hbl := lt_of_block H4.out
        have hbw : w.heap.size ≤ b' := by have := HB.out; have := HB'.out; omega
        have hms := Mod.set2 (w := w8) b' 0 1 (.int .u64 tt) (.slice a9 (n - k) c9)
        have r9 := owns_mod HR9.out hms (fun g hg e => by have := h9f g hg; omega)
        have r8 := owns_mod (owns_mod HR8.out (Mod.of_grown (S := fun _ => False) HG9.out (fun k e _ => by cases e)) (fun _ _ h => h)) hms (fun g hg e => by have := h8f g hg; omega)
        have pf : Pure w _ := (HAL.out.trans HP8.out).then hms (fun g hg e => by omega)
        refine bodyPost_ret (v := .tuple #[.agg #[.int .u64 tt, .slice a9 (n - k) c9], .slice a8 k c8, .int .i64 0]) (by simp [results, Tryd.results21, go_sem, h4_0, h4_1, h4_l]) rfl ⟨a9, c9, a8, c8, by rw [HPL.out, HSL.out], ?_, ?_, ?_, ?_, pf⟩
        · show World.ownsRow _ 0 _ 3 (.slice a9 (restL tt L).length c9) (restL tt L).length ((restL tt L).flatMap tdC)
          rw [HSL.out]
          exact r9
        · show World.ownsRow _ 0 _ 3 (.slice a8 (dueL tt L).length c8) (dueL tt L).length ((dueL tt L).flatMap tdC)
          rw [HPL.out]
          exact r8
        · rw [HSL.out]; exact fun g hg => by have := h9f g hg; omega
        · rw [HPL.out]; exact fun g hg => by have := h8f g hg; omega
    · have hge : ¬ (k : Int) < (n : Int) := by omega
      have d1 : decide (k < n) = false := decide_eq_false (by omega)
      have htw := tw_gen (p := fun x => decide (x.dl ≤ tt)) (k := k) HA.out (fun y' hy' => by have := (List.getElem?_eq_some_iff.1 hy').1; rw [HN.out] at this; omega) (by rw [HN.out]; omega)
      have HTw := Lib.hid htw
      clear htw
      have hrs := rd_sufI HR.out (j := k) hk hnc
      obtain ⟨sv, hsv⟩ : ∃ v, (if c = k then some ad else some (ad.add (k * 3))) = v := ⟨_, rfl⟩
      rw [hsv] at hrs
      have HRS := Lib.hid hrs
      clear hrs
      have hcap : (k : Int) ≤ (c : Int) := by omega
      have hkn : (k : Int) ≤ (n : Int) := by omega
      have hsuf := HRS.out
      have hpre := rd_pre HR.out (j := k) hk
      have hpl : (dueL tt L).length = k := by unfold dueL; rw [← HTw.out.1, List.length_take, HN.out]; omega
      have hsl : (restL tt L).length = n - k := by unfold restL; rw [← HTw.out.2, List.length_drop, HN.out]
      rw [HTw.out.1] at hpre
      rw [HTw.out.2] at hsuf
      have HSuf := Lib.hid hsuf; have HPre := Lib.hid hpre; have HPL := Lib.hid hpl; have HSL := Lib.hid hsl
      clear hsuf hpre hpl hsl
      have V1 : True := trivial
      go_wp2_with (first
        | (at_builtin; clear V1; refine wpList_append_read _ rfl _ _ 28 rfl 31 j0 _ 3 24 Tryd.underlying28 hj jz0 jz1 jz2 rfl (by decide) (.slice none 0 0) 0 [] rfl (World.ownsRow_nil _ _ _ _) (.slice (some ad) k c) _ k rfl HPre.out (by rw [flat_length tdC 3 (fun _ => rfl)]; exact congrArg (· * 3) HPL.out) (by unfold maxLen; omega) (by omega) ?_; intro a8 c8 w7 hr8 hg8 hb8
           rw [Nat.zero_add] at hr8 hb8 ⊢
           rw [List.nil_append] at hr8
           have p7 : Pure W1 w7 := Mod.of_grown hg8 (fun k e _ => by cases e)
           have HR8 := Lib.hid hr8; have HB8 := Lib.hid hb8; have HP7 := Lib.hid p7
           have x0 := p7.cell (fun h => h) x0
           have x1 := p7.cell (fun h => h) x1
           clear hr8 hg8 hb8 p7)
        | (at_builtin; refine wpList_append_read _ rfl _ _ 28 rfl 31 j0 _ 3 24 Tryd.underlying28 hj jz0 jz1 jz2 rfl (by decide) (.slice none 0 0) 0 [] rfl (World.ownsRow_nil _ _ _ _) (.slice sv (n - k) (c - k)) _ (n - k) rfl (HSuf.out.frame HP7.out (fun _ _ h => h)) (by rw [flat_length tdC 3 (fun _ => rfl)]; exact congrArg (· * 3) HSL.out) (by unfold maxLen; omega) (by omega) ?_; intro a9 c9 w8 hr9 hg9 hb9
           rw [Nat.zero_add] at hr9 hb9 ⊢
           rw [List.nil_append] at hr9
           have p8 : Pure W1 w8 := HP7.out.trans (Mod.of_grown hg9 (fun k e _ => by cases e))
           have h4 := p8.heap (fun h => h) H4.out
           have HR9 := Lib.hid hr9; have HB9 := Lib.hid hb9; have HP8 := Lib.hid p8; have HG9 := Lib.hid hg9
           clear hr9 hg9 hb9 p8
           have h4_0 := cell_of_row _ _ 0 _ _ _ h4; have h4_1 := cell_of_row _ _ 1 _ _ _ h4; have h4_f := (fun j => frozen_of_row _ _ j _ _ h4); have h4_l := lt_of_block h4; simp at h4_0 h4_1; have H_h4 := Lib.hid h4; clear h4))
      have h8f : ∀ g, (Value.slice a8 k c8).ownBlock = some g → W1.heap.size ≤ g := fun g hg => by
        rcases HB8.out with e | e
        · rw [e] at hg; cases hg
        · rw [e] at hg; injection hg with hg; omega
      have h9f : ∀ g, (Value.slice a9 (n - k) c9).ownBlock = some g → W1.heap.size ≤ g := fun g hg => by
        rcases HB9.out with e | e
        · rw [e] at hg; cases hg
        · rw [e] at hg; injection hg with hg; have := HP7.out.size; omega
      have hw1 := HAL.out.size
      have hbl := lt_of_block H4.out
      have hbw : w.heap.size ≤ b' := by have := HB.out; have := HB'.out; omega
      have hms := Mod.set2 (w := w8) b' 0 1 (.int .u64 tt) (.slice a9 (n - k) c9)
      have r9 := owns_mod HR9.out hms (fun g hg e => by have := h9f g hg; omega)
      have r8 := owns_mod (owns_mod HR8.out (Mod.of_grown (S := fun _ => False) HG9.out (fun k e _ => by cases e)) (fun _ _ h => h)) hms (fun g hg e => by have := h8f g hg; omega)
      have pf : Pure w _ := (HAL.out.trans HP8.out).then hms (fun g hg e => by omega)
      refine bodyPost_ret (v := .tuple #[.agg #[.int .u64 tt, .slice a9 (n - k) c9], .slice a8 k c8, .int .i64 0]) (by simp [results, Tryd.results21, go_sem, h4_0, h4_1, h4_l]) rfl ⟨a9, c9, a8, c8, by rw [HPL.out, HSL.out], ?_, ?_, ?_, ?_, pf⟩
      · show World.ownsRow _ 0 _ 3 (.slice a9 (restL tt L).length c9) (restL tt L).length ((restL tt L).flatMap tdC)
        rw [HSL.out]
        exact r9
      · show World.ownsRow _ 0 _ 3 (.slice a8 (dueL tt L).length c8) (dueL tt L).length ((dueL tt L).flatMap tdC)
        rw [HPL.out]
        exact r8
      · rw [HSL.out]; exact fun g hg => by have := h9f g hg; omega
      · rw [HPL.out]; exact fun g hg => by have := h8f g hg; omega
end Go.Proofs.YtlalpenfgkfkpaaDoor

/- The reference of cascade: Advance and Put of any list. Conditions: the list is read. -/
namespace Go.Proofs.YtlalpenfgkfkpaaDoor
open Go.RowKit Go.Shelf
set_option maxRecDepth 100000
set_option maxHeartbeats 1000000 in
theorem radv_none {w : World} {now tt : Nat} (ht : now ≤ tt) :
    Calls Tryd.prog 21 #[whV now none 0 0, .int .u64 tt] w fun e w' => ∃ a1 c1 a2 c2, e = .returned (.tuple #[whV tt a1 0 c1, .slice a2 0 c2, .int .i64 0]) ∧ TdRow w' a1 c1 [] ∧ TdRow w' a2 c2 [] ∧ FreshV w (.slice a1 0 c1) ∧ FreshV w (.slice a2 0 c2) ∧ Pure w w' := by
  unfold whV
  have hlt0 : ¬ (tt : Int) < (now : Int) := by omega
  have hbx := (Mod.refl (fun _ => False) (w.alloc (.cells #[.int .u64 now, .slice none 0 0] 45))).alloc (.cells #[.int .u64 0, .slice none 0 0] 45)
  have hal : Pure w ((w.alloc (.cells #[.int .u64 now, .slice none 0 0] 45)).alloc (.cells #[.int .u64 0, .slice none 0 0] 45)) := ((Mod.refl _ w).alloc _).trans hbx
  have h2 := hbx.heap (fun h => h) (heap_new (w := w) (o := .cells #[.int .u64 now, .slice none 0 0] 45 (0, 0)) rfl)
  have h4 : ((w.alloc (.cells #[.int .u64 now, .slice none 0 0] 45)).alloc (.cells #[.int .u64 0, .slice none 0 0] 45)).heap[w.heap.size + 1]? = some (.cells #[.int .u64 0, .slice none 0 0] 45 (0, 0)) := heap_new (by simp)
  have HAL := Lib.hid hal
  clear hbx hal
  go_enter Tryd.func21, Tryd.ntmps21
  go_upto_region 4 with fail
  generalize ((w.alloc (.cells #[.int .u64 now, .slice none 0 0] 45)).alloc (.cells #[.int .u64 0, .slice none 0 0] 45)) = W1 at *
  obtain ⟨b, hb⟩ : ∃ b, w.heap.size = b := ⟨_, rfl⟩
  rw [hb] at h2 h4 ⊢
  obtain ⟨b', hb'⟩ : ∃ b', b + 1 = b' := ⟨_, rfl⟩
  rw [hb'] at h4 ⊢
  have HB := Lib.hid hb; have HB' := Lib.hid hb'
  clear hb hb'
  obtain ⟨x0, x1⟩ := whbox h2
  have hbl := lt_of_block h4
  clear h2
  have h4_0 := cell_of_row _ _ 0 _ _ _ h4; have h4_1 := cell_of_row _ _ 1 _ _ _ h4; have h4_f := (fun j => frozen_of_row _ _ j _ _ h4); have h4_l := lt_of_block h4; simp at h4_0 h4_1; have H_h4 := Lib.hid h4; clear h4
  refine wp_loop_rounds 1 ?_
  rw [rounds_succ]
  go_wp2
  have hms := Mod.set2 (w := W1) b' 0 1 (.int .u64 tt) (.slice none 0 0)
  have hf : FreshV w (.slice none 0 0) := fun g hg => by cases hg
  have pf : Pure w _ := HAL.out.then hms (fun g hg e => by have := HB.out; have := HB'.out; omega)
  refine bodyPost_ret (v := .tuple #[.agg #[.int .u64 tt, .slice none 0 0], .slice none 0 0, .int .i64 0]) (by simp [results, Tryd.results21, go_sem, h4_0, h4_1, h4_l]) rfl ⟨none, 0, none, 0, rfl, World.ownsRow_nil _ _ _ _, World.ownsRow_nil _ _ _ _, hf, hf, pf⟩
section
variable {w : World} {a : Option Addr} {n c now tt : Nat} {L : List Td}
theorem rd_none (h : ReadAt w (.slice none n c) 3 (L.flatMap tdC)) (hn : L.length = n) : L = [] := by
  obtain ⟨_, _, _, e, hl, _, h0, _⟩ := h
  injection e with e1 e2 e3
  have h1 := h0 e1.symm
  subst h1
  have : L.length = 0 := by omega
  exact List.eq_nil_of_length_eq_zero this
/-- A list's slice: it is read, it has the length, nothing has no room. -/
structure RdL (w : World) (a : Option Addr) (n c : Nat) (L : List Td) : Prop where
  rd : ReadAt w (.slice a n c) 3 (L.flatMap tdC)
  len : L.length = n
  cap : n ≤ c
  nil : a = none → c = 0
theorem RdL.pure {w' : World} (h : RdL w a n c L) (hp : Pure w w') : RdL w' a n c L := ⟨h.rd.frame hp (fun _ _ h => h), h.len, h.cap, h.nil⟩
theorem RdL.of_row (h : TdRow w a c L) : RdL w a L.length c L := by
  refine ⟨h.rd, rfl, ?_, fun e => ?_⟩
  · obtain ⟨_, ⟨e, e0⟩ | ⟨g, cap, cur, e, _, _, h1, _⟩⟩ := h
    · omega
    · injection e with e1 e2 e3; omega
  · obtain ⟨_, ⟨e', e0⟩ | ⟨g, cap, cur, e', _, _, h1, _⟩⟩ := h
    · injection e' with e1 e2 e3
    · injection e' with e1 e2 e3; rw [e] at e1; cases e1
theorem RdL.zero (h : RdL w none n c L) : n = 0 ∧ c = 0 ∧ L = [] := by
  have h1 := rd_none h.rd h.len
  have h2 := h.len
  subst h1
  exact ⟨h2.symm, h.nil rfl, rfl⟩
theorem radv_ok (h : RdL w a n c L) (hl : n ≤ 4194304) (ht : now ≤ tt) :
    Calls Tryd.prog 21 #[whV now a n c, .int .u64 tt] w fun e w' => ∃ a1 c1 a2 c2, e = .returned (.tuple #[whV tt a1 (restL tt L).length c1, .slice a2 (dueL tt L).length c2, .int .i64 0]) ∧ TdRow w' a1 c1 (restL tt L) ∧ TdRow w' a2 c2 (dueL tt L) ∧ FreshV w (.slice a1 (restL tt L).length c1) ∧ FreshV w (.slice a2 (dueL tt L).length c2) ∧ Pure w w' := by
  cases a with
  | some ad => exact radv_some h.rd h.len hl h.cap ht
  | none =>
    obtain ⟨rfl, rfl, rfl⟩ := h.zero
    exact radv_none ht
theorem rput_ok (h : RdL w a n c L) (hl : n ≤ 4194304) (x : Td) :
    Calls Tryd.prog 59 #[.slice a n c, tdV x] w fun e w' => ∃ a' c', e = .returned (.slice a' (n + 1) c') ∧ TdRow w' a' c' (putL L x) ∧ FreshV w (.slice a' (n + 1) c') ∧ Pure w w' := by
  cases a with
  | some ad => exact rput_some h.rd h.len hl h.cap x
  | none =>
    obtain ⟨rfl, rfl, rfl⟩ := h.zero
    exact rput_none w x
end
end Go.Proofs.YtlalpenfgkfkpaaDoor
