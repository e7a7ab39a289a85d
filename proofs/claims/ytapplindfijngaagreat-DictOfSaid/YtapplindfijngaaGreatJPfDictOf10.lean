/- Lemmas and contracts of functions, strung together out of 2 texts. No condition. -/
import Derived.Test.YtapplindfijngaaGreatJPfDictOf9
import Derived.Test.YtapplindfijngaaGreatJPfDictOf6
/- The reference of layer 2: right, Mix and Sum are what the package's are. -/
namespace Go.Proofs.YtapplindfijngaaGreat
open Go.RowKit Go.Shelf
set_option maxRecDepth 100000

theorem right_any (s b : Nat) (W : World) (hs : s < 18446744073709551616) (hb : b ≤ 64) : Calls Tryz.prog 166 #[.int .u64 s, .int .i64 b] W fun e w' => e = .returned (.int .u64 (s / 2 ^ b : Nat)) ∧ W = w' := by
  go_enter Tryz.func166, Tryz.ntmps166
  go_wp2
  go_loopw [0, 5] (fun v k wr => ∃ i, k = .int .i64 (i : Nat) ∧ i ≤ b ∧ v = .int .u64 (s / 2 ^ i : Nat) ∧ wr = W) (fun _ k _ => b - (intOf k).toNat)
  case atStart => exact ⟨0, rfl, by omega, by simp, rfl⟩
  case round =>
    obtain ⟨i, rfl, hi, rfl, rfl⟩ := hrel
    by_cases hlt : i < b
    · have hlt' : (i : Int) < (b : Int) := by omega
      obtain ⟨q, hq⟩ : ∃ q, s / 2 ^ i = q := ⟨_, rfl⟩
      have hql : q ≤ s := by rw [← hq]; exact Nat.div_le_self _ _
      have hq2 : s / 2 ^ (i + 1) = q / 2 := by rw [Nat.pow_succ, ← Nat.div_div_eq_div_mul, hq]
      have e1 : ((q : Int)).tdiv 2 = ((q / 2 : Nat) : Int) := by rw [Int.tdiv_eq_ediv_of_nonneg (by omega)]; rfl
      have e2 : ((q : Int)) / 2 = ((q / 2 : Nat) : Int) := rfl
      have e3 : IntKind.u64.wrap ((q / 2 : Nat) : Int) = ((q / 2 : Nat) : Int) := u64_wrap _ (by omega)
      have HQ := Lib.hid hq2
      rw [hq]
      clear hq hq2
      generalize q / 2 = r at *
      go_wp2
      go_roundw
      case rel => exact ⟨i + 1, by go_num, hlt, by rw [HQ.out], trivial⟩
      case measure => simp [intOf]; omega
    · have e : i = b := by omega
      subst e
      have hlt' : ¬ ((i : Int) < (i : Int)) := by omega
      generalize hr : s / 2 ^ i = r
      go_wp2
      go_ret
      exact ⟨rfl, rfl⟩
theorem u64_add (a b : Nat) : IntKind.u64.wrap ((a : Int) + (b : Int)) = (((a + b) % 18446744073709551616 : Nat) : Int) := by
  rw [← u64_mod]
  simp
theorem rMix_ok (n : Nat) (hn : n < 18446744073709551616) (w : World) : Calls Tryz.prog 159 #[.int .u64 n] w fun e w' => e = .returned (.int .u64 (mixM n : Nat)) ∧ w = w' := by
  have h29 : n / 536870912 < 18446744073709551616 := Nat.lt_of_le_of_lt (Nat.div_le_self _ _) hn
  have e1 : bits .xor .u64 (n : Int) ((n / 536870912 : Nat) : Int) = ((n ^^^ (n / 536870912) : Nat) : Int) := bits_xor64 _ _ hn h29
  have h5 := mix5_lt n
  have h32 : mix5 n / 4294967296 < 18446744073709551616 := Nat.lt_of_le_of_lt (Nat.div_le_self _ _) h5
  have e3 : bits .xor .u64 ((mix5 n : Nat) : Int) ((mix5 n / 4294967296 : Nat) : Int) = ((mixM n : Nat) : Int) := bits_xor64 _ _ h5 h32
  have HR1 := Lib.hid (fun W => right_any n 29 W hn (by decide))
  have HR2 := Lib.hid (fun W => right_any (mix5 n) 32 W h5 (by decide))
  rw [show n / 2 ^ 29 = n / 536870912 from rfl] at HR1
  rw [show mix5 n / 2 ^ 32 = mix5 n / 4294967296 from rfl] at HR2
  have hy : n ^^^ (n / 536870912) < 18446744073709551616 := Nat.xor_lt_two_pow (n := 64) hn h29
  obtain ⟨y, hyy⟩ : ∃ y, n ^^^ (n / 536870912) = y := ⟨_, rfl⟩
  have hm5 : mix5 n = 5 * y % 18446744073709551616 := by unfold mix5; rw [hyy]
  rw [hyy] at e1 hy
  have a2 := u64_add y y
  have a3 := u64_add ((y + y) % 18446744073709551616) y
  have a4 := u64_add (((y + y) % 18446744073709551616 + y) % 18446744073709551616) y
  have a5 := u64_add ((((y + y) % 18446744073709551616 + y) % 18446744073709551616 + y) % 18446744073709551616) y
  have a6 : ((((y + y) % 18446744073709551616 + y) % 18446744073709551616 + y) % 18446744073709551616 + y) % 18446744073709551616 = mix5 n := by rw [hm5]; omega
  rw [a6] at a5
  generalize (((y + y) % 18446744073709551616 + y) % 18446744073709551616 + y) % 18446744073709551616 = y4 at *
  generalize ((y + y) % 18446744073709551616 + y) % 18446744073709551616 = y3 at *
  generalize (y + y) % 18446744073709551616 = y2 at *
  clear hyy hm5 a6
  generalize mixM n = r at *
  generalize mix5 n / 4294967296 = q32 at *
  generalize mix5 n = q at *
  generalize n / 536870912 = n29 at *
  have T1 : True := trivial
  have T2 : True := trivial
  go_enter Tryz.func159, Tryz.ntmps159
  go_wp2_with (first
    | (go_at_call 166; clear T1; refine Calls.mono (HR1.out _) ?_; rintro e w' ⟨rfl, rfl⟩)
    | (go_at_call 166; clear T2; refine Calls.mono (HR2.out _) ?_; rintro e w' ⟨rfl, rfl⟩))
  go_ret
  exact ⟨by simp [*], rfl⟩
set_option maxHeartbeats 1000000 in
theorem rSum_ok (seed : Nat) (same : Bool) (hs : seed < 18446744073709551616) (key : ByteArray) (hk : key.size ≤ 140737488355328) (w : World) :
    Calls Tryz.prog 122 #[.int .u64 seed, .bool same, .string key] w fun e w' => e = .returned (.int .u64 (sumS seed same key : Nat)) ∧ w = w' := by
  obtain ⟨n, hn⟩ : ∃ n, key.size = n := ⟨_, rfl⟩
  have HN := Lib.hid hn
  have hn2 : n ≤ 140737488355328 := by omega
  have HM := Lib.hid (fun W => rMix_ok (foldM seed (if same then [] else key.data.toList)) (foldM_lt hs _) W)
  rw [show mixM (foldM seed (if same then [] else key.data.toList)) = sumS seed same key from rfl] at HM
  generalize sumS seed same key = res at *
  clear hk
  have wn : IntKind.i64.wrap (n : Int) = n := IntWalk.i64_in _ (by omega)
  go_enter Tryz.func122, Tryz.ntmps122
  go_upto_region 3 with fail
  cases same with
  | true =>
    rw [if_pos rfl] at HM
    have hf : foldM seed [] = seed := rfl
    rw [hf] at HM
    go_loopw [7, 8] (fun v7 v8 wr => v7 = .int .u64 seed ∧ v8 = .int .i64 0 ∧ wr = w) (fun _ _ _ => 0)
    case atStart => exact ⟨rfl, rfl, rfl⟩
    case round =>
      obtain ⟨rfl, rfl, rfl⟩ := hrel
      go_wp2_with (go_at_call 159; refine Calls.mono (HM.out _) ?_; rintro e w' ⟨rfl, rfl⟩)
      all_goals
        go_ret
        exact ⟨rfl, rfl⟩
  | false =>
    rw [if_neg (by decide)] at HM
    go_loopw [7, 8] (fun v7 v8 wr => ∃ i, v7 = .int .u64 (foldM seed (key.data.toList.take i) : Nat) ∧ v8 = .int .i64 (i : Nat) ∧ i ≤ n ∧ wr = w) (fun _ v8 _ => n - (intOf v8).toNat)
    case atStart => exact ⟨0, by rw [List.take_zero, foldM, List.foldl_nil], rfl, Nat.zero_le _, rfl⟩
    case round =>
      obtain ⟨i, rfl, rfl, hi, rfl⟩ := hrel
      have hlen : key.data.toList.length = n := by rw [← hn]; rfl
      by_cases hlt : i < n
      · have hlt' : (i : Int) < (n : Int) := by omega
        obtain ⟨b, hb⟩ : ∃ b, key.data.toList[i]? = some b := ⟨_, List.getElem?_eq_getElem (by omega)⟩
        have htk := foldM_step seed key.data.toList hb
        have hq := foldM_lt hs (key.data.toList.take i)
        have HTK := Lib.hid htk
        clear htk
        generalize foldM seed (key.data.toList.take i) = q at *
        have wi : IntKind.i64.wrap ((i : Int) + 1) = (i : Int) + 1 := IntWalk.i64_in _ (by omega)
        have hki : i < key.size := by omega
        have hkb : (key[i]'hki).toNat = b.toNat := by
          have := List.getElem?_eq_some_iff.1 hb
          obtain ⟨h1, h2⟩ := this
          rw [← h2]
          exact congrArg UInt8.toNat rfl
        have hb256 : b.toNat < 256 := UInt8.toNat_lt b
        have e1 : IntKind.u64.wrap (b.toNat : Int) = (b.toNat : Int) := u64_wrap _ (by omega)
        have e2 : bits .xor .u64 (q : Int) (b.toNat : Int) = ((q ^^^ b.toNat : Nat) : Int) := bits_xor64 _ _ hq (by omega)
        have e3 : IntKind.u64.wrap (1099511628211 * ((q ^^^ b.toNat : Nat) : Int)) = ((foldS q b : Nat) : Int) := by
          unfold foldS
          rw [← u64_mod, Int.mul_comm]
          simp
        generalize foldS q b = r at *
        generalize q ^^^ b.toNat = xx at *
        clear hb
        generalize b.toNat = kb at *
        clear hs hq HM
        go_upto_region 5 with fail
        go_wp2
        go_roundw
        case rel => exact ⟨i + 1, by rw [HTK.out], by go_num, hlt, trivial⟩
        case measure => simp [intOf]; omega
      · have hlt' : (n : Int) ≤ (i : Int) := by omega
        have htk : key.data.toList.take i = key.data.toList := List.take_of_length_le (by omega)
        rw [htk]
        generalize foldM seed key.data.toList = q at *
        go_wp2_with (go_at_call 159; refine Calls.mono (HM.out _) ?_; rintro e w' ⟨rfl, rfl⟩)
        all_goals
          go_ret
          exact ⟨rfl, rfl⟩
end Go.Proofs.YtapplindfijngaaGreat

/- growth.within, check, limit, Insert. -/
namespace Go.Proofs.YtapplindfijngaaGreat
open Go.RowKit Go.Shelf
set_option maxRecDepth 100000

def intsV (l : List Int) : List Value := l.map (Value.int .i64)
theorem within_ok {w : World} {a : Option Addr} {c : Nat} {l : List Int} {most : Int} (h : ReadAt w (.slice a l.length c) 1 (intsV l)) (hl : ∀ z ∈ l, 0 ≤ z ∧ z ≤ most) (hn : l.length ≤ 8) :
    Calls Tryz.prog 156 #[.int .i64 most, .slice a l.length c] w fun e w' => e = .returned (.int .i64 0) ∧ w = w' := by
  have HR := Lib.hid h; have HL := Lib.hid hl
  clear h hl
  obtain ⟨n, hn'⟩ : ∃ n, l.length = n := ⟨_, rfl⟩
  rw [hn'] at HR hn ⊢
  have HN := Lib.hid hn'
  clear hn'
  have wn : IntKind.i64.wrap (n : Int) = n := IntWalk.i64_in _ (by omega)
  go_enter Tryz.func156, Tryz.ntmps156
  go_upto_region 2 with fail
  go_loopw [9] (fun v9 wr => ∃ i, v9 = .int .i64 (i : Nat) ∧ i ≤ n ∧ wr = w) (fun v9 _ => n - (intOf v9).toNat)
  case atStart => exact ⟨0, rfl, Nat.zero_le _, rfl⟩
  case round =>
    obtain ⟨i, rfl, hi, rfl⟩ := hrel
    by_cases hlt : i < n
    · have hlt' : (i : Int) < (n : Int) := by omega
      obtain ⟨z, hz⟩ : ∃ z, l[i]? = some z := ⟨_, List.getElem?_eq_getElem (by have := HN.out; omega)⟩
      obtain ⟨h1, h2⟩ := HL.out z (List.mem_of_getElem? hz)
      obtain ⟨a', n', c', e, _, _, h0, hc⟩ := HR.out
      cases e
      obtain ⟨ad, rfl⟩ : ∃ ad, a = some ad := by
        cases a with
        | none => have := h0 rfl; omega
        | some ad => exact ⟨ad, rfl⟩
      have c0 := hc ad rfl i (.int .i64 z) (by unfold intsV; rw [List.getElem?_map, hz]; rfl)
      clear hc h0 hz
      have wi : IntKind.i64.wrap ((i : Int) + 1) = (i : Int) + 1 := IntWalk.i64_in _ (by omega)
      have d1 : decide (z < 0) = false := by simp; omega
      have d2 : decide (most < z) = false := by simp; omega
      go_wp2
      go_roundw
      case rel => exact ⟨i + 1, by go_num, hlt, trivial⟩
      case measure => simp [intOf]; omega
    · have hlt' : (n : Int) ≤ (i : Int) := by omega
      go_wp2
      go_ret
      exact ⟨rfl, rfl⟩
theorem gcheck_ok {g live tombs : Nat} (hg : Pow g) (h : live + tombs ≤ 8 * g) (w : World) : Calls Tryz.prog 116 #[.int .i64 g, .int .i64 live, .int .i64 tombs] w fun e w' => e = .returned (.int .i64 0) ∧ Pure w w' := by
  have hg1 := hg.le
  have HV := Lib.hid (fun W => PValid_ok g W hg)
  have w8 : IntKind.i64.wrap ((g : Int) * 8) = (g : Int) * 8 := IntWalk.i64_in _ (by omega)
  have wl : IntKind.i64.wrap ((live : Int) + (tombs : Int)) = (live : Int) + (tombs : Int) := IntWalk.i64_in _ (by omega)
  have h1 := heap_new (w := w) (o := .cells #[.int .i64 live, .int .i64 tombs] 3 (0, 0)) rfl
  have hp1 : Pure w (w.alloc (.cells #[.int .i64 live, .int .i64 tombs] 3)) := (Mod.refl _ w).alloc _
  have HW1 := Lib.hid (within_ok (a := some ⟨w.heap.size, 0, none⟩) (c := 2) (l := [(live : Int), (tombs : Int)]) (most := (g : Int) * 8) (ReadAt.of_block 2 2 1 h1 (by rfl) (by simp [intsV, Value.oneCell'])) (by simp; omega) (by simp))
  have HP1 := Lib.hid hp1
  clear h1 hp1 hg
  simp only [List.length_cons, List.length_nil, Nat.zero_add, Nat.reduceAdd] at HW1
  go_enter Tryz.func116, Tryz.ntmps116
  go_upto_region 5 with (first
    | (go_at_call 102; refine Calls.mono (HV.out _) ?_; rintro e w' ⟨rfl, rfl⟩)
    | (go_at_call 156; refine Calls.mono HW1.out ?_; rintro e w' ⟨rfl, rfl⟩))
  generalize w.alloc (.cells #[.int .i64 live, .int .i64 tombs] 3) = w1 at *
  have h2 := heap_new (w := w1) (o := .cells #[.int .i64 ((live : Int) + (tombs : Int))] 3 (0, 0)) rfl
  have HW2 := Lib.hid (within_ok (a := some ⟨w1.heap.size, 0, none⟩) (c := 1) (l := [(live : Int) + (tombs : Int)]) (most := (g : Int) * 8) (ReadAt.of_block 1 1 1 h2 (by rfl) (by simp [intsV, Value.oneCell'])) (by simp; omega) (by simp))
  clear h2 HW1
  simp only [List.length_cons, List.length_nil, Nat.zero_add, Nat.reduceAdd] at HW2
  go_wp2_with (go_at_call 156; refine Calls.mono HW2.out ?_; rintro e w' ⟨rfl, rfl⟩)
  go_ret
  exact ⟨rfl, HP1.out.alloc _⟩
theorem limit_ok {g : Nat} (hg : Pow g) (w : World) : Calls Tryz.prog 140 #[.int .i64 g] w fun e w' => e = .returned (.int .i64 (7 * (g : Int))) ∧ w = w' := by
  have hg1 := hg.le
  have w7 : IntKind.i64.wrap (7 * (g : Int)) = 7 * (g : Int) := IntWalk.i64_in _ (by omega)
  clear hg
  go_enter Tryz.func140, Tryz.ntmps140
  go_wp2
  go_ret
  exact ⟨rfl, rfl⟩
theorem gfin {w X Y : World} {b6 : Nat} {u0 u1 v0 v1 : Value} {T : TypeId} (h6 : X.heap[b6]? = some (.cells #[u0, u1] T (0, 0))) (hp : Pure w X) (hb : w.heap.size ≤ b6) (hY : (X.setCell ⟨b6, 0, none⟩ v0).setCell ⟨b6, 1, none⟩ v1 = Y) : Pure w Y ∧ Y.cell? ⟨b6, 0, none⟩ = some v0 ∧ Y.cell? ⟨b6, 1, none⟩ = some v1 := by
  have m2 := heap_set12 (v0 := v0) (v1 := v1) h6
  have hmm : Mod (fun i => i = b6) X ((X.setCell ⟨b6, 0, none⟩ v0).setCell ⟨b6, 1, none⟩ v1) := Mod.set2 b6 0 1 _ _
  rw [hY] at m2 hmm
  exact ⟨hp.then hmm (fun i hi e => by omega), cell_of_row _ b6 0 _ _ _ m2, cell_of_row _ b6 1 _ _ _ m2⟩
/-- What is to be done before a slot number is put in: how many groups, and whether it is made again. -/
def planI (g live tombs : Nat) : Option (Nat × Bool) :=
  if live + tombs < 7 * g then some (g, false) else if 2 * live ≤ 7 * g then some (g, true) else if g < 1048576 then some (2 * g, true) else if live < 7 * g then some (g, true) else none
def planV (o : Option (Nat × Bool)) : Value := match o with
  | some x => .tuple #[.agg #[.int .i64 (x.1 : Nat), .bool x.2], .int .i64 0]
  | none => .tuple #[.agg #[.int .i64 0, .bool false], .int .i64 7]
set_option maxHeartbeats 1000000 in
theorem gInsert_ok {g live tombs : Nat} (hg : Pow g) (h : live + tombs ≤ 8 * g) (w : World) : Calls Tryz.prog 106 #[.int .i64 g, .int .i64 live, .int .i64 tombs] w fun e w' => e = .returned (planV (planI g live tombs)) ∧ Pure w w' := by
  have hg1 := hg.le
  have HC := Lib.hid (fun W => gcheck_ok hg h W)
  have HLm := Lib.hid (fun W => limit_ok hg W)
  have wl : IntKind.i64.wrap ((live : Int) + (tombs : Int)) = (live : Int) + (tombs : Int) := IntWalk.i64_in _ (by omega)
  have w2 : IntKind.i64.wrap (2 * (live : Int)) = 2 * (live : Int) := IntWalk.i64_in _ (by omega)
  have wg : IntKind.i64.wrap (2 * (g : Int)) = 2 * (g : Int) := IntWalk.i64_in _ (by omega)
  obtain ⟨r, hr⟩ : ∃ r, planI g live tombs = r := ⟨_, rfl⟩
  rw [hr]
  unfold planI at hr
  have HRr := Lib.hid hr
  clear hr hg
  go_enter Tryz.func106, Tryz.ntmps106
  go_upto_region 5 with (first
    | (go_at_call 116; refine Calls.mono (HC.out _) ?_; rintro e w1 ⟨rfl, hp1⟩)
    | (go_at_call 140; refine Calls.mono (HLm.out _) ?_; rintro e w' ⟨rfl, rfl⟩))
  have hp0 : Pure w (w.alloc (.cells #[.int .i64 0, .bool false] 112)) := (Mod.refl _ w).alloc _
  have h6 := hp1.heap (fun h => h) (heap_new (w := w) (o := .cells #[.int .i64 0, .bool false] 112 (0, 0)) rfl)
  have HP := Lib.hid (hp0.trans hp1)
  have hle := hp0.size
  clear hp0 hp1 HC HLm
  obtain ⟨b6, hb6⟩ : ∃ b6, w.heap.size = b6 := ⟨_, rfl⟩
  rw [hb6] at h6 ⊢
  have HB6 := Lib.hid hb6
  have hlt6 := lt_of_block h6
  have H6 := Lib.hid h6
  clear hb6 hle
  obtain ⟨rb, hrb⟩ : ∃ rb, decide (7 * (g : Int) ≤ (live : Int) + (tombs : Int)) = rb := ⟨_, rfl⟩
  have h10 := heap_new (w := w1) (o := .cells #[.int .i64 g, .bool rb] 112 (0, 0)) rfl
  have hp10 : Pure w1 (w1.alloc (.cells #[.int .i64 g, .bool rb] 112)) := (Mod.refl _ w1).alloc _
  have h6b := hp10.heap (fun h => h) h6
  have HP2 := Lib.hid (HP.out.trans hp10)
  have hne : w1.heap.size ≠ b6 := by omega
  clear hp10 H6 h6
  have HRB := Lib.hid hrb
  have hsz : w.heap.size ≤ w1.heap.size := Mod.size HP.out
  clear HP
  go_cut [9, 10, 6, 0, 1] (fun v9 v10 v6 v0 v1 wx => v9 = .int .i64 (7 * (g : Int)) ∧ v10 = .pointer (some ⟨w1.heap.size, 0, none⟩) ∧ v6 = .pointer (some ⟨b6, 0, none⟩) ∧ v0 = .int .i64 g ∧ v1 = .int .i64 live ∧ wx = w1.alloc (.cells #[.int .i64 g, .bool rb] 112))
  case first =>
    cases rb with
    | true =>
      have := of_decide_eq_true hrb
      go_wp2
      go_meet
      exact ⟨rfl, rfl, rfl, rfl, rfl, rfl⟩
    | false =>
      have := of_decide_eq_false hrb
      go_wp2
      go_meet
      exact ⟨rfl, rfl, rfl, rfl, rfl, rfl⟩
  case rest =>
    obtain ⟨rfl, rfl, rfl, rfl, rfl, hwc⟩ := hcut
    rw [← hwc] at h10 h6b HP2
    clear hwc hrb
    generalize w1.heap.size = b10 at *
    have hb6 : w.heap.size ≤ b6 := by have := HB6.out; omega
    have h10_0 := cell_of_row _ _ 0 _ _ _ h10; have h10_1 := cell_of_row _ _ 1 _ _ _ h10; have h10_f := (fun j => frozen_of_row _ _ j _ _ h10); have h10_l := lt_of_block h10; simp at h10_0 h10_1; have H_h10 := Lib.hid h10; clear h10
    have h6b_0 := cell_of_row _ _ 0 _ _ _ h6b; have h6b_1 := cell_of_row _ _ 1 _ _ _ h6b; have h6b_f := (fun j => frozen_of_row _ _ j _ _ h6b); have h6b_l := lt_of_block h6b; simp at h6b_0 h6b_1; have H_h6b := Lib.hid h6b; clear h6b
    have hr := HRr.out
    have hrb := HRB.out
    clear HRr HRB
    by_cases c1 : live + tombs < 7 * g
    · rw [if_pos c1] at hr
      have e1 : rb = false := by rw [← hrb]; exact decide_eq_false (by omega)
      subst hr e1
      clear hrb
      go_wp2
      obtain ⟨f1, x0, x1⟩ := gfin (v0 := .int .i64 g) (v1 := .bool false) H_h6b.out HP2.out hb6 rfl
      obtain ⟨Y, hY⟩ : ∃ Y, (wc.setCell ⟨b6, 0, none⟩ (.int .i64 g)).setCell ⟨b6, 1, none⟩ (.bool false) = Y := ⟨_, rfl⟩
      rw [hY] at f1 x0 x1 ⊢
      exact bodyPost_ret (v := .tuple #[.agg #[.int .i64 g, .bool false], .int .i64 0]) (by simp [results, Tryz.results106, go_sem, x0, x1]) rfl ⟨rfl, f1⟩
    · rw [if_neg c1] at hr
      have e1 : rb = true := by rw [← hrb]; exact decide_eq_true (by omega)
      subst e1
      clear hrb
      by_cases c2 : 2 * live ≤ 7 * g
      · rw [if_pos c2] at hr
        subst hr
        have c2' : 2 * (live : Int) ≤ 7 * (g : Int) := by omega
        go_wp2
        obtain ⟨f1, x0, x1⟩ := gfin (v0 := .int .i64 g) (v1 := .bool true) H_h6b.out HP2.out hb6 rfl
        obtain ⟨Y, hY⟩ : ∃ Y, (wc.setCell ⟨b6, 0, none⟩ (.int .i64 g)).setCell ⟨b6, 1, none⟩ (.bool true) = Y := ⟨_, rfl⟩
        rw [hY] at f1 x0 x1 ⊢
        exact bodyPost_ret (v := .tuple #[.agg #[.int .i64 g, .bool true], .int .i64 0]) (by simp [results, Tryz.results106, go_sem, x0, x1]) rfl ⟨rfl, f1⟩
      · rw [if_neg c2] at hr
        have d2 : decide (2 * (live : Int) ≤ 7 * (g : Int)) = false := decide_eq_false (by omega)
        by_cases c3 : g < 1048576
        · rw [if_pos c3] at hr
          subst hr
          have d3 : decide ((g : Int) < 1048576) = true := decide_eq_true (by omega)
          clear c1 c2 c3
          go_wp2
          have h6x := (Mod.set1 (w := wc) b10 0 (.int .i64 (2 * (g : Int)))).heap (fun e => hne e.symm) H_h6b.out
          have hpx : Pure w (wc.setCell ⟨b10, 0, none⟩ (.int .i64 (2 * (g : Int)))) := HP2.out.then (Mod.set1 b10 0 _) (fun i hi e => by omega)
          obtain ⟨f1, x0, x1⟩ := gfin (v0 := .int .i64 (2 * (g : Int))) (v1 := .bool true) h6x hpx hb6 rfl
          obtain ⟨Y, hY⟩ : ∃ Y, ((wc.setCell ⟨b10, 0, none⟩ (.int .i64 (2 * (g : Int)))).setCell ⟨b6, 0, none⟩ (.int .i64 (2 * (g : Int)))).setCell ⟨b6, 1, none⟩ (.bool true) = Y := ⟨_, rfl⟩
          rw [hY] at f1 x0 x1 ⊢
          exact bodyPost_ret (v := .tuple #[.agg #[.int .i64 (2 * (g : Int)), .bool true], .int .i64 0]) (by simp [results, Tryz.results106, go_sem, x0, x1]) rfl ⟨rfl, f1⟩
        · rw [if_neg c3] at hr
          have d3 : decide ((g : Int) < 1048576) = false := decide_eq_false (by omega)
          by_cases c4 : live < 7 * g
          · rw [if_pos c4] at hr
            subst hr
            have d4 : decide ((live : Int) < 7 * (g : Int)) = true := decide_eq_true (by omega)
            clear c1 c2 c3 c4
            go_wp2
            obtain ⟨f1, x0, x1⟩ := gfin (v0 := .int .i64 g) (v1 := .bool true) H_h6b.out HP2.out hb6 rfl
            obtain ⟨Y, hY⟩ : ∃ Y, (wc.setCell ⟨b6, 0, none⟩ (.int .i64 g)).setCell ⟨b6, 1, none⟩ (.bool true) = Y := ⟨_, rfl⟩
            rw [hY] at f1 x0 x1 ⊢
            exact bodyPost_ret (v := .tuple #[.agg #[.int .i64 g, .bool true], .int .i64 0]) (by simp [results, Tryz.results106, go_sem, x0, x1]) rfl ⟨rfl, f1⟩
          · rw [if_neg c4] at hr
            subst hr
            have d4 : decide ((live : Int) < 7 * (g : Int)) = false := decide_eq_false (by omega)
            clear c1 c2 c3 c4
            go_wp2
            obtain ⟨f1, x0, x1⟩ := gfin (v0 := .int .i64 0) (v1 := .bool false) H_h6b.out HP2.out hb6 rfl
            obtain ⟨Y, hY⟩ : ∃ Y, (wc.setCell ⟨b6, 0, none⟩ (.int .i64 0)).setCell ⟨b6, 1, none⟩ (.bool false) = Y := ⟨_, rfl⟩
            rw [hY] at f1 x0 x1 ⊢
            exact bodyPost_ret (v := .tuple #[.agg #[.int .i64 0, .bool false], .int .i64 7]) (by simp [results, Tryz.results106, go_sem, x0, x1]) rfl ⟨rfl, f1⟩
end Go.Proofs.YtapplindfijngaaGreat
