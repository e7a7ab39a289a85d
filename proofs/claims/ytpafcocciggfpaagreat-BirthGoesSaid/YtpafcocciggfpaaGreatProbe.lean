/- probe: valid numbers of groups, the sequence, its iterator; hash.Part and Tag. -/
import Derived.Test.YtpafcocciggfpaaGreatWord
import Derived.Test.YtpafcocciggfpaaGreatRange2
namespace Go.Proofs.YtpafcocciggfpaaGreat
open Go.RowKit Go.Shelf
set_option maxRecDepth 100000
attribute [local go_sem] Oper.semAt_some

/-- An allowed number of groups. -/
def Pow (g : Nat) : Prop := ∃ k ≤ 20, g = 2 ^ k
theorem Pow.pos {g : Nat} (h : Pow g) : 0 < g := by obtain ⟨k, _, rfl⟩ := h; exact Nat.pow_pos (by decide)
theorem Pow.le {g : Nat} (h : Pow g) : g ≤ 1048576 := by obtain ⟨k, hk, rfl⟩ := h; exact Nat.pow_le_pow_right (n := 2) (by decide) hk
/-- The group that comes at an index of a probe sequence. -/
def atM (part g i : Nat) : Nat := (part + i * (i + 1) / 2) % g
def probes (part g : Nat) : List Nat := (List.range g).map (atM part g)

theorem Part_ok (s : Nat) (W : World) (hs : s < 18446744073709551616) : Calls Tryz.prog 162 #[.int .u64 s] W fun e w' => e = .returned (.int .u64 (s / 128 : Nat)) ∧ W = w' := by
  have h0 : (0 : Int) ≤ s := by omega
  have h1 : (s : Int) ≤ 18446744073709551615 := by omega
  go_enter Tryz.func162, Tryz.ntmps162
  go_wp2
  go_ret
  exact ⟨by simp, rfl⟩
theorem and_127 (s : Nat) : s &&& 127 = s % 128 := Nat.and_two_pow_sub_one_eq_mod s 7
theorem Tag_ok (s : Nat) (W : World) (hs : s < 18446744073709551616) : Calls Tryz.prog 166 #[.int .u64 s] W fun e w' => e = .returned (.int .u8 (s % 128 : Nat)) ∧ W = w' := by
  have h0 : (0 : Int) ≤ s := by omega
  have h1 : (s : Int) ≤ 18446744073709551615 := by omega
  have e1 : bits .and .u64 (s : Int) 127 = _ := bits_and64 s 127 hs (by omega)
  rw [and_127] at e1
  have e2 : ((s % 128 : Nat) : Int) % 256 = ((s % 128 : Nat) : Int) := by omega
  generalize s % 128 = t at *
  go_enter Tryz.func166, Tryz.ntmps166
  go_wp2
  go_ret
  exact ⟨by simp [e1, e2], rfl⟩

theorem bits_and63 (a b : Nat) (ha : a < 9223372036854775808) (hb : b < 9223372036854775808) : bits .and .i64 (a : Int) (b : Int) = ((a &&& b : Nat) : Int) := by
  have h : a &&& b < 2 ^ 63 := Nat.and_lt_two_pow _ hb
  show IntKind.i64.wrap (((BitVec.ofInt 64 (a : Int) &&& BitVec.ofInt 64 (b : Int)).toNat : Nat) : Int) = _
  rw [ofInt_nat, ofInt_nat]
  rw [BitVec.toNat_and, BitVec.toNat_ofNat, BitVec.toNat_ofNat, Nat.mod_eq_of_lt (by omega), Nat.mod_eq_of_lt (by omega)]
  generalize a &&& b = c at *
  simp [IntKind.wrap, IntKind.signed, IntKind.bits]
  omega
theorem pow_and : ∀ k ≤ 20, 2 ^ k &&& (2 ^ k - 1) = 0 := by decide +kernel
theorem PValid_ok (g : Nat) (W : World) (hg : Pow g) : Calls Tryz.prog 124 #[.int .i64 g] W fun e w' => e = .returned (.bool true) ∧ W = w' := by
  have h0 : (0 : Int) < g := by have := hg.pos; omega
  have h1 : (g : Int) ≤ 1048576 := by have := hg.le; omega
  have e1 : bits .and .i64 (g : Int) ((g : Int) - 1) = 0 := by
    have := bits_and63 g (g - 1) (by omega) (by omega)
    rw [show ((g - 1 : Nat) : Int) = (g : Int) - 1 by omega] at this
    rw [this]
    obtain ⟨k, hk, rfl⟩ := hg
    rw [pow_and k hk]
    rfl
  go_enter Tryz.func124, Tryz.ntmps124
  go_wp2
  all_goals go_ret
  all_goals exact ⟨rfl, rfl⟩
theorem at_walk (part g i p d q z : Nat) (W : World) (hi : i < 1048576) (hg0 : 1 ≤ g) (hg : g ≤ 1048576) (e1 : wrap64 ((i : Int) * ((i : Int) + 1)) = (p : Int)) (e2 : (p : Int).tdiv 2 = (d : Int)) (e3 : wrap64 (d : Int) = d) (e4 : IntKind.u64.wrap (d : Int) = d)
    (e5 : IntKind.u64.wrap ((part : Int) + d) = (q : Int)) (e6 : bits .and .u64 (q : Int) ((g : Int) - 1) = (z : Int)) (e7 : wrap64 (z : Int) = z) :
    Calls Tryz.prog 183 #[.int .u64 part, .int .i64 g, .int .i64 i] W fun e w' => e = .returned (.int .i64 z) ∧ W = w' := by
  have h1 : (1 : Int) ≤ g := by omega
  have h2 : (g : Int) ≤ 1048576 := by omega
  have h3 : (i : Int) < 1048576 := by omega
  go_enter Tryz.func183, Tryz.ntmps183
  go_wp2
  go_ret
  refine ⟨?_, rfl⟩
  show Ending.returned (.int .i64 (wrap64 (z : Int))) = _
  rw [e7]
theorem at_prod (i : Nat) (hi : i < 1048576) : i * (i + 1) < 1099512676352 := by
  have : i * (i + 1) ≤ 1048575 * 1048576 := Nat.mul_le_mul (by omega) (by omega)
  omega
theorem atM_and (part g i : Nat) (hg : Pow g) : (part + i * (i + 1) / 2) &&& (g - 1) = atM part g i := by
  unfold atM
  obtain ⟨k, hk, rfl⟩ := hg
  rw [Nat.and_two_pow_sub_one_eq_mod]
theorem at_ok (part g i : Nat) (W : World) (hg : Pow g) (hp : part < 144115188075855872) (hi : i < g) : Calls Tryz.prog 183 #[.int .u64 part, .int .i64 g, .int .i64 i] W fun e w' => e = .returned (.int .i64 (atM part g i)) ∧ W = w' := by
  have hg1 := hg.pos
  have hg2 := hg.le
  have hm := at_prod i (by omega)
  have hd : i * (i + 1) / 2 < 1099512676352 := by omega
  have hlt : atM part g i < g := Nat.mod_lt _ hg1
  refine at_walk part g i (i * (i + 1)) (i * (i + 1) / 2) (part + i * (i + 1) / 2) (atM part g i) W (by omega) hg1 hg2 ?_ ?_ (w64_nat _ (by omega)) (u64_wrap _ (by omega)) ?_ ?_ (w64_nat _ (by omega))
  · have := w64_nat (i * (i + 1)) (by omega)
    rwa [Int.natCast_mul, Int.natCast_add] at this
  · rw [Int.tdiv_eq_ediv_of_nonneg (Int.natCast_nonneg _)]; exact (Int.natCast_ediv _ 2).symm
  · have := u64_wrap (part + i * (i + 1) / 2) (by omega)
    rwa [Int.natCast_add] at this
  · have e6 := bits_and64 (part + i * (i + 1) / 2) (g - 1) (by omega) (by omega)
    rwa [show ((g - 1 : Nat) : Int) = (g : Int) - 1 by omega, atM_and part g i hg] at e6
theorem check_ok (g i : Nat) (W : World) (hg : Pow g) (hi : i < g) : Calls Tryz.prog 181 #[.int .i64 g, .int .i64 i] W fun e w' => e = .returned (.int .i64 0) ∧ W = w' := by
  have hq := PValid_ok g W hg
  have h0 : (0 : Int) ≤ i := by omega
  have h1 : (i : Int) < g := by omega
  have h2 : ¬ ((g : Int) ≤ i) := by omega
  go_enter Tryz.func181, Tryz.ntmps181
  go_wp2_with (go_at_call 124; go_must (refine Calls.mono hq ?_); rintro e w' ⟨rfl, rfl⟩)
  go_ret
  exact ⟨rfl, rfl⟩

/-! ### iterators over numbers -/
abbrev encN (i : Nat) : Array Value := #[.int .i64 i]
/-- What is promised of an element: it is the next one. -/
def nextOf (xs : List Nat) (pre : List Nat) (x : Nat) (_ : World) : Prop := ∃ post, xs = pre ++ x :: post

structure ProbeAt (w : World) (B1 B2 B3 part g : Nat) : Prop where
  many : w.heap[B1]? = some (.cells #[.int .i64 g] 3 (0, 0))
  part : w.heap[B2]? = some (.cells #[.int .u64 part] 22 (0, 0))
  grps : w.heap[B3]? = some (.cells #[.int .i64 g] 3 (0, 0))
def probeBlocks (B1 B2 B3 k : Nat) : Prop := k = B1 ∨ k = B2 ∨ k = B3
theorem ProbeAt.keeps {w w' : World} {B1 B2 B3 part g : Nat} (h : ProbeAt w B1 B2 B3 part g) (hk : KeepsIt (probeBlocks B1 B2 B3) w w') : ProbeAt w' B1 B2 B3 part g :=
  ⟨(hk.2 B1 (.inl rfl) (lt_of_block h.many)).trans h.many, (hk.2 B2 (.inr (.inl rfl)) (lt_of_block h.part)).trans h.part, (hk.2 B3 (.inr (.inr rfl)) (lt_of_block h.grps)).trans h.grps⟩

theorem drop_cons2 {α : Type} {L : List α} {n : Nat} {a : α} (h : L[n]? = some a) : L.drop n = a :: L.drop (n + 1) := by
  obtain ⟨hlt, rfl⟩ := List.getElem?_eq_some_iff.1 h
  exact List.drop_eq_getElem_cons hlt
theorem take_next {α : Type} {L : List α} {n : Nat} {a : α} (h : L[n]? = some a) : L.take (n + 1) = L.take n ++ [a] := by
  obtain ⟨hlt, rfl⟩ := List.getElem?_eq_some_iff.1 h
  rw [List.take_succ_eq_append_getElem hlt]
def probeInv (J : List Nat → World → Prop) (B1 B2 B3 part g : Nat) (k : Value) (wr : World) : Prop :=
  ∃ n, n ≤ g ∧ k = .int .i64 n ∧ J ((probes part g).take n) wr ∧ ProbeAt wr B1 B2 B3 part g
theorem probes_length (part g : Nat) : (probes part g).length = g := by simp [probes]
theorem probes_at (part g i : Nat) (h : i < g) : (probes part g)[i]? = some (atM part g i) := by simp [probes, h]
set_option maxHeartbeats 1000000 in
theorem Probe_iter {w : World} {B1 B2 B3 part g : Nat} (h : ProbeAt w B1 B2 B3 part g) (hg : Pow g) (hp : part < 144115188075855872) :
    IterOk Tryz.prog 182 #[.pointer (some ⟨B1, 0, none⟩), .pointer (some ⟨B2, 0, none⟩), .pointer (some ⟨B3, 0, none⟩)] encN (probeBlocks B1 B2 B3) (nextOf (probes part g)) (fun xs => xs = probes part g) w := by
  intro l J Jx W hW hJ hJx hY h0
  have hA := h.keeps (KeepsIt.of_pure hW)
  have hB := cell_of_row W B1 0 _ _ _ hA.many
  simp at hB
  have HA := Lib.hid hA
  have HY := Lib.hid hY
  have HJ := Lib.hid hJ
  have hgl := hg.le
  have HG := Lib.hid hg
  clear hA hY hJ hJx h hW hg
  refine callsIn_of_wp Tryz.func182 rfl trivial ?_ rfl
  simp only [Tryz.ntmps182, List.size_toArray, List.length_cons, List.length_nil, Nat.reduceAdd, Nat.reduceSub, Array.replicate_succ, Array.replicate_zero, List.push_toArray, List.append_toArray, List.nil_append, List.cons_append]
  gi_wp2
  gi_loopw [5, 7] (fun i k wr => probeInv J B1 B2 B3 part g k wr)
    (fun _ k _ => g - (intOf k).toNat)
  case atStart => exact ⟨0, Nat.zero_le _, rfl, h0, HA.out⟩
  case round =>
    obtain ⟨n, hn, rfl, hJs, hI⟩ := hrel
    by_cases hlt : n < g
    · have hn0 : (0 : Int) ≤ (n : Int) := by omega
      have hn1 : (n : Int) < (g : Int) := by omega
      have hn2 : n ≤ 1048576 := by omega
      have c2 := cell_of_row wr B2 0 _ _ _ hI.part
      have c3 := cell_of_row wr B3 0 _ _ _ hI.grps
      simp at c2 c3
      have he := probes_at part g n hlt
      have hdr := drop_cons2 he
      have htk : (probes part g).take (n + 1) = (probes part g).take n ++ [atM part g n] := take_next he
      obtain ⟨fn, tmps, assign, body, hy, hR⟩ := HY.out ((probes part g).take n) (atM part g n) wr hJs ⟨(probes part g).drop (n + 1), by rw [← hdr, List.take_append_drop]⟩
      dsimp only [encN] at hy
      have hRR := Lib.hid hR
      have HI := Lib.hid hI
      have HAT := Lib.hid (at_ok part g n wr HG.out hp hlt)
      have HT := Lib.hid htk
      clear hR hI hJs he hdr htk
      gi_wp2_with (gi_at_call 183; refine (callsIn_wide.2 HAT.out).mono ?_; rintro e w1 ⟨rfl, rfl⟩)
      refine hRR.out.mono ?_
      rintro e W' (⟨rfl, hJ', hk⟩ | ⟨rfl, hJx'⟩)
      · have HJ' := Lib.hid hJ'
        have HK := Lib.hid hk
        clear hJ' hk
        gi_wp2
        go_roundw
        case rel =>
          unfold probeInv
          exact ⟨n + 1, by omega, by go_num, by rw [HT.out]; exact HJ'.out, HI.out.keeps HK.out⟩
        case measure => simp [intOf]; omega
      · gi_wp2
        refine bodyPost_ret (results_none rfl _ _ _) rfl ?_
        exact ⟨⟨_, rfl⟩, .inr ⟨_, hJx'⟩⟩
    · have hend : n = g := by omega
      have hge : (g : Int) ≤ (n : Int) := by omega
      have HJS := Lib.hid hJs
      have HE := Lib.hid hend
      clear hJs hI hend
      gi_wp2
      go_end0
      refine ⟨⟨_, rfl⟩, .inl ⟨probes part g, rfl, ?_⟩⟩
      have := HJS.out
      rwa [HE.out, List.take_of_length_le (by rw [probes_length]; exact Nat.le_refl _)] at this
end Go.Proofs.YtpafcocciggfpaaGreat
