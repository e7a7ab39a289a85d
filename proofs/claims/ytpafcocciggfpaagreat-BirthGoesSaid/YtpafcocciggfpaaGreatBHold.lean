/- law12.BirthHolds: its dictionary, and what is known of it. -/
import Derived.Test.YtpafcocciggfpaaGreatBPlain
import Derived.Test.YtpafcocciggfpaaGreatDict6
import Derived.Test.YtpafcocciggfpaaGreatDict7
import Derived.Test.YtpafcocciggfpaaGreatKnown12
import Derived.Test.YtpafcocciggfpaaGreatConv
namespace Go.Proofs.YtpafcocciggfpaaGreat
open Go.RowKit Go.Shelf
set_option maxRecDepth 100000

theorem u8_of (k : Nat) (h : k ≤ 255) : (UInt8.ofNat k).toNat = k := by simp; omega
/-- Blocks of other types keep. -/
def TKeep (W W' : World) : Prop := ∀ (k : Nat) (cs : Array Value) (T : TypeId) (fz : Nat × Nat), W.heap[k]? = some (.cells cs T fz) → T ≠ 81 → T ≠ 92 → T ≠ 42 → T ≠ 187 → T ≠ 190 → W'.heap[k]? = some (.cells cs T fz)
theorem TKeep.of {w W W' : World} {D : Nat → Prop} {d seed : Nat} {same : Bool} {L : List (Option Ent)} {Gs : List Grp} (h : DictAt W D d seed same L Gs) (hm : Mod D W W') : TKeep W W' := fun k cs T fz hk t1 t2 t3 t4 t5 => by
  refine hm.heap (fun e => ?_) hk
  rcases h.types e hk with e | e | e | e | e
  · exact t1 e
  · exact t2 e
  · exact t3 e
  · exact t4 e
  · exact t5 e
theorem TKeep.pure {W W' : World} (h : Pure W W') : TKeep W W' := fun k cs T fz hk _ _ _ _ _ => h.heap (fun h => h) hk
theorem TKeep.box {W W' : World} (h : TKeep W W') {k : Nat} {cs : Array Value} {T : TypeId} (hk : W.heap[k]? = some (.cells cs T (0, 0))) (ht : T ≠ 81 ∧ T ≠ 92 ∧ T ≠ 42 ∧ T ≠ 187 ∧ T ≠ 190) : W'.heap[k]? = some (.cells cs T (0, 0)) := h k cs T _ hk ht.1 ht.2.1 ht.2.2.1 ht.2.2.2.1 ht.2.2.2.2
section
variable {w W W' : World} {d seed : Nat} {same : Bool} {L : List (Option Ent)}
theorem addsT (h : DF w W d seed same L) (key : ByteArray) (b : Int) (hok : (Ent.mk key [] 0 b).Ok) (hL : L.length < 4194304) (hf : findK L key = none) :
    Calls Tryz.prog 55 #[dPtr d, .string key, .int .u64 b] W fun e w' => e = .returned (.bool true) ∧ DF w w' d seed same (L ++ [some ⟨key, [], 0, b⟩]) ∧ TKeep W w' := by
  obtain ⟨D, Gs, h1, h2, h3⟩ := h
  refine Calls.mono (adds12_ok h1 key b hok hL hf) ?_
  rintro e w' ⟨rfl, D', Gs', g1, g2, g3⟩
  refine ⟨rfl, ⟨D', Gs', g1, h2.then g2 (fun i hi e => by have := h3 i e; omega), fun k hk => ?_⟩, TKeep.of (w := W) h1 g2⟩
  rcases g3 k hk with e | e
  · exact h3 k e
  · exact Nat.le_trans h2.size e
def rmL (L : List (Option Ent)) (s : Nat) : List (Option Ent) := if hasL L s then L.set s none else L
theorem remT (h : DF w W d seed same L) (s : Nat) (hs : s ≤ 4294967295) :
    Calls Tryz.prog 19 #[dPtr d, .int .u32 s] W fun e w' => (∃ v, e = .returned v) ∧ DF w w' d seed same (rmL L s) ∧ TKeep W w' := by
  obtain ⟨D, Gs, h1, h2, h3⟩ := h
  unfold rmL
  cases hb : hasL L s with
  | false =>
    refine Calls.mono (drem_miss h1 hs hb) ?_
    rintro e w' ⟨rfl, hp⟩
    exact ⟨⟨_, rfl⟩, ⟨D, Gs, h1.pure hp, h2.trans hp, h3⟩, TKeep.pure hp⟩
  | true =>
    obtain ⟨x, hx⟩ := hasL_iff.1 hb
    refine Calls.mono (drem_ok h1 hx) ?_
    rintro e w' ⟨a, n, c, rfl, _, _, D', g1, g2, g3⟩
    refine ⟨⟨_, rfl⟩, ⟨D', _, g1, h2.then g2 (fun i hi e => by have := h3 i e; omega), fun k hk => ?_⟩, TKeep.of (w := W) h1 g2⟩
    rcases g3 k hk with e | e
    · exact h3 k e
    · exact Nat.le_trans h2.size e
theorem compT (h : DF w W d seed same L) : Calls Tryz.prog 46 #[dPtr d] W fun e w' => ∃ d2 a n c, e = .returned (.tuple #[dPtr d2, .agg #[.slice a n c, .int .i64 L.length], .int .i64 0]) ∧ DF w w' d2 seed same (packL L) ∧ Pure W w' := by
  obtain ⟨D, Gs, h1, h2, h3⟩ := h
  refine Calls.mono (compD_ok h1) ?_
  rintro e w' ⟨d2, D2, a, c, rfl, g1, g2, g3, g4, g5⟩
  exact ⟨d2, a, _, c, rfl, ⟨D2, _, g1, h2.trans g3, fun k hk => Nat.le_trans h2.size (g4 k hk)⟩, g3⟩
theorem DF.boxed (h : DF w W d seed same L) {Sx : Nat → Prop} (hm : Mod Sx W W') {T : TypeId} (hS : ∀ k, Sx k → w.heap.size ≤ k ∧ ∃ cs fz, W.heap[k]? = some (.cells cs T fz)) (ht : T ≠ 81 ∧ T ≠ 92 ∧ T ≠ 42 ∧ T ≠ 187 ∧ T ≠ 190) (h8 : T ≠ 5) : DF w W' d seed same L := by
  obtain ⟨D, Gs, h1, h2, h3⟩ := h
  refine ⟨D, Gs, h1.frame hm (fun k hk e => ?_) (fun k _ e cs fz e2 => ?_), h2.then hm (fun i hi e => by have := (hS i e).1; omega), h3⟩
  · obtain ⟨_, cs, fz, hb⟩ := hS k e
    rcases h1.types hk hb with e | e | e | e | e
    · exact ht.1 e
    · exact ht.2.1 e
    · exact ht.2.2.1 e
    · exact ht.2.2.2.1 e
    · exact ht.2.2.2.2 e
  · obtain ⟨_, cs', fz', hb⟩ := hS k e
    rw [hb] at e2; cases e2; exact h8 rfl
end
/-! ### its log -/
def eB (last : Nat) (k : Nat) : Ent := ⟨⟨#[UInt8.ofNat k]⟩, [], 0, (last : Int) + k + 1⟩
def LB (last n : Nat) : List (Option Ent) := (List.range n).map (fun k => some (eB last k))
theorem LB_succ (last n : Nat) : LB last (n + 1) = LB last n ++ [some (eB last n)] := by simp [LB, List.range_succ]
theorem LB_length (last n : Nat) : (LB last n).length = n := by simp [LB]
theorem LB_get {last n s : Nat} {e : Ent} (h : (LB last n)[s]? = some (some e)) : s < n ∧ e = eB last s := by
  unfold LB at h
  rw [List.getElem?_map] at h
  by_cases hs : s < n
  · rw [List.getElem?_range hs] at h
    simp at h
    exact ⟨hs, h.symm⟩
  · rw [List.getElem?_eq_none (by simpa using hs)] at h; cases h
theorem LB_find {last n : Nat} (hn : n ≤ 255) : findK (LB last n) (eB last n).key = none := by
  refine findK_not (fun s e hs hk => ?_)
  obtain ⟨h1, rfl⟩ := LB_get hs
  have := congrArg (fun b : ByteArray => b.data.toList) hk
  simp [eB] at this
  have h2 := congrArg UInt8.toNat this
  rw [u8_of s (by omega), u8_of n hn] at h2
  omega
/-- Births increase with the slot numbers. -/
structure IncL (L : List (Option Ent)) : Prop where
  up : ∀ (s t : Nat) (e f : Ent), L[s]? = some (some e) → L[t]? = some (some f) → s < t → e.birth < f.birth
  lo : ∀ (s : Nat) (e : Ent), L[s]? = some (some e) → 0 < e.birth ∧ e.birth < 18446744073709551615
theorem LB_inc {last n : Nat} (hl : last ≤ 9223372036854775808) (hn : n ≤ 60) : IncL (LB last n) := by
  refine ⟨fun s t e f hs ht hlt => ?_, fun s e hs => ?_⟩
  · obtain ⟨_, rfl⟩ := LB_get hs
    obtain ⟨_, rfl⟩ := LB_get ht
    show (last : Int) + s + 1 < (last : Int) + t + 1
    omega
  · obtain ⟨h1, rfl⟩ := LB_get hs
    show 0 < (last : Int) + s + 1 ∧ (last : Int) + s + 1 < 18446744073709551615
    omega
theorem IncL.rm {L : List (Option Ent)} (h : IncL L) (s : Nat) : IncL (rmL L s) := by
  unfold rmL
  split
  · have hg : ∀ t e, (L.set s none)[t]? = some (some e) → L[t]? = some (some e) := fun t e ht => by
      have := ((liveS_set L s t).1 ⟨e, ht⟩).1
      rwa [List.getElem?_set_ne (fun c => this c.symm)] at ht
    exact ⟨fun a b e f ha hb hlt => h.up a b e f (hg a e ha) (hg b f hb) hlt, fun a e ha => h.lo a e (hg a e ha)⟩
  · exact h
theorem IncL.rms {L : List (Option Ent)} (h : IncL L) : ∀ gs : List Nat, IncL (gs.foldl rmL L)
  | [] => h
  | g :: gs => IncL.rms (h.rm g) gs
theorem IncL.inc {L : List (Option Ent)} (h : IncL L) : Inc (live L) := by
  refine ⟨?_, fun g hg => (h.lo g.1 g.2 (live_mem hg)).1, fun g hg => (h.lo g.1 g.2 (live_mem hg)).2⟩
  have hup := liveFrom_up' L 0
  rw [show liveFrom 0 L = live L from rfl, List.pairwise_map] at hup
  exact hup.imp_of_mem (fun {a b} ha hb hlt => h.up a.1 b.1 a.2 b.2 (live_mem ha) (live_mem hb) hlt)
theorem rmL_length (L : List (Option Ent)) (s : Nat) : (rmL L s).length = L.length := by unfold rmL; split <;> simp
theorem rms_length : ∀ (gs : List Nat) (L : List (Option Ent)), (gs.foldl rmL L).length = L.length
  | [], L => rfl
  | g :: gs, L => by rw [List.foldl_cons, rms_length gs, rmL_length]
end Go.Proofs.YtpafcocciggfpaaGreat
