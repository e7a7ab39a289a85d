/- law07.finds and its closure. -/
import Derived.Test.YtbjiebhbmpafpaaRem2
namespace Go.Proofs.Ytbjiebhbmpafpaa
open Go.RowKit Go.Shelf
set_option maxRecDepth 100000

/-- What finds' closure asks. -/
def wanted (slot mod s : Nat) : Bool := if mod = 0 then s == slot else s % mod == 0
theorem fin1_ok {w : World} {B1 B2 mod slot : Nat} (h1 : w.heap[B1]? = some (.cells #[.int .u32 mod] 43 (0, 0))) (h2 : w.heap[B2]? = some (.cells #[.int .u32 slot] 43 (0, 0))) (s : Nat) (hs : s ≤ 4294967295) (hm : mod ≤ 4294967295) (hsl : slot ≤ 4294967295) :
    Calls Try.prog 87 #[.int .u32 s, .pointer (some ⟨B1, 0, none⟩), .pointer (some ⟨B2, 0, none⟩)] w fun e w' => e = .returned (.bool (wanted slot mod s)) ∧ w = w' := by
  have h1_0 := cell_of_row _ _ 0 _ _ _ h1; have h1_f := (fun j => frozen_of_row _ _ j _ _ h1); have h1_l := lt_of_block h1; simp at h1_0; have H_h1 := Lib.hid h1; clear h1
  have h2_0 := cell_of_row _ _ 0 _ _ _ h2; have h2_f := (fun j => frozen_of_row _ _ j _ _ h2); have h2_l := lt_of_block h2; simp at h2_0; have H_h2 := Lib.hid h2; clear h2
  have hs0 : (s : Int) ≤ 4294967295 := by omega
  have hx0 : (slot : Int) ≤ 4294967295 := by omega
  have hm0 : (mod : Int) ≤ 4294967295 := by omega
  unfold wanted
  by_cases h0 : mod = 0
  · subst h0
    have e : ((s : Int) == (slot : Int)) = (s == slot) := by rw [Bool.eq_iff_iff]; simp; omega
    go_enter Try.func87, Try.ntmps87
    go_wp2
    all_goals go_ret
    all_goals exact ⟨by simp_all, rfl⟩
  · have h1' : (1 : Int) ≤ mod := by omega
    have h2' : ((mod : Int) == 0) = false := by simp; omega
    have h3' : ((mod : Int) != 0) = true := by simp; omega
    go_enter Try.func87, Try.ntmps87
    go_wp2
    all_goals go_ret
    all_goals exact ⟨by rw [show (s % mod == 0) = (((s : Int) % (mod : Int)) == 0) by rw [Bool.eq_iff_iff]; simp; omega]; rfl, rfl⟩
/-- A contract of a closure that reads two numbers is one that find asks for. -/
theorem same_of2 {gf B1 B2 : Nat} {g : Nat → Bool} {w : World} {cs1 cs2 : Array Value} {T1 T2 : TypeId} (he : ∀ args w, (callFunc gf args).run Try.prog w = .ok (.enter gf args) w) (hB1 : B1 < w.heap.size) (hB2 : B2 < w.heap.size)
    (hb1 : w.heap[B1]? = some (.cells cs1 T1 (0, 0))) (hb2 : w.heap[B2]? = some (.cells cs2 T2 (0, 0)))
    (hc : ∀ (W : World) (s : Nat), s ≤ 4294967295 → W.heap[B1]? = some (.cells cs1 T1 (0, 0)) → W.heap[B2]? = some (.cells cs2 T2 (0, 0)) → Calls Try.prog gf #[.int .u32 s, .pointer (some ⟨B1, 0, none⟩), .pointer (some ⟨B2, 0, none⟩)] W fun e w' => e = .returned (.bool (g s)) ∧ W = w') :
    SameOk Try.prog gf #[.pointer (some ⟨B1, 0, none⟩), .pointer (some ⟨B2, 0, none⟩)] (fun _ s => g s) (fun _ => False) (fun _ W => W.heap[B1]? = some (.cells cs1 T1 (0, 0)) ∧ W.heap[B2]? = some (.cells cs2 T2 (0, 0))) w :=
  ⟨he, fun pre s W hs hJ => (callsIn_wide.2 (hc W s hs hJ.1 hJ.2)).mono (fun e w' ⟨h1, h2⟩ => by subst h2; exact ⟨h1, hJ, ModC.refl _ _⟩), fun pre A B hJ hm => ⟨hm.heap (fun hk => by have := hk.1; omega) hJ.1, hm.heap (fun hk => by have := hk.1; omega) hJ.2⟩, fun _ h => h.elim, ⟨hb1, hb2⟩⟩
/-- What Find finds, by a function of the slot number alone. -/
def fnd (Gs : List Grp) (sum : Nat) (g : Nat → Bool) : Nat × Nat := match findM Gs sum g with | some x => (slotAt Gs x, 0) | none => (0, 9)
theorem ifind_of {w w' : World} {D : Nat → Prop} {p : Nat} {sv : Value} {Gs : List Grp} {sum : Nat} {g : Nat → Bool} {J : List Nat → World → Prop} {e : Ending} (h : IFindPost w D p sv Gs sum (fun _ s => g s) (fun _ => False) J e w') :
    e = .returned (.tuple #[.int .u32 (fnd Gs sum g).1, .int .i64 (fnd Gs sum g).2]) ∧ Pure w w' ∧ IxRow w' D p sv Gs := by
  obtain ⟨h1, h2, h3⟩ := h
  refine ⟨?_, Mod.mono h1 (fun k _ ⟨_, _, _, _, hf⟩ => hf), h2⟩
  rcases h3 with ⟨a, x, post, hs, hf, hg, he, _⟩ | ⟨hf, he, _⟩
  · have : findM Gs sum g = some x := by
      unfold findM
      rw [hs, List.find?_append, List.find?_eq_none.2 (fun y hy => by
        have := falses_mem hf (slotAt Gs y) (List.mem_map.2 ⟨y, hy, rfl⟩)
        simp [this])]
      simp [hg]
    unfold fnd
    rw [this]
    exact he
  · have : findM Gs sum g = none := by
      unfold findM
      exact List.find?_eq_none.2 (fun y hy => by
        have := falses_mem hf (slotAt Gs y) (List.mem_map.2 ⟨y, hy, rfl⟩)
        simp [this])
    unfold fnd
    rw [this]
    exact he
theorem slotAt_lt {Gs : List Grp} (h : IxOk Gs) (x : Nat × Nat) : slotAt Gs x ≤ 4294967295 := by
  unfold slotAt
  by_cases hx : x.1 < Gs.length
  · exact (h.at hx).slot _
  · have : grpAt Gs x.1 = ([], []) := by unfold grpAt; rw [List.getD_eq_getElem?_getD, List.getElem?_eq_none (by omega)]; rfl
    rw [this]
    simp
theorem fnd_lt {Gs : List Grp} (h : IxOk Gs) (sum : Nat) (g : Nat → Bool) : (fnd Gs sum g).1 ≤ 4294967295 ∧ (fnd Gs sum g).2 ≤ 9 := by
  unfold fnd
  cases findM Gs sum g with
  | none => simp
  | some x => exact ⟨slotAt_lt h x, by simp⟩
def findsM (Gs : List Grp) (sum slot mod want no : Nat) : Bool := (fnd Gs sum (wanted slot mod)).1 == want && (fnd Gs sum (wanted slot mod)).2 == no
theorem finds_ok {w : World} {D : Nat → Prop} {p : Nat} {sv : Value} {Gs : List Grp} (h : IxRow w D p sv Gs) (sum slot mod want no : Nat) (hsum : sum < 18446744073709551616) (hslot : slot ≤ 4294967295) (hmod : mod ≤ 4294967295) (hwant : want ≤ 4294967295) (hno : no ≤ 100) :
    Calls Try.prog 40 #[.pointer (some ⟨p, 0, none⟩), .int .u64 sum, .int .u32 slot, .int .u32 mod, .int .u32 want, .int .i64 no] w fun e w' => e = .returned (.bool (findsM Gs sum slot mod want no)) ∧ Pure w w' ∧ IxRow w' D p sv Gs := by
  have hp1 : Pure w ((w.alloc (.cells #[.int .u32 slot] 43)).alloc (.cells #[.int .u32 mod] 43)) := ((Mod.refl _ w).alloc _).alloc _
  have hix := h.pure hp1
  have hb2 : ((w.alloc (.cells #[.int .u32 slot] 43)).alloc (.cells #[.int .u32 mod] 43)).heap[w.heap.size]? = some (.cells #[.int .u32 slot] 43 (0, 0)) := heap_keep (heap_new rfl)
  have hb1 : ((w.alloc (.cells #[.int .u32 slot] 43)).alloc (.cells #[.int .u32 mod] 43)).heap[w.heap.size + 1]? = some (.cells #[.int .u32 mod] 43 (0, 0)) := heap_new (by simp)
  obtain ⟨res, hv⟩ : ∃ res, findsM Gs sum slot mod want no = res := ⟨_, rfl⟩
  rw [hv]
  go_enter Try.func40, Try.ntmps40
  go_upto_region 1 with fail
  generalize (w.alloc (.cells #[.int .u32 slot] 43)).alloc (.cells #[.int .u32 mod] 43) = W1 at *
  generalize w.heap.size = b at *
  have HF := Lib.hid (IFind_ok hix sum hsum (same_of2 (enters_of Try.func87 (by kernel_rfl) rfl) (lt_of_block hb1) (lt_of_block hb2) hb1 hb2 (fun W s hs h1 h2 => fin1_ok (mod := mod) (slot := slot) h1 h2 s hs hmod hslot)))
  clear hb1 hb2
  have hfl := fnd_lt h.ok sum (wanted slot mod)
  unfold findsM at hv
  have HT := Lib.hid (fun (e : Ending) (w' : World) (hq : IFindPost W1 D p sv Gs sum (fun _ s => wanted slot mod s) (fun _ => False) (fun _ W => W.heap[b + 1]? = some (.cells #[.int .u32 mod] 43 (0, 0)) ∧ W.heap[b]? = some (.cells #[.int .u32 slot] 43 (0, 0))) e w') => ifind_of hq)
  generalize (fnd Gs sum (wanted slot mod)).1 = f1 at *
  generalize (fnd Gs sum (wanted slot mod)).2 = f2 at *
  go_upto_region 2 with (go_at_call 49; refine Calls.mono HF.out ?_; rintro e w2 hfp; obtain ⟨rfl, hpu, hix2⟩ := HT.out _ _ hfp; clear hfp)
  have e1 : ((f1 : Int) == (want : Int)) = (f1 == want) := by rw [Bool.eq_iff_iff]; simp; omega
  have e2 : ((f2 : Int) == (no : Int)) = (f2 == no) := by rw [Bool.eq_iff_iff]; simp; omega
  have l1 := hfl.1; have l2 := hfl.2
  go_wp2
  all_goals go_ret
  all_goals refine ⟨?_, hp1.trans hpu, hix2⟩
  all_goals rw [← hv]
  · have hc : f1 = want := by omega
    rw [hc]
    simp
  · have hc : (f1 == want) = false := by first | assumption | (simp; omega) | (simp at *; omega)
    rw [hc]
    simp
end Go.Proofs.Ytbjiebhbmpafpaa
