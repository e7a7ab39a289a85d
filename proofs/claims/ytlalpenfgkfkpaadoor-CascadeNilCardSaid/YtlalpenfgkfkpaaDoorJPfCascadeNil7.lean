/- Lemmas and contracts of functions, strung together out of 10 texts. No condition. -/
import Derived.Test.YtlalpenfgkfkpaaDoorJPfCascadeNil6
import Derived.Test.YtlalpenfgkfkpaaDoorJPfCascadeNil4
import Derived.Test.YtlalpenfgkfkpaaDoorJPfCascadeNil3
import Derived.Test.YtlalpenfgkfkpaaDoorJPfCascadeNil5
import Derived.Test.YtlalpenfgkfkpaaDoorJPfCascadeNil1
import Derived.Test.YtlalpenfgkfkpaaDoorProg
import Derived.Maps.OwnOps
import Derived.Maps.OwnSet
import Derived.Maps.Views
import Derived.WalkSpells
import Derived.Deep.RegionHeld3
/- links: All, slices.Collect of what it goes over. Conditions: the field lies in memory. -/
namespace Go.Proofs.YtlalpenfgkfkpaaDoor
open Go.RowKit Go.Shelf
set_option maxRecDepth 100000
structure NumIter (w : World) (B : Nat) (a : Option Addr) (c : Nat) (l : List Nat) : Prop where
  box : w.heap[B]? = some (.cells #[.slice a l.length c] 74 (0, 0))
  row : NumRow w a c l
def numBlocks (B : Nat) (a : Option Addr) (n c : Nat) (k : Nat) : Prop := k = B ∨ (Value.slice a n c).ownBlock = some k
theorem NumIter.keeps {w w' : World} {B : Nat} {a : Option Addr} {c : Nat} {l : List Nat} (h : NumIter w B a c l) (hk : KeepsIt (numBlocks B a l.length c) w w') : NumIter w' B a c l :=
  ⟨(hk.2 B (.inl rfl) (lt_of_block h.box)).trans h.box, owns_heap h.row (fun g hg hlt => hk.2 g (.inr hg) hlt)⟩
theorem NumIter.cell {w : World} {B : Nat} {a : Option Addr} {c : Nat} {l : List Nat} (h : NumIter w B a c l) {j x : Nat} (hx : l[j]? = some x) : ∃ g, a = some ⟨g, 0, none⟩ ∧ w.cell? ⟨g, j, none⟩ = some (.int .u32 x) := by
  have hlt := (List.getElem?_eq_some_iff.1 hx).1
  obtain ⟨g, c', hsv, _, hg, hc, hf, _⟩ := owns_at h.row (by omega)
  cases hsv
  refine ⟨g, rfl, hc _ _ ?_⟩
  unfold nums
  rw [List.getElem?_map, hx]
  rfl
def encU (x : Nat) : Array Value := #[.int .u32 x]
def numInv (J : List Nat → World → Prop) (B : Nat) (a : Option Addr) (c : Nat) (l : List Nat) (k : Value) (wr : World) : Prop :=
  ∃ pre post : List Nat, k = .int .i64 (pre.length : Nat) ∧ l = pre ++ post ∧ J pre wr ∧ NumIter wr B a c l
set_option maxHeartbeats 1000000 in
theorem Nums_iter {w : World} {B : Nat} {a : Option Addr} {c : Nat} {l : List Nat} (h : NumIter w B a c l) (hl : l.length ≤ 4194304) :
    IterOk Tryd.prog 112 #[.pointer (some ⟨B, 0, none⟩)] encU (numBlocks B a l.length c) (fun pre x _ => ∃ post, l = pre ++ x :: post) (fun xs => xs = l) w := by
  intro lb J Jx W hW hJ hJx hY h0
  have hA := h.keeps (KeepsIt.of_pure hW)
  have hB := cell_of_row W B 0 _ _ _ hA.box
  simp at hB
  have HA := Lib.hid hA
  have HY := Lib.hid hY
  clear hA hY hJ hJx h hW
  refine callsIn_of_wp Tryd.func112 rfl trivial ?_ rfl
  simp only [Tryd.ntmps112, List.size_toArray, List.length_cons, List.length_nil, Nat.reduceAdd, Nat.reduceSub, Array.replicate_succ, Array.replicate_zero, List.push_toArray, List.append_toArray, List.nil_append, List.cons_append]
  obtain ⟨n, hn⟩ : ∃ n, l.length = n := ⟨_, rfl⟩
  rw [hn] at hB hl HY
  have wn : IntKind.i64.wrap (n : Int) = n := IntWalk.i64_in _ (by omega)
  have HN := Lib.hid hn
  clear hn
  gi_wp2
  gi_loopw [7] (fun k wr => numInv J B a c l k wr) (fun k _ => n - (intOf k).toNat)
  case atStart => exact ⟨[], l, rfl, rfl, h0, HA.out⟩
  case round =>
    obtain ⟨pre, post, rfl, hpp, hJs, hI⟩ := hrel
    have hlen : pre.length + post.length = n := by rw [← HN.out, hpp, List.length_append]
    cases post with
    | nil =>
      have he : pre = l := by rw [hpp, List.append_nil]
      have HE := Lib.hid he; have HJS := Lib.hid hJs
      have hpn : n = pre.length := by simpa using hlen.symm
      have d1 : decide (pre.length < n) = false := decide_eq_false (by omega)
      have d2 : decide ((pre.length : Int) < (n : Int)) = false := decide_eq_false (by omega)
      clear hpp hlen he hI hJs hpn
      gi_wp2
      go_end0
      exact ⟨⟨_, rfl⟩, .inl ⟨pre, HE.out, HJS.out⟩⟩
    | cons x post =>
      obtain ⟨g, rfl, hc⟩ := hI.cell (j := pre.length) (x := x) (by rw [hpp]; simp)
      obtain ⟨fn, tmps, assign, body, hy, hR⟩ := HY.out pre x wr hJs ⟨post, hpp⟩
      dsimp only [encU] at hy
      have hRR := Lib.hid hR
      have HL := Lib.hid hpp; have HI := Lib.hid hI
      have hlt : pre.length < n := by simp at hlen; omega
      obtain ⟨j, hj⟩ : ∃ j, pre.length = j := ⟨_, rfl⟩
      rw [hj] at hc hlt ⊢
      have hlt' : (j : Int) < (n : Int) := by omega
      have j0 : (0 : Int) ≤ (j : Int) := by omega
      have wj : IntKind.i64.wrap ((j : Int) + 1) = (j : Int) + 1 := IntWalk.i64_in _ (by omega)
      have HJ := Lib.hid hj
      clear hpp hI hR hJs hlen hj
      gi_wp2
      refine hRR.out.mono ?_
      rintro e W' (⟨rfl, hJ', hk⟩ | ⟨rfl, hJx'⟩)
      · have HJ' := Lib.hid hJ'
        have HK := Lib.hid (HI.out.keeps (by rw [HN.out]; exact hk))
        clear hJ' hk
        gi_wp2
        go_roundw
        case rel =>
          unfold numInv
          exact ⟨pre ++ [x], post, by rw [List.length_append, HJ.out]; go_num, by rw [HL.out]; simp, HJ'.out, HK.out⟩
        case measure => simp [intOf]; omega
      · gi_wp2
        refine bodyPost_ret (results_none rfl _ _ _) rfl ?_
        exact ⟨⟨_, rfl⟩, .inr ⟨_, hJx'⟩⟩
end Go.Proofs.YtlalpenfgkfkpaaDoor

/- links: All; slices.AppendSeq and Collect of what it goes over. Conditions: the field lies in memory. -/
namespace Go.Proofs.YtlalpenfgkfkpaaDoor
open Go.RowKit Go.Shelf
set_option maxRecDepth 100000
attribute [local go_sem] Oper.semAt_some
def lallPost (w : World) (l : List Nat) (e : Ending) (w' : World) : Prop :=
  ∃ B a c, e = .returned (.func (.func 112) #[] #[.pointer (some ⟨B, 0, none⟩)]) ∧ NumIter w' B a c l ∧ Pure w w'
set_option maxHeartbeats 1000000 in
theorem lAll_ok {w : World} {D : Nat → Prop} {p N : Nat} {Ls : List (List Nat)} (h : LkAt w D p N Ls) {k : Nat} {l : List Nat} (hl : Ls[k]? = some l) (hll : l.length ≤ 4194304) : Calls Tryd.prog 91 #[lkP p, .int .i64 k] w (lallPost w l) := by
  have HA := Lib.hid (lall_ok h hl)
  obtain ⟨n, hn⟩ : ∃ n, l.length = n := ⟨_, rfl⟩
  rw [hn] at HA hll
  have HN := Lib.hid hn
  clear h hl hn
  obtain ⟨i0, hi, iz0, iz1, iz2⟩ := info_parts info_n32
  go_enter Tryd.func91, Tryd.ntmps91
  go_upto_region 2 with (first
    | (go_at_call 111; refine Calls.mono HA.out ?_; rintro e w1 ⟨a, c, rfl, hrow, hfr, hp1⟩; have hrd := num_read hrow; rw [HN.out] at hrd; have HRD := Lib.hid hrd; have HP1 := Lib.hid hp1; clear hrow hfr hp1 hrd)
    | (at_builtin; refine wpList_append_read _ rfl _ _ 74 rfl 29 i0 _ 1 4 Tryd.underlying74 hi iz0 iz1 iz2 rfl (by decide) (.slice none 0 0) 0 [] rfl (World.ownsRow_nil _ _ _ _) _ (nums l) n rfl HRD.out (by rw [nums_length, HN.out]; omega) (by unfold maxLen; omega) (by omega) ?_; intro a7 c7 w5 hr7 hg7 hb7))
  have hp5 : Pure w1 w5 := Mod.of_grown hg7 (fun k e _ => by cases e)
  have hr := hr7
  rw [Nat.zero_add, List.nil_append] at hr
  have hal : Pure w5 (w5.alloc (.cells #[.slice a7 n c7] 74)) := (Mod.refl _ w5).alloc _
  have hbx := heap_new (w := w5) (o := .cells #[.slice a7 n c7] 74 (0, 0)) rfl
  have HE : Hid (lallPost w l (.returned (.func (.func 112) #[] #[.pointer (some ⟨w5.heap.size, 0, none⟩)])) (w5.alloc (.cells #[.slice a7 n c7] 74))) := Lib.hid
    ⟨w5.heap.size, a7, c7, rfl, ⟨by rw [HN.out]; exact hbx, by unfold NumRow; rw [HN.out]; exact owns_mod hr hal (fun _ _ h => h)⟩, (HP1.out.trans hp5).trans hal⟩
  clear hr hr7 hg7 hb7 hp5 hal hbx
  go_wp2
  go_ret
  exact HE.out
structure SqInv (w : World) (l : List Nat) (pre : List Nat) (W : World) : Prop where
  pu : Pure w W
  row : ∃ a c, W.heap[w.heap.size]? = some (.cells #[.slice a pre.length c] 74 (0, 0)) ∧ NumRow W a c pre ∧ ∀ g, (Value.slice a pre.length c).ownBlock = some g → w.heap.size < g
theorem SqInv.quiet {w A B : World} {l pre : List Nat} {N : Nat} (h : SqInv w l pre A) (hN : w.heap.size ≤ N) (hq : Quiet N A B) : SqInv w l pre B := by
  obtain ⟨a, c, h1, h2, h3⟩ := h.row
  exact ⟨hq.mod h.pu hN, a, c, hq.cells h1, hq.owns h2, h3⟩
def seqPost (w : World) (l : List Nat) (e : Ending) (w' : World) : Prop := ∃ a c, e = .returned (.slice a l.length c) ∧ NumRow w' a c l ∧ FreshV w (.slice a l.length c) ∧ Pure w w'
set_option maxHeartbeats 1000000 in
theorem AppendSeq_ok {w : World} {B : Nat} {a : Option Addr} {c : Nat} {l : List Nat} (h : NumIter w B a c l) (hl : l.length ≤ 4194304) :
    Calls Tryd.prog 110 #[.slice none 0 0, .func (.func 112) #[] #[.pointer (some ⟨B, 0, none⟩)]] w (seqPost w l) := by
  have hp1 : Pure w (w.alloc (.cells #[.slice none 0 0] 74)) := (Mod.refl _ w).alloc _
  have hit := h.keeps (KeepsIt.of_pure hp1)
  have HIT := Lib.hid hit
  have hItlt0 : ∀ k, numBlocks B a l.length c k → k < w.heap.size := by
    rintro k (rfl | h2)
    · exact lt_of_block h.box
    · exact owns_lt h.row h2
  have hI0 : SqInv w l [] (w.alloc (.cells #[.slice none 0 0] 74)) := ⟨hp1, none, 0, heap_new rfl, World.ownsRow_nil _ _ _ _, fun g hg => by cases hg⟩
  have hz1 : (w.alloc (.cells #[.slice none 0 0] 74)).heap.size = w.heap.size + 1 := by simp
  clear h hit hp1
  obtain ⟨i0, hi, iz0, iz1, iz2⟩ := info_parts info_n32
  have HLL := Lib.hid hl
  clear hl
  (refine (callsIn_wide (n := 0)).1 (callsIn_of_wp_marks Tryd.func110 rfl trivial (wpIn_wide.2 ?_) rfl); simp only [Tryd.ntmps110, List.size_toArray, List.length_cons, List.length_nil, Nat.reduceAdd, Nat.reduceSub, Array.replicate_succ, Array.replicate_zero, List.push_toArray, List.append_toArray, List.nil_append, List.cons_append])
  go_upto_region 1 with fail
  generalize w.alloc (.cells #[.slice none 0 0] 74) = W1 at *
  have HI0 := Lib.hid hI0; have HZ1 := Lib.hid hz1
  clear hI0 hz1
  have hItlt : ∀ k, numBlocks B a l.length c k → k < W1.heap.size := fun k hk => by have := hItlt0 k hk; have := HZ1.out; omega
  have HIL := Lib.hid hItlt0
  clear hItlt0
  generalize hItd : numBlocks B a l.length c = It at *
  go_wp2
  refine wpIn_wide.1 (wp_range2 (gf := 112) (lb := #[.pointer (some ⟨B, 0, none⟩)]) rfl (enters_of Tryd.func112 (by kernel_rfl) rfl) (It := It) (hItd ▸ Nums_iter HIT.out HLL.out) hItlt (fun _ => rfl)
    (fun pre W => SqInv w l pre W) (fun _ _ _ => False) ?hI ?hIx HI0.out ?round ?done ?stop)
  case hI => exact fun pre A B h hq => h.quiet (by have := HZ1.out; omega) hq
  case hIx => exact fun _ _ _ _ h _ => h
  case stop => exact fun _ _ _ _ _ h _ => h.elim
  case done =>
    rintro lb xs W hlb hS hI hK
    have hS' : xs = l := hS
    subst hS'
    obtain ⟨a2, c2, h1, h2, h3⟩ := hI.row
    have HI := Lib.hid hI; have H2 := Lib.hid h2; have H3 := Lib.hid h3
    have hq : Quiet W1.heap.size _ _ := Quiet.putObj (.deferred none) hlb hK rfl
    clear hI hS h2 h3 hItlt hItd
    obtain ⟨n, hn⟩ : ∃ n, xs.length = n := ⟨_, rfl⟩
    rw [hn] at h1
    have HN := Lib.hid hn
    clear hn
    have h1_0 := cell_of_row _ _ 0 _ _ _ h1; have h1_f := (fun j => frozen_of_row _ _ j _ _ h1); have h1_l := lt_of_block h1; simp at h1_0; have H_h1 := Lib.hid h1; clear h1
    go_wp2
    exact bodyPostM_drained (v := .slice a2 n c2) hK (by simp [results, Tryd.results110, go_sem]) ⟨a2, c2, by rw [HN.out], hq.owns H2.out, fun g hg => Nat.le_of_lt (H3.out g hg), hq.mod HI.out.pu (by have := HZ1.out; omega)⟩
  case round =>
    rintro lb pre x W K hI ⟨post, hpost⟩ hK
    dsimp only [encU]
    have hpl : pre.length < 4194304 := by have := HLL.out; rw [hpost] at this; simp at this; omega
    have HCI := Lib.hid hI; have HK := Lib.hid hK
    clear hI hK hItlt hpost hItd
    gi_wp2
    refine HK.out _ _ (Mod.refl _ _) (fun l' W2 hl2 hr2 hq2 => ?_)
    have hI2 := HCI.out.quiet (by have := HZ1.out; omega) hq2
    obtain ⟨a2, c2, h1, h2, h3⟩ := hI2.row
    have HI2 := Lib.hid hI2; have HR2 := Lib.hid h2; have HF2 := Lib.hid h3
    have HW2 : Hid (w.heap.size < W2.heap.size) := Lib.hid (lt_of_block h1)
    clear hI2 h2 h3 HK HCI
    obtain ⟨j, hj⟩ : ∃ j, pre.length = j := ⟨_, rfl⟩
    rw [hj] at h1 HF2 hpl
    have hrr : W2.ownsRow 0 29 1 (.slice a2 j c2) j (nums pre) := by rw [← hj]; exact HR2.out
    have HRR := Lib.hid hrr; have HJ := Lib.hid hj
    clear hrr hj
    obtain ⟨b2, hb2⟩ : ∃ b, w.heap.size = b := ⟨_, rfl⟩
    rw [hb2] at h1 HF2 HW2 HIL HZ1 ⊢
    have HB2 := Lib.hid hb2
    clear hb2
    have h1b := h1
    have H1 := Lib.hid h1b
    clear h1b
    have h1_0 := cell_of_row _ _ 0 _ _ _ h1; have h1_f := (fun j => frozen_of_row _ _ j _ _ h1); have h1_l := lt_of_block h1; simp at h1_0; have H_h1 := Lib.hid h1; clear h1
    gi_wp2_with (gi_at_builtin; refine wpListIn_append_read _ rfl _ _ 74 rfl 29 i0 (.int .u32 0) 1 4 Tryd.underlying74 hi iz0 iz1 iz2 rfl (by decide) (.slice a2 j c2) j _ rfl (owns_mod HRR.out ((Mod.refl (fun _ => False) W2).alloc _) (fun _ _ h => h)) _ [.int .u32 x] 1 rfl (ReadAt.of_block 1 1 1 (heap_new rfl) (by rfl) (by simp [Value.oneCell'])) rfl (by unfold maxLen; omega) (by omega) ?_; intro a7 c7 w5 hr7 hg7 hb7; have M7 := Lib.hid (Mod.heap (Mod.of_grown (S := fun k => (Value.slice a2 j c2).ownBlock = some k) hg7 (fun k e _ => e)) (fun e => by have := HF2.out _ e; omega) (heap_keep H1.out)); have m7 := cell_of_row w5 _ 0 _ _ _ M7.out; have fr7 := (fun j => frozen_of_row w5 _ j _ _ M7.out); have hlt5 := lt_of_block M7.out)
    have hM : Mod (fun k => (Value.slice a2 j c2).ownBlock = some k ∨ k = b2) W2 (w5.setCell ⟨b2, 0, none⟩ (.slice a7 (j + 1) c7)) :=
      (((Mod.refl _ W2).alloc (.cells #[.int .u32 x] 29)).then (Mod.of_grown (S := fun k => (Value.slice a2 j c2).ownBlock = some k) hg7 (fun k e _ => e)) (fun _ _ h => .inl h)).setCell (fun _ => .inr rfl) _
    have h7 : ∀ g, (Value.slice a7 (j + 1) c7).ownBlock = some g → b2 < g := fun g hg => by
      rcases hb7 with e | e
      · exact HF2.out g (e ▸ hg)
      · rw [e] at hg
        have hg2 : (W2.alloc (.cells #[.int .u32 x] 29)).heap.size = g := by injection hg
        have := HW2.out
        simp at hg2
        omega
    refine ⟨KeepsRec.of_mod hM (fun k _ h o ho => ?_), KeepsIt.of_mod hM (fun k hk h => ?_), ⟨HI2.out.pu.then hM (fun k hk h => ?_), a7, c7, ?_, ?_, ?_⟩⟩
    · rcases h with h | rfl
      · obtain ⟨cur, e⟩ := owns_type HRR.out h
        rw [e] at ho; cases ho; rfl
      · rw [H1.out] at ho; cases ho; rfl
    · have := HIL.out k hk
      rcases h with h | h
      · have := HF2.out k h; omega
      · omega
    · have := HB2.out
      rcases h with h | h
      · have := HF2.out k h; omega
      · omega
    · rw [HB2.out, List.length_append, HJ.out]
      simpa using heap_setCell_same w5 b2 0 _ _ (.slice a7 (j + 1) c7) M7.out
    · unfold NumRow
      rw [List.length_append, HJ.out, nums_append]
      exact owns_mod hr7 ((Mod.refl (fun k => k = b2) w5).setCell (fun _ => rfl) _) (fun g hg e => by have := h7 g hg; omega)
    · rw [HB2.out, List.length_append, HJ.out]
      exact h7
theorem Collect_ok {w : World} {B : Nat} {a : Option Addr} {c : Nat} {l : List Nat} (h : NumIter w B a c l) (hl : l.length ≤ 4194304) :
    Calls Tryd.prog 90 #[.func (.func 112) #[] #[.pointer (some ⟨B, 0, none⟩)]] w (seqPost w l) := by
  have HA := Lib.hid (AppendSeq_ok h hl)
  obtain ⟨n, hn⟩ : ∃ n, l.length = n := ⟨_, rfl⟩
  unfold seqPost at HA
  rw [hn] at HA
  have HN := Lib.hid hn
  clear h hl hn
  go_enter Tryd.func90, Tryd.ntmps90
  go_wp2_with (go_at_call 110; refine Calls.mono HA.out ?_; rintro e w1 ⟨a2, c2, rfl, h1, h2, h3⟩)
  go_ret
  exact ⟨a2, c2, by rw [HN.out]; rfl, h1, by rw [HN.out]; exact h2, h3⟩
end Go.Proofs.YtlalpenfgkfkpaaDoor

/- wheel: List, Take, Next from 0. Conditions: the level lies in memory, the table too. -/
namespace Go.Proofs.YtlalpenfgkfkpaaDoor
open Go.RowKit
set_option maxRecDepth 100000
theorem set_self {Ls : List (List Nat)} {b : Nat} {l : List Nat} (h : Ls[b]? = some l) : Ls.set b l = Ls := by
  refine List.ext_getElem? (fun j => ?_)
  by_cases e : b = j
  · subst e; rw [List.getElem?_set_self (List.getElem?_eq_some_iff.1 h).1, h]
  · rw [List.getElem?_set_ne e]
section
variable {w w' : World} {D : Nat → Prop} {p : Nat} {Ls : List (List Nat)}
theorem WhAt.small (h : WhAt w D p Ls) {b : Nat} {l : List Nat} (hl : Ls[b]? = some l) : l.length ≤ 4194304 ∧ (∀ s ∈ l, s < 4194304) ∧ b < 256 ∧ l.Nodup := by
  have hb : b < 256 := by have := (List.getElem?_eq_some_iff.1 hl).1; rw [h.len] at this; exact this
  obtain ⟨q, many, N, Dl, h1, ⟨gF, gL, cF, cL, F, m1, m2⟩, h3, h4⟩ := h
  have := m1.nm
  exact ⟨Nat.le_trans (m1.ok.short hl) this, fun s hs => by have := (m1.ok.own b l hl s hs).1; omega, hb, m1.ok.nodup b l hl⟩
theorem wlist_ok (h : WhAt w D p Ls) {b : Nat} {l : List Nat} (hl : Ls[b]? = some l) :
    Calls Tryd.prog 65 #[lkP p, .int .i64 b] w fun e w' => ∃ a c, e = .returned (.tuple #[.slice a l.length c, .int .i64 0]) ∧ NumRow w' a c l ∧ FreshV w (.slice a l.length c) ∧ Pure w w' := by
  obtain ⟨hll, _, hb, _⟩ := h.small hl
  have HCk := Lib.hid (wcheck_ok h (s := 0) (by omega) (b := (b : Int)) (by omega) (by omega))
  obtain ⟨q, many, N, Dl, h1, h2, h3, h4⟩ := h
  have HA := Lib.hid (lAll_ok h2 hl hll)
  have HC := Lib.hid (fun (W : World) B a c (hi : NumIter W B a c l) => Collect_ok hi hll)
  obtain ⟨n, hn⟩ : ∃ n, l.length = n := ⟨_, rfl⟩
  unfold seqPost at HC
  unfold lallPost at HA
  rw [hn] at HC
  obtain ⟨c0, _, _, _⟩ := wh_cells h1
  have HN := Lib.hid hn
  clear h1 h2 h3 h4 hl hn hll
  have b0 : (0 : Int) ≤ (b : Int) := by omega
  go_enter Tryd.func65, Tryd.ntmps65
  go_wp2_with (first
    | (go_at_call 88; refine Calls.mono HCk.out ?_; rintro e w' ⟨rfl, rfl⟩)
    | (go_at_call 91; refine Calls.mono HA.out ?_; rintro e w1 ⟨B, a, c, rfl, hi, hp1⟩; have HI1 := Lib.hid hi; have HP1 := Lib.hid hp1; clear hi hp1)
    | (go_at_call 90; refine Calls.mono (HC.out _ _ _ _ HI1.out) ?_; rintro e w2 ⟨a2, c2, rfl, q1, q2, q3⟩))
  go_ret2
  exact ⟨a2, c2, by rw [HN.out]; rfl, q1, fun g hg => by rw [HN.out] at hg; have := q2 g hg; have := HP1.out.size; omega, HP1.out.trans q3⟩
def nextE (f : Nat → Bool) : Value := match firstB f 256 with
  | some b => .tuple #[.int .i64 (b : Nat), .int .i64 0]
  | none => .tuple #[.int .i64 0, .int .i64 9]
theorem wnext_ok (h : WhAt w D p Ls) (hT : TabW w) : Calls Tryd.prog 64 #[lkP p, .int .i64 0] w fun e w' => e = .returned (nextE (neB Ls)) ∧ w = w' := by
  have HCk := Lib.hid (wcheck_ok h (s := 0) (by omega) (b := 0) (by omega) (by omega))
  obtain ⟨q, many, N, Dl, h1, h2, h3, h4⟩ := h
  have HNx := Lib.hid (mnext_ok h1 hT)
  clear h1 h2 h3 h4 hT
  unfold nextV at HNx
  unfold nextE
  cases hf : firstB (neB Ls) 256 with
  | none =>
    rw [hf] at HNx
    clear hf
    have HNx2 : Hid (Calls Tryd.prog 89 #[mkP p, .int .i64 0] w fun e w' => e = .returned (.tuple #[.int .i64 0, .bool false]) ∧ w = w') := HNx
    clear HNx
    go_enter Tryd.func64, Tryd.ntmps64
    go_wp2_with (first
      | (go_at_call 88; refine Calls.mono HCk.out ?_; rintro e w' ⟨rfl, rfl⟩)
      | (go_at_call 89; refine Calls.mono HNx2.out ?_; rintro e w' ⟨rfl, rfl⟩))
    go_ret2
    exact ⟨rfl, rfl⟩
  | some b =>
    rw [hf] at HNx
    clear hf
    have HNx2 : Hid (Calls Tryd.prog 89 #[mkP p, .int .i64 0] w fun e w' => e = .returned (.tuple #[.int .i64 (b : Nat), .bool true]) ∧ w = w') := HNx
    clear HNx
    go_enter Tryd.func64, Tryd.ntmps64
    go_wp2_with (first
      | (go_at_call 88; refine Calls.mono HCk.out ?_; rintro e w' ⟨rfl, rfl⟩)
      | (go_at_call 89; refine Calls.mono HNx2.out ?_; rintro e w' ⟨rfl, rfl⟩))
    go_ret2
    exact ⟨rfl, rfl⟩
set_option maxHeartbeats 1000000 in
/-- Take: the bucket is empty behind it. -/
theorem wtake_ok (h : WhAt w D p Ls) {b : Nat} {l : List Nat} (hl : Ls[b]? = some l) :
    Calls Tryd.prog 79 #[lkP p, .int .i64 b] w fun e w' => ∃ a c, e = .returned (.tuple #[.slice a l.length c, .int .i64 0]) ∧ NumRow w' a c l ∧ FreshV w (.slice a l.length c) ∧ WhAt w' D p (Ls.set b []) ∧ Mod D w w' := by
  obtain ⟨hll, hsm, hb, _⟩ := h.small hl
  have hbl : b < Ls.length := by rw [h.len]; exact hb
  have HLi := Lib.hid (wlist_ok h hl)
  have HW := Lib.hid h; have HSM := Lib.hid hsm; have HL := Lib.hid hl; have HBL := Lib.hid hbl
  obtain ⟨n, hn⟩ : ∃ n, l.length = n := ⟨_, rfl⟩
  rw [hn] at HLi hll
  have HN := Lib.hid hn
  clear h hl hsm hn hbl
  have b0 : (0 : Int) ≤ (b : Int) := by omega
  have wn : IntKind.i64.wrap (n : Int) = n := IntWalk.i64_in _ (by omega)
  go_enter Tryd.func79, Tryd.ntmps79
  go_upto_region 3 with (go_at_call 65; refine Calls.mono HLi.out ?_; rintro e w1 ⟨a, c, rfl, hr, hf, hp⟩)
  have HW1 := Lib.hid (HW.out.pure hp)
  have HND : Hid (∀ g, (Value.slice a n c).ownBlock = some g → ¬ D g) := Lib.hid (fun g hg e => by have := hf g hg; have := HW.out.lt e; omega)
  have HFr := Lib.hid hf; have HR := Lib.hid hr; have HP := Lib.hid hp
  clear hr hf hp
  go_loopw [18] (fun v wr => ∃ j, v = .int .i64 (j : Nat) ∧ j ≤ n ∧ WhAt wr D p (Ls.set b (l.drop j)) ∧ NumRow wr a c l ∧ Mod D w wr) (fun v _ => n - (intOf v).toNat)
  case atStart =>
    refine ⟨0, rfl, Nat.zero_le _, ?_, HR.out, Mod.of_pure HP.out⟩
    rw [List.drop_zero, set_self HL.out]
    exact HW1.out
  case round =>
    obtain ⟨j, rfl, hj, hw, hr, hm⟩ := hrel
    have HWr := Lib.hid hw; have HRr := Lib.hid hr; have HMr := Lib.hid hm
    by_cases hlt : j < n
    · have hlt' : (j : Int) < (n : Int) := by omega
      have j0 : (0 : Int) ≤ (j : Int) := by omega
      have wj : IntKind.i64.wrap ((j : Int) + 1) = (j : Int) + 1 := IntWalk.i64_in _ (by omega)
      obtain ⟨y, hy⟩ : ∃ y, l[j]? = some y := ⟨_, List.getElem?_eq_getElem (by rw [HN.out]; exact hlt)⟩
      have hdr : l.drop j = y :: l.drop (j + 1) := by
        have hjl : j < l.length := by rw [HN.out]; exact hlt
        rw [List.drop_eq_getElem_cons hjl]
        rw [List.getElem?_eq_getElem hjl] at hy
        injection hy with hy
        rw [hy]
      obtain ⟨ad, had, z0⟩ := read_num (num_read hr) hy
      have hRe := wrem_ok hw (s := y) (b := b) (l := l.drop j) (HSM.out y (List.mem_of_getElem? hy)) (List.getElem?_set_self HBL.out) (by rw [hdr]; exact List.mem_cons_self)
      rw [List.set_set, hdr, List.erase_cons_head] at hRe
      have HRe := Lib.hid hRe
      subst had
      clear hy hw hr hm hdr hRe
      go_wp2_with (go_at_call 62; refine Calls.mono HRe.out ?_; rintro e w5 ⟨rfl, q1, q2⟩)
      go_roundw
      case rel => exact ⟨j + 1, by go_num, hlt, q1, owns_mod HRr.out q2 (by rw [HN.out]; exact HND.out), HMr.out.trans q2⟩
      case measure => simp [intOf]; omega
    · have e : n = j := by omega
      subst e
      have HWe : Hid (WhAt wr D p (Ls.set b [])) := Lib.hid (by have := hw; rw [List.drop_of_length_le (by rw [HN.out]; exact Nat.le_refl _)] at this; exact this)
      clear hw hr hm hj hlt
      go_wp2
      go_ret2
      exact ⟨a, c, by rw [HN.out]; rfl, HRr.out, by rw [HN.out]; exact HFr.out, HWe.out, HMr.out⟩
end
end Go.Proofs.YtlalpenfgkfkpaaDoor

/- Maps of what is timed, and of births. No condition. -/
namespace Go.Proofs.YtlalpenfgkfkpaaDoor
open Go.RowKit Go.Maps
set_option maxRecDepth 100000
/-- What is timed: a slot, its deadline, its birth. -/
structure Td where
  slot : Nat
  dl : Nat
  birth : Nat
def tdV (x : Td) : Value := .agg #[.int .u32 x.slot, .int .u64 x.dl, .int .u64 x.birth]
def tdD (x : Td) : DataW Unit := .agg [.lit (.int .u32 x.slot), .lit (.int .u64 x.dl), .lit (.int .u64 x.birth)]
def tdElem (v : Value) : Option (DataW Unit × List MemPlace) := match v with
  | .agg cs => match cs.toList with
    | [.int .u32 a, .int .u64 b, .int .u64 c] => if 0 ≤ a ∧ 0 ≤ b ∧ 0 ≤ c then some (.agg [.lit (.int .u32 a), .lit (.int .u64 b), .lit (.int .u64 c)], []) else none
    | _ => none
  | _ => none
theorem tdElem_mk (x : Td) : tdElem (tdV x) = some (tdD x, []) := by
  unfold tdElem tdV tdD
  simp
theorem tdElem_inv {v : Value} {z : DataW Unit × List MemPlace} (h : tdElem v = some z) : ∃ x, v = tdV x ∧ z = (tdD x, []) := by
  unfold tdElem at h
  split at h
  · rename_i cs
    split at h
    · rename_i a b c e
      split at h
      · rename_i hp
        injection h with h
        refine ⟨⟨a.toNat, b.toNat, c.toNat⟩, ?_, ?_⟩
        · unfold tdV
          have : cs = #[.int .u32 a, .int .u64 b, .int .u64 c] := by apply Array.ext'; exact e
          rw [this]
          simp only [Int.toNat_of_nonneg hp.1, Int.toNat_of_nonneg hp.2.1, Int.toNat_of_nonneg hp.2.2]
        · rw [← h]
          unfold tdD
          simp only [Int.toNat_of_nonneg hp.1, Int.toNat_of_nonneg hp.2.1, Int.toNat_of_nonneg hp.2.2]
      · cases h
    · cases h
  · cases h
theorem tdD_inj {x y : Td} (h : tdD x = tdD y) : x = y := by
  unfold tdD at h
  injection h with h
  injection h with h1 h
  injection h with h2 h
  injection h with h3 h
  injection h1 with h1; injection h1 with _ h1
  injection h2 with h2; injection h2 with _ h2
  injection h3 with h3; injection h3 with _ h3
  cases x; cases y
  simp only at h1 h2 h3
  rw [Int.ofNat_inj.1 h1, Int.ofNat_inj.1 h2, Int.ofNat_inj.1 h3]
def kS (s : Nat) : Lit := .int .u32 s
def kB (s : Nat) : Lit := .int .u64 s
theorem kS_inj {a b : Nat} (h : kS a = kS b) : a = b := by unfold kS at h; injection h with _ h; exact Int.ofNat_inj.1 h
theorem kB_inj {a b : Nat} (h : kB a = kB b) : a = b := by unfold kB at h; injection h with _ h; exact Int.ofNat_inj.1 h
theorem kS_key (s : Nat) : WideAt.IsKeyLit (kS s) := trivial
theorem kB_key (s : Nat) : WideAt.IsKeyLit (kB s) := trivial
theorem kS_of {s : Nat} (h : s ≤ 4294967295) : keyOf Tryd.prog 29 (.int .u32 s) = some (kS s) := keyOf_int_mk Tryd.underlying29 (by simp [Lit.wf, IntKind.min, IntKind.max, IntKind.signed, IntKind.bits]; omega)
theorem kB_of {s : Nat} (h : s ≤ 18446744073709551615) : keyOf Tryd.prog 22 (.int .u64 s) = some (kB s) := keyOf_int_mk Tryd.underlying22 (by simp [Lit.wf, IntKind.min, IntKind.max, IntKind.signed, IntKind.bits]; omega)
theorem keyedS : Keyed Tryd.prog 29 := int_keyed Tryd.underlying29
theorem keyedB : Keyed Tryd.prog 22 := int_keyed Tryd.underlying22
theorem owns_tight {H : Type} {P : Program} {k : TypeId} {R : Value → Option (DataW H × List MemPlace)} {w : World} {b n : Nat} {D : DataW H} (h : w.ownsMap P k R b n D) : w.ownsMap P k R b (Maps.size D) D := by
  obtain ⟨es, clock, hb, F, _, rfl⟩ := h
  exact ⟨es, clock, hb, F, by simp [Maps.size, length_sorted], rfl⟩
theorem owns_mod_map {H : Type} {P : Program} {k : TypeId} {R : Value → Option (DataW H × List MemPlace)} {S : Nat → Prop} {w w' : World} {b n : Nat} {D : DataW H} (h : w.ownsMap P k R b n D) (hm : Mod S w w') (hb : ¬ S b) : w'.ownsMap P k R b n D := by
  obtain ⟨es, clock, h1, h2⟩ := h
  exact ⟨es, clock, hm.heap hb h1, h2⟩
/-- Block b maps the slots of M to what is timed. -/
structure TMap (w : World) (b : Nat) (M : List Td) (D : DataW Unit) : Prop where
  own : w.ownsMap Tryd.prog 29 tdElem b M.length D
  at_ : ∀ x ∈ M, ∀ zd, D.atKey (kS x.slot) zd = tdD x
  has : ∀ s, Maps.has D (kS s) = true → ∃ x ∈ M, x.slot = s
  size : Maps.size D = M.length
/-- Block b holds the births of M. -/
structure BMap (w : World) (b : Nat) (M : List Td) (D : DataW Unit) : Prop where
  own : w.ownsMap Tryd.prog 22 unitElem b M.length D
  has : ∀ s, Maps.has D (kB s) = true ↔ ∃ x ∈ M, x.birth = s
  size : Maps.size D = M.length
section
variable {w w' : World} {b : Nat} {M : List Td} {D : DataW Unit} {S : Nat → Prop}
theorem TMap.mod (h : TMap w b M D) (hm : Mod S w w') (hb : ¬ S b) : TMap w' b M D := ⟨owns_mod_map h.own hm hb, h.at_, h.has, h.size⟩
theorem BMap.mod (h : BMap w b M D) (hm : Mod S w w') (hb : ¬ S b) : BMap w' b M D := ⟨owns_mod_map h.own hm hb, h.has, h.size⟩
theorem TMap.new (w : World) : TMap (w.alloc (.map #[] 0)) w.heap.size [] (.map []) := ⟨World.ownsMap_made _ _ _ _, (fun _ h => by cases h), (fun s h => by cases h), rfl⟩
theorem BMap.new (w : World) : BMap (w.alloc (.map #[] 0)) w.heap.size [] (.map []) := ⟨World.ownsMap_made _ _ _ _, (fun s => ⟨(fun h => by cases h), (fun ⟨x, hx, _⟩ => by cases hx)⟩), rfl⟩
theorem TMap.has_mem (h : TMap w b M D) {x : Td} (hx : x ∈ M) : Maps.has D (kS x.slot) = true := Maps.has_true_of_atKey (h.at_ x hx)
theorem TMap.not_has (h : TMap w b M D) {s : Nat} (hs : ∀ x ∈ M, x.slot ≠ s) : Maps.has D (kS s) = false := by
  cases hh : Maps.has D (kS s) with
  | false => rfl
  | true => obtain ⟨x, hx, e⟩ := h.has s hh; exact absurd e (hs x hx)
theorem zeroTd (w : World) : (zeroValue 31).run Tryd.prog w = .ok (tdV ⟨0, 0, 0⟩) w := by kernel_rfl
/-- v, ok := what[s]. -/
theorem TMap.look (h : TMap w b M D) {x : Td} (hx : x ∈ M) (hs : x.slot ≤ 4294967295) : (Instr.lookup 54 (.map (some b)) (.int .u32 x.slot) true).run Tryd.prog w = .ok (.tuple #[tdV x, .bool true]) w := by
  obtain ⟨v, ps, hrun, hv⟩ := h.own.look_ok keyedS Tryd.underlying54 (zeroTd w) (tdElem_mk _) (kS_of hs)
  rw [h.at_ x hx] at hv
  obtain ⟨y, rfl, e⟩ := tdElem_inv hv
  have := tdD_inj (congrArg Prod.fst e)
  subst this
  rw [hrun, h.has_mem hx]
theorem TMap.look_no (h : TMap w b M D) {s : Nat} (hs : s ≤ 4294967295) (hn : ∀ x ∈ M, x.slot ≠ s) : (Instr.lookup 54 (.map (some b)) (.int .u32 s) true).run Tryd.prog w = .ok (.tuple #[tdV ⟨0, 0, 0⟩, .bool false]) w := by
  obtain ⟨v, ps, hrun, hv⟩ := h.own.look_ok keyedS Tryd.underlying54 (zeroTd w) (tdElem_mk _) (kS_of hs)
  have h0 := h.not_has hn
  rw [Maps.atKey_of_not_has h0] at hv
  obtain ⟨y, rfl, e⟩ := tdElem_inv hv
  have := tdD_inj (congrArg Prod.fst e)
  subst this
  rw [hrun, h0]
theorem TMap.look1 (h : TMap w b M D) {x : Td} (hx : x ∈ M) (hs : x.slot ≤ 4294967295) : (Instr.lookup 54 (.map (some b)) (.int .u32 x.slot) false).run Tryd.prog w = .ok (tdV x) w := by
  obtain ⟨v, ps, hrun, hv⟩ := h.own.lookup keyedS Tryd.underlying54 (zeroTd w) (tdElem_mk _) (kS_of hs)
  rw [h.at_ x hx] at hv
  obtain ⟨y, rfl, e⟩ := tdElem_inv hv
  have := tdD_inj (congrArg Prod.fst e)
  subst this
  exact hrun
theorem BMap.look (h : BMap w b M D) {s : Nat} (hs : s ≤ 18446744073709551615) : (Instr.lookup 55 (.map (some b)) (.int .u64 s) true).run Tryd.prog w = .ok (.tuple #[.agg #[], .bool (Maps.has D (kB s))]) w := by
  obtain ⟨v, ps, hrun, hv⟩ := h.own.look_ok keyedB Tryd.underlying55 (z := .agg #[]) (by kernel_rfl) (unitElem_mk) (kB_of hs)
  obtain ⟨rfl, _⟩ := unitElem_inv hv
  exact hrun
/-- what[x.slot] = x, where the slot is not there. -/
theorem TMap.put {x : Td} (h : TMap w b M D) (hn : ∀ y ∈ M, y.slot ≠ x.slot) (ho : w'.ownsMap Tryd.prog 29 tdElem b (M.length + 1) (D.put (kS x.slot) (tdD x))) : TMap w' b (x :: M) (D.put (kS x.slot) (tdD x)) := by
  have hm := h.own.isMap
  refine ⟨ho, fun y hy zd => ?_, fun s hs => ?_, ?_⟩
  · rcases List.mem_cons.1 hy with rfl | hy
    · exact atKey_put_same hm (kS_key _) _ _
    · rw [atKey_put_other (fun e => hn y hy (kS_inj e))]
      exact h.at_ y hy zd
  · by_cases e : s = x.slot
    · exact ⟨x, List.mem_cons_self, e.symm⟩
    · rw [has_put_other (fun c => e (kS_inj c))] at hs
      obtain ⟨y, hy, e2⟩ := h.has s hs
      exact ⟨y, List.mem_cons_of_mem _ hy, e2⟩
  · rw [Maps.size_put (h.own.tidy keyedS), h.not_has hn, h.size]; rfl
/-- .. where just that is there. -/
theorem TMap.again {x : Td} (h : TMap w b M D) (hx : x ∈ M) (hu : ∀ y ∈ M, y.slot = x.slot → y = x) (ho : w'.ownsMap Tryd.prog 29 tdElem b (M.length + 1) (D.put (kS x.slot) (tdD x))) : TMap w' b M (D.put (kS x.slot) (tdD x)) := by
  have hm := h.own.isMap
  have hsz : Maps.size (D.put (kS x.slot) (tdD x)) = M.length := by rw [Maps.size_put (h.own.tidy keyedS), h.has_mem hx, h.size]; rfl
  refine ⟨by have := owns_tight ho; rw [hsz] at this; exact this, fun y hy zd => ?_, fun s hs => ?_, hsz⟩
  · by_cases e : y.slot = x.slot
    · rw [hu y hy e, atKey_put_same hm (kS_key _)]
    · rw [atKey_put_other (fun c => e (kS_inj c))]
      exact h.at_ y hy zd
  · by_cases e : s = x.slot
    · exact ⟨x, hx, e.symm⟩
    · rw [has_put_other (fun c => e (kS_inj c))] at hs
      exact h.has s hs
/-- delete(what, x.slot). -/
theorem TMap.del {x : Td} {M' : List Td} (h : TMap w b M D) (hx : x ∈ M) (hM : ∀ y, y ∈ M' ↔ y ∈ M ∧ y.slot ≠ x.slot) (hl : M'.length + 1 = M.length) {n : Nat} (ho : w'.ownsMap Tryd.prog 29 tdElem b n (D.del (kS x.slot))) : TMap w' b M' (D.del (kS x.slot)) := by
  have hsz : Maps.size (D.del (kS x.slot)) = M'.length := by
    have := Maps.size_del (k := kS x.slot) (h.own.tidy keyedS)
    rw [h.has_mem hx, h.size] at this
    simp at this
    omega
  refine ⟨by have := owns_tight ho; rw [hsz] at this; exact this, fun y hy zd => ?_, fun s hs => ?_, hsz⟩
  · obtain ⟨h1, h2⟩ := (hM y).1 hy
    rw [atKey_del_other (fun c => h2 (kS_inj c))]
    exact h.at_ y h1 zd
  · by_cases e : s = x.slot
    · subst e
      rw [has_del_same] at hs
      cases hs
    · rw [has_del_other (fun c => e (kS_inj c))] at hs
      obtain ⟨y, hy, e2⟩ := h.has s hs
      exact ⟨y, (hM y).2 ⟨hy, fun c => e (by rw [← e2, c])⟩, e2⟩
theorem BMap.put {x : Td} (h : BMap w b M D) (hn : ∀ y ∈ M, y.birth ≠ x.birth) (ho : w'.ownsMap Tryd.prog 22 unitElem b (M.length + 1) (D.put (kB x.birth) (.agg []))) : BMap w' b (x :: M) (D.put (kB x.birth) (.agg [])) := by
  have hm := h.own.isMap
  have h0 : Maps.has D (kB x.birth) = false := by
    cases hh : Maps.has D (kB x.birth) with
    | false => rfl
    | true => obtain ⟨y, hy, e⟩ := (h.has _).1 hh; exact absurd e (hn y hy)
  refine ⟨ho, fun s => ?_, ?_⟩
  · by_cases e : s = x.birth
    · subst e
      exact ⟨fun _ => ⟨x, List.mem_cons_self, rfl⟩, fun _ => has_put_same hm (kB_key _) _⟩
    · rw [has_put_other (fun c => e (kB_inj c)), h.has]
      constructor
      · rintro ⟨y, hy, e2⟩; exact ⟨y, List.mem_cons_of_mem _ hy, e2⟩
      · rintro ⟨y, hy, e2⟩
        rcases List.mem_cons.1 hy with rfl | hy
        · exact absurd e2.symm e
        · exact ⟨y, hy, e2⟩
  · rw [Maps.size_put (h.own.tidy keyedB), h0, h.size]; rfl
theorem BMap.again {x : Td} (h : BMap w b M D) (hx : x ∈ M) (ho : w'.ownsMap Tryd.prog 22 unitElem b (M.length + 1) (D.put (kB x.birth) (.agg []))) : BMap w' b M (D.put (kB x.birth) (.agg [])) := by
  have hm := h.own.isMap
  have h0 : Maps.has D (kB x.birth) = true := (h.has _).2 ⟨x, hx, rfl⟩
  have hsz : Maps.size (D.put (kB x.birth) (.agg [])) = M.length := by rw [Maps.size_put (h.own.tidy keyedB), h0, h.size]; rfl
  refine ⟨by have := owns_tight ho; rw [hsz] at this; exact this, fun s => ?_, hsz⟩
  by_cases e : s = x.birth
  · subst e
    exact ⟨fun _ => ⟨x, hx, rfl⟩, fun _ => has_put_same hm (kB_key _) _⟩
  · rw [has_put_other (fun c => e (kB_inj c)), h.has]
theorem BMap.del {x : Td} {M' : List Td} (h : BMap w b M D) (hx : x ∈ M) (hM : ∀ y, y ∈ M' ↔ y ∈ M ∧ y.birth ≠ x.birth) (hl : M'.length + 1 = M.length) {n : Nat} (ho : w'.ownsMap Tryd.prog 22 unitElem b n (D.del (kB x.birth))) : BMap w' b M' (D.del (kB x.birth)) := by
  have h0 : Maps.has D (kB x.birth) = true := (h.has _).2 ⟨x, hx, rfl⟩
  have hsz : Maps.size (D.del (kB x.birth)) = M'.length := by
    have := Maps.size_del (k := kB x.birth) (h.own.tidy keyedB)
    rw [h0, h.size] at this
    simp at this
    omega
  refine ⟨by have := owns_tight ho; rw [hsz] at this; exact this, fun s => ?_, hsz⟩
  by_cases e : s = x.birth
  · subst e
    rw [has_del_same]
    exact ⟨fun c => (by cases c), fun ⟨y, hy, e2⟩ => absurd e2 ((hM y).1 hy).2⟩
  · rw [has_del_other (fun c => e (kB_inj c)), h.has]
    constructor
    · rintro ⟨y, hy, e2⟩; exact ⟨y, (hM y).2 ⟨hy, fun c => e (by rw [← e2, c])⟩, e2⟩
    · rintro ⟨y, hy, e2⟩; exact ⟨y, ((hM y).1 hy).1, e2⟩
end
end Go.Proofs.YtlalpenfgkfkpaaDoor

/- cascade: the box; check, at, place. Conditions: the box lies in memory. -/
namespace Go.Proofs.YtlalpenfgkfkpaaDoor
open Go.RowKit
set_option maxRecDepth 100000
@[go_sem] theorem eql_nil_what (w : World) (r : Option Nat) : (binOp .eql 54 (.map r) (.map none)).run Tryd.prog w = .ok (.bool r.isNone) w := run_eql_map_nil w _ _ _ r Tryd.underlying54
/-- What a cascade's box holds: the time, the levels, the two maps. -/
def casC (now : Nat) (ws : List Nat) (bm bb : Nat) : List Value := .int .u64 now :: (ws.map lkP ++ [.map (some bm), .map (some bb)])
structure CasBox (w : World) (p now : Nat) (ws : List Nat) (bm bb : Nat) : Prop where
  box : w.heap[p]? = some (.cells (casC now ws bm bb).toArray 57 (0, 0))
  len : ws.length = 8
  now : now < 18446744073709551616
section
variable {w w' : World} {p now bm bb : Nat} {ws : List Nat}
theorem CasBox.mod {S : Nat → Prop} (h : CasBox w p now ws bm bb) (hm : Mod S w w') (hp : ¬ S p) : CasBox w' p now ws bm bb := ⟨hm.heap hp h.box, h.len, h.now⟩
theorem CasBox.cells (h : CasBox w p now ws bm bb) : w.cell? ⟨p, 0, none⟩ = some (.int .u64 now) ∧ w.cell? ⟨p, 9, none⟩ = some (.map (some bm)) ∧ w.cell? ⟨p, 10, none⟩ = some (.map (some bb)) ∧ (∀ i, w.frozen? ⟨p, i, none⟩ = false) ∧ p < w.heap.size := by
  have g := fun j => cell_of_row w p j _ _ (0, 0) h.box
  have hl := h.len
  refine ⟨by rw [g, List.getElem?_toArray]; rfl, ?_, ?_, fun i => frozen_of_row w p i _ _ h.box, lt_of_block h.box⟩
  · rw [g, List.getElem?_toArray]
    unfold casC
    rw [List.getElem?_cons_succ, List.getElem?_append_right (by simp; omega)]
    simp [hl]
  · rw [g, List.getElem?_toArray]
    unfold casC
    rw [List.getElem?_cons_succ, List.getElem?_append_right (by simp; omega)]
    simp [hl]
theorem CasBox.level (h : CasBox w p now ws bm bb) {l q : Nat} (hq : ws[l]? = some q) : w.cell? ⟨p, 1 + l, none⟩ = some (lkP q) := by
  rw [cell_of_row w p (1 + l) _ _ (0, 0) h.box, List.getElem?_toArray]
  unfold casC
  rw [show 1 + l = l + 1 by omega, List.getElem?_cons_succ, List.getElem?_append_left (by have := (List.getElem?_eq_some_iff.1 hq).1; simpa using this), List.getElem?_map, hq]
  rfl
theorem ccheck_ok (h : CasBox w p now ws bm bb) {s : Nat} (hs : s < 4194304) : Calls Tryd.prog 46 #[lkP p, .int .u32 s] w fun e w' => e = .returned (.int .i64 0) ∧ w = w' := by
  obtain ⟨c0, c9, c10, _, _⟩ := h.cells
  clear h
  have d1 : decide ((4194304 : Int) ≤ (s : Int)) = false := decide_eq_false (by omega)
  have d1n : decide (4194304 ≤ s) = false := decide_eq_false (by omega)
  go_enter Tryd.func46, Tryd.ntmps46
  go_wp2
  go_ret
  exact ⟨rfl, rfl⟩
theorem ccheck_arg (h : CasBox w p now ws bm bb) {s : Nat} (hs : 4194304 ≤ s) (h32 : s ≤ 4294967295) : Calls Tryd.prog 46 #[lkP p, .int .u32 s] w fun e w' => e = .returned (.int .i64 2) ∧ w = w' := by
  obtain ⟨c0, c9, c10, _, _⟩ := h.cells
  clear h
  have d1 : decide ((4194304 : Int) ≤ (s : Int)) = true := decide_eq_true (by omega)
  have d1n : decide (4194304 ≤ s) = true := decide_eq_true hs
  go_enter Tryd.func46, Tryd.ntmps46
  go_wp2
  go_ret
  exact ⟨rfl, rfl⟩
def slotE (s : Nat) : Int := if s < 4194304 then 0 else 2
theorem ccheck_any (h : CasBox w p now ws bm bb) {s : Nat} (h32 : s ≤ 4294967295) : Calls Tryd.prog 46 #[lkP p, .int .u32 s] w fun e w' => e = .returned (.int .i64 (slotE s)) ∧ w = w' := by
  unfold slotE
  by_cases hs : s < 4194304
  · rw [if_pos hs]; exact ccheck_ok h hs
  · rw [if_neg hs]; exact ccheck_arg h (by omega) h32
set_option maxHeartbeats 1000000 in
theorem cplace_ok (h : CasBox w p now ws bm bb) {dl : Nat} (hd : dl < 18446744073709551616) (hne : dl ≠ now) :
    Calls Tryd.prog 49 #[lkP p, .int .u64 dl] w fun e w' => e = .returned (.tuple #[.int .i64 (lvl now dl : Nat), .int .i64 (bkt now dl : Nat)]) ∧ Pure w w' := by
  obtain ⟨c0, _, _, _, _⟩ := h.cells
  have hn := h.now
  obtain ⟨b1, b2, b3⟩ := blen_lvl hn hd hne
  have hx : dl ^^^ now < 18446744073709551616 := Nat.xor_lt_two_pow (n := 64) hd hn
  have HLn := Lib.hid (Len64_any _ hx w)
  have hxor := bits_xor64 dl now hd hn
  have hl8 := (lvl_spec hn hd).1
  have hbk : bkt now dl = dl / 256 ^ lvl now dl % 256 := rfl
  have HBK := Lib.hid hbk
  clear h hbk hx
  generalize blen (dl ^^^ now) = bl at *
  generalize dl ^^^ now = x at *
  obtain ⟨lv, hlv⟩ : ∃ lv, lvl now dl = lv := ⟨_, rfl⟩
  obtain ⟨bk, hbk2⟩ : ∃ bk, bkt now dl = bk := ⟨_, rfl⟩
  rw [hlv] at b3 hl8 HBK
  rw [hbk2] at HBK
  have w1 : IntKind.i64.wrap ((bl : Int) - 1) = (bl : Int) - 1 := IntWalk.i64_in _ (by omega)
  have e8 : ((bl : Int) - 1) / 8 = (lv : Int) := by omega
  have w2 : wrap64 (((bl : Int) - 1) / 8) = (lv : Int) := by rw [e8]; exact w64_nat _ (by omega)
  have b0 : (0 : Int) ≤ (bl : Int) - 1 := by omega
  have HLV := Lib.hid hlv; have HB2 := Lib.hid hbk2
  clear hlv hbk2 hne
  go_enter Tryd.func49, Tryd.ntmps49
  go_upto_region 2 with (go_at_call 78; refine Calls.mono HLn.out ?_; rintro e w' ⟨rfl, rfl⟩)
  have w3 : IntKind.i64.wrap (8 * (lv : Int)) = 8 * (lv : Int) := IntWalk.i64_in _ (by omega)
  have l0 : (0 : Int) ≤ (lv : Int) := by omega
  have l1 : (lv : Int) < 8 := by omega
  have hand : bits .and .u64 ((dl : Int) / (2 : Int) ^ (8 * lv)) 255 = (bk : Int) := by
    have hq : dl / 2 ^ (8 * lv) < 18446744073709551616 := Nat.lt_of_le_of_lt (Nat.div_le_self _ _) hd
    have := bits_and64 (dl / 2 ^ (8 * lv)) 255 hq (by decide)
    rw [show (255 : Nat) = 2 ^ 8 - 1 from rfl, Nat.and_two_pow_sub_one_eq_mod] at this
    rw [HBK.out, show (256 : Nat) ^ lv = 2 ^ (8 * lv) by rw [Nat.pow_mul], ← this]
    simp
  have hbk8 : bk < 256 := by rw [HBK.out]; exact Nat.mod_lt _ (by decide)
  have wb : wrap64 (bk : Int) = (bk : Int) := w64_nat _ (by omega)
  have hend : Ending.returned (.tuple #[.int .i64 (((bl : Int) - 1) / 8), .int .i64 (bk : Int)]) = .returned (.tuple #[.int .i64 (lvl now dl : Nat), .int .i64 (bkt now dl : Nat)]) := by rw [e8, HLV.out, HB2.out]
  have HEnd := Lib.hid hend
  clear hend wb HBK hxor
  go_region
  go_wp2
  go_ret2
  exact ⟨HEnd.out, (Mod.refl _ _).drew⟩
end
end Go.Proofs.YtlalpenfgkfkpaaDoor

/- cascade: what lies in memory; put, forget. Conditions: the cascade lies in memory. -/
namespace Go.Proofs.YtlalpenfgkfkpaaDoor
open Go.RowKit
set_option maxRecDepth 100000
/-- The cascade in block p: its levels Lss, what is timed M; D: all its own blocks. -/
structure CasMem (w : World) (D : Nat → Prop) (p now : Nat) (ws : List Nat) (bm bb : Nat) (Ds : Nat → Nat → Prop) (Dm Db : DataW Unit) (M : List Td) (Lss : List (List (List Nat))) : Prop where
  box : CasBox w p now ws bm bb
  what : TMap w bm M Dm
  births : BMap w bb M Db
  len : Lss.length = 8
  lev : ∀ (l q : Nat) (Ls : List (List Nat)), ws[l]? = some q → Lss[l]? = some Ls → WhAt w (Ds l) q Ls
  apart : ∀ l l' k, l < 8 → l' < 8 → l ≠ l' → Ds l k → ¬ Ds l' k
  own : ∀ l k, l < 8 → Ds l k → k ≠ p ∧ k ≠ bm ∧ k ≠ bb
  ne : bm ≠ bb ∧ bm ≠ p ∧ bb ≠ p
  dd : ∀ k, D k ↔ (k = p ∨ k = bm ∨ k = bb ∨ ∃ l, l < 8 ∧ Ds l k)
section
variable {w w' : World} {D : Nat → Prop} {p now : Nat} {ws : List Nat} {bm bb : Nat} {Ds : Nat → Nat → Prop} {Dm Db : DataW Unit} {M : List Td} {Lss : List (List (List Nat))}
theorem CasMem.frame {S : Nat → Prop} (h : CasMem w D p now ws bm bb Ds Dm Db M Lss) (hm : Mod S w w') (hd : ∀ k, D k → ¬ S k) : CasMem w' D p now ws bm bb Ds Dm Db M Lss :=
  ⟨h.box.mod hm (hd p ((h.dd p).2 (.inl rfl))), h.what.mod hm (hd bm ((h.dd bm).2 (.inr (.inl rfl)))), h.births.mod hm (hd bb ((h.dd bb).2 (.inr (.inr (.inl rfl))))), h.len,
    fun l q Ls hq hl => (h.lev l q Ls hq hl).frame hm (fun k hk => hd k ((h.dd k).2 (.inr (.inr (.inr ⟨l, by have := (List.getElem?_eq_some_iff.1 hl).1; rw [h.len] at this; exact this, hk⟩))))), h.apart, h.own, h.ne, h.dd⟩
theorem CasMem.pure (h : CasMem w D p now ws bm bb Ds Dm Db M Lss) (hm : Pure w w') : CasMem w' D p now ws bm bb Ds Dm Db M Lss := h.frame hm (fun _ _ h => h)
theorem CasMem.lt (h : CasMem w D p now ws bm bb Ds Dm Db M Lss) {k : Nat} (hk : D k) : k < w.heap.size := by
  rcases (h.dd k).1 hk with rfl | rfl | rfl | ⟨l, hl, hk⟩
  · exact lt_of_block h.box.box
  · exact h.what.own.lt
  · exact h.births.own.lt
  · obtain ⟨q, hq⟩ : ∃ q, ws[l]? = some q := ⟨_, List.getElem?_eq_getElem (by rw [h.box.len]; exact hl)⟩
    obtain ⟨Ls, hL⟩ : ∃ Ls, Lss[l]? = some Ls := ⟨_, List.getElem?_eq_getElem (by rw [h.len]; exact hl)⟩
    exact (h.lev l q Ls hq hL).lt hk
set_option maxHeartbeats 1000000 in
/-- forget: the slot and the birth are struck out. -/
theorem cforget_ok (h : CasMem w D p now ws bm bb Ds Dm Db M Lss) {x : Td} {M' : List Td} (hx : x ∈ M) (hs : x.slot ≤ 4294967295) (hb : x.birth ≤ 18446744073709551615) (hM : ∀ y, y ∈ M' ↔ y ∈ M ∧ y.slot ≠ x.slot) (hM2 : ∀ y, y ∈ M' ↔ y ∈ M ∧ y.birth ≠ x.birth) (hl : M'.length + 1 = M.length) :
    Calls Tryd.prog 52 #[lkP p, tdV x] w fun e w' => e = .returned (.tuple #[]) ∧ (∃ Dm' Db', CasMem w' D p now ws bm bb Ds Dm' Db' M' Lss) ∧ Mod (fun k => k = bm ∨ k = bb) w w' := by
  have hal : Pure w (w.alloc (.cells #[.int .u32 x.slot, .int .u64 x.dl, .int .u64 x.birth] 31)) := (Mod.refl _ w).alloc _
  have h3 := heap_new (w := w) (o := .cells #[.int .u32 x.slot, .int .u64 x.dl, .int .u64 x.birth] 31 (0, 0)) rfl
  have HC := Lib.hid (h.pure hal)
  have n1 : bm ≠ w.heap.size := fun e => by have := h.what.own.lt; omega
  have n2 : bb ≠ w.heap.size := fun e => by have := h.births.own.lt; omega
  have HX := Lib.hid hx; have HM := Lib.hid hM; have HM2 := Lib.hid hM2; have HAL := Lib.hid hal
  obtain ⟨ne1, ne2, ne3⟩ := h.ne
  clear h hx hM hM2 hal
  unfold tdV
  go_enter Tryd.func52, Tryd.ntmps52
  go_upto_region 1 with fail
  generalize w.alloc (.cells #[.int .u32 x.slot, .int .u64 x.dl, .int .u64 x.birth] 31) = W1 at *
  generalize w.heap.size = b3 at *
  obtain ⟨c0, c9, c10, _, _⟩ := HC.out.box.cells
  have H3 := Lib.hid h3
  have h3_0 := cell_of_row _ _ 0 _ _ _ h3; have h3_1 := cell_of_row _ _ 1 _ _ _ h3; have h3_2 := cell_of_row _ _ 2 _ _ _ h3; have h3_f := (fun j => frozen_of_row _ _ j _ _ h3); have h3_l := lt_of_block h3; simp at h3_0 h3_1 h3_2; have H_h3 := Lib.hid h3; clear h3
  go_still_tail 6, (by kernel_rfl)
  go_upto_region 2 with (at_delete; refine wpList_delete_own _ rfl _ _ 54 29 rfl 31 keyedS Tryd.underlying54 tdElem bm M.length Dm rfl HC.out.what.own.drew (.int .u32 x.slot) (kS x.slot) rfl (kS_of hs) ?_; intro w2 ho2 ht2; go_frame)
  have hm2 : Mod (fun k => k = bm) W1 w2 := Mod.of_drew (Mod.of_grown ht2.grown (fun k e _ => by cases e; rfl))
  have hbx2 := HC.out.box.mod hm2 (fun e => ne2 e.symm)
  have hbi2 := HC.out.births.mod hm2 (fun e => ne1 e.symm)
  have h32 := hm2.heap (fun e => n1 e.symm) H3.out
  have hT2 := HC.out.what.del HX.out HM.out hl ho2
  have HM2' := Lib.hid hm2; have HT2 := Lib.hid hT2; have HBI2 := Lib.hid hbi2
  clear h3_0 h3_1 h3_2 h3_f h3_l
  clear H_h3 c0 c9 c10 ho2 ht2 hm2 hbi2 hT2
  obtain ⟨c0, c9, c10, _, _⟩ := hbx2.cells
  clear hbx2
  have h32_0 := cell_of_row _ _ 0 _ _ _ h32; have h32_1 := cell_of_row _ _ 1 _ _ _ h32; have h32_2 := cell_of_row _ _ 2 _ _ _ h32; have h32_f := (fun j => frozen_of_row _ _ j _ _ h32); have h32_l := lt_of_block h32; simp at h32_0 h32_1 h32_2; have H_h32 := Lib.hid h32; clear h32
  go_still_tail 6, (by kernel_rfl)
  go_wp2_with (at_delete; refine wpList_delete_own _ rfl _ _ 55 22 rfl 96 keyedB Tryd.underlying55 unitElem bb M.length Db rfl HBI2.out.own.drew (.int .u64 x.birth) (kB x.birth) rfl (kB_of hb) ?_; intro w3 ho3 ht3; go_frame)
  have hm3 : Mod (fun k => k = bb) w2 w3 := Mod.of_drew (Mod.of_grown ht3.grown (fun k e _ => by cases e; rfl))
  have hB3 := HBI2.out.del HX.out HM2.out hl ho3
  have hmm : Mod (fun k => k = bm ∨ k = bb) W1 w3 := (HM2'.out.mono (fun _ _ h => Or.inl h)).trans (hm3.mono (fun _ _ h => Or.inr h))
  go_end0
  refine ⟨rfl, ⟨_, _, HC.out.box.mod hmm (fun e => by rcases e with e | e; exact ne2 e.symm; exact ne3 e.symm), HT2.out.mod hm3 (fun e => ne1 e), hB3, HC.out.len, fun l q Ls hq hL => (HC.out.lev l q Ls hq hL).frame hmm (fun k hk e => ?_), HC.out.apart, HC.out.own, HC.out.ne, HC.out.dd⟩, (HAL.out.mono (fun _ _ h => h.elim)).trans hmm⟩
  have hl8 : l < 8 := by have := (List.getElem?_eq_some_iff.1 hL).1; rw [HC.out.len] at this; exact this
  obtain ⟨_, o2, o3⟩ := HC.out.own l k hl8 hk
  rcases e with e | e
  · exact o2 e
  · exact o3 e
end
end Go.Proofs.YtlalpenfgkfkpaaDoor

/- cascade: put. Conditions: the cascade lies in memory, the slot is in no bucket of its level. -/
namespace Go.Proofs.YtlalpenfgkfkpaaDoor
open Go.RowKit
set_option maxRecDepth 100000
section
variable {w w' : World} {D : Nat → Prop} {p now : Nat} {ws : List Nat} {bm bb : Nat} {Ds : Nat → Nat → Prop} {Dm Db : DataW Unit} {M : List Td} {Lss : List (List (List Nat))}
def setF {α : Type} (f : Nat → α) (l : Nat) (v : α) : Nat → α := fun k => if k = l then v else f k
/-- Put in level l. -/
theorem CasMem.level (h : CasMem w D p now ws bm bb Ds Dm Db M Lss) {l q : Nat} {Ls' : List (List Nat)} {D' : Nat → Prop} (hl : l < 8) (hq : ws[l]? = some q) (hw : WhAt w' D' q Ls') (hg : grewD (Ds l) D' w) (hm : Mod (Ds l) w w') :
    ∃ D2, CasMem w' D2 p now ws bm bb (setF Ds l D') Dm Db M (Lss.set l Ls') ∧ grewD D D2 w := by
  have hlt : ∀ k, D k → k < w.heap.size := fun k hk => h.lt hk
  have inD : ∀ {l' k : Nat}, l' < 8 → Ds l' k → D k := fun hl' hk => (h.dd _).2 (.inr (.inr (.inr ⟨_, hl', hk⟩)))
  have o := fun k => h.own l k hl
  refine ⟨fun k => k = p ∨ k = bm ∨ k = bb ∨ ∃ l', l' < 8 ∧ setF Ds l D' l' k, ⟨h.box.mod hm (fun e => (o p e).1 rfl), h.what.mod hm (fun e => (o bm e).2.1 rfl), h.births.mod hm (fun e => (o bb e).2.2 rfl), by rw [List.length_set]; exact h.len, fun l2 q2 Ls2 hq2 hl2 => ?_, fun l2 l3 k h2 h3 hne hk => ?_, fun l2 k h2 hk => ?_, h.ne, fun k => Iff.rfl⟩, fun k hk => ?_⟩
  · unfold setF
    by_cases e : l2 = l
    · subst e
      rw [if_pos rfl]
      rw [List.getElem?_set_self (by rw [h.len]; exact hl)] at hl2
      cases hl2
      rw [hq] at hq2
      cases hq2
      exact hw
    · rw [if_neg e]
      rw [List.getElem?_set_ne (fun c => e c.symm)] at hl2
      have hl8 : l2 < 8 := by have := (List.getElem?_eq_some_iff.1 hl2).1; rw [h.len] at this; exact this
      exact (h.lev l2 q2 Ls2 hq2 hl2).frame hm (fun k hk hk2 => h.apart l2 l k hl8 hl e hk hk2)
  · unfold setF at hk ⊢
    by_cases e : l2 = l
    · rw [if_pos e] at hk
      have e3 : l3 ≠ l := fun c => hne (by rw [e, c])
      rw [if_neg e3]
      intro hk3
      rcases hg k hk with c | c
      · exact h.apart l l3 k hl h3 (fun c => e3 c.symm) c hk3
      · have := hlt k (inD h3 hk3); omega
    · rw [if_neg e] at hk
      by_cases e3 : l3 = l
      · rw [if_pos e3]
        intro hk3
        rcases hg k hk3 with c | c
        · exact h.apart l2 l k h2 hl e hk c
        · have := hlt k (inD h2 hk); omega
      · rw [if_neg e3]
        exact h.apart l2 l3 k h2 h3 hne hk
  · unfold setF at hk
    by_cases e : l2 = l
    · rw [if_pos e] at hk
      rcases hg k hk with c | c
      · exact o k c
      · have a1 := hlt p ((h.dd p).2 (.inl rfl))
        have a2 := hlt bm ((h.dd bm).2 (.inr (.inl rfl)))
        have a3 := hlt bb ((h.dd bb).2 (.inr (.inr (.inl rfl))))
        omega
    · rw [if_neg e] at hk
      exact h.own l2 k h2 hk
  · rcases hk with e | e | e | ⟨l2, h2, hk⟩
    · exact .inl ((h.dd k).2 (.inl e))
    · exact .inl ((h.dd k).2 (.inr (.inl e)))
    · exact .inl ((h.dd k).2 (.inr (.inr (.inl e))))
    · unfold setF at hk
      by_cases e : l2 = l
      · rw [if_pos e] at hk
        rcases hg k hk with c | c
        · exact .inl (inD hl c)
        · exact .inr c
      · rw [if_neg e] at hk
        exact .inl (inD h2 hk)
end
end Go.Proofs.YtlalpenfgkfkpaaDoor

/- cascade: put. Conditions: the cascade lies in memory, the slot is in no bucket of its level. -/
namespace Go.Proofs.YtlalpenfgkfkpaaDoor
open Go.RowKit
set_option maxRecDepth 100000
section
variable {w w' : World} {D : Nat → Prop} {p now : Nat} {ws : List Nat} {bm bb : Nat} {Ds : Nat → Nat → Prop} {Dm Db : DataW Unit} {M : List Td} {Lss : List (List (List Nat))}
def putCase (M : List Td) (x : Td) (M' : List Td) : Prop := (∀ y ∈ M, y.slot ≠ x.slot) ∧ (∀ y ∈ M, y.birth ≠ x.birth) ∧ M' = x :: M ∨ x ∈ M ∧ (∀ y ∈ M, y.slot = x.slot → y = x) ∧ M' = M
theorem TMap.putC {b : Nat} {x : Td} {M' : List Td} (h : TMap w b M Dm) (hc : putCase M x M') (ho : w'.ownsMap Tryd.prog 29 tdElem b (M.length + 1) (Dm.put (kS x.slot) (tdD x))) : TMap w' b M' (Dm.put (kS x.slot) (tdD x)) := by
  rcases hc with ⟨h1, _, rfl⟩ | ⟨h1, h2, rfl⟩
  · exact h.put h1 ho
  · exact h.again h1 h2 ho
theorem BMap.putC {b : Nat} {x : Td} {M' : List Td} (h : BMap w b M Db) (hc : putCase M x M') (ho : w'.ownsMap Tryd.prog 22 unitElem b (M.length + 1) (Db.put (kB x.birth) (.agg []))) : BMap w' b M' (Db.put (kB x.birth) (.agg [])) := by
  rcases hc with ⟨_, h1, rfl⟩ | ⟨h1, h2, rfl⟩
  · exact h.put h1 ho
  · exact h.again h1 ho
set_option maxHeartbeats 2000000 in
theorem cput_ok (h : CasMem w D p now ws bm bb Ds Dm Db M Lss) {x : Td} {M' : List Td} (hs : x.slot < 4194304) (hd : x.dl < 18446744073709551616) (hb : x.birth ≤ 18446744073709551615) (hne : x.dl ≠ now) (hMl : M.length < maxLen) {Ls : List (List Nat)} {L : List Nat}
    (hL : Lss[lvl now x.dl]? = some Ls) (hK : Ls[bkt now x.dl]? = some L) (hf : ¬ inL Ls x.slot) (hc : putCase M x M') :
    Calls Tryd.prog 48 #[lkP p, tdV x] w fun e w' => e = .returned (.tuple #[]) ∧ (∃ D' Ds' Dm' Db', CasMem w' D' p now ws bm bb Ds' Dm' Db' M' (Lss.set (lvl now x.dl) (Ls.set (bkt now x.dl) (L ++ [x.slot]))) ∧ grewD D D' w) ∧ Mod D w w' := by
  have hal : Pure w (w.alloc (.cells #[.int .u32 x.slot, .int .u64 x.dl, .int .u64 x.birth] 31)) := (Mod.refl _ w).alloc _
  have h3 := heap_new (w := w) (o := .cells #[.int .u32 x.slot, .int .u64 x.dl, .int .u64 x.birth] 31 (0, 0)) rfl
  have hl8 : lvl now x.dl < 8 := (lvl_spec h.box.now hd).1
  have hbk : bkt now x.dl < 256 := bkt_lt
  obtain ⟨q, hq⟩ : ∃ q, ws[lvl now x.dl]? = some q := ⟨_, List.getElem?_eq_getElem (by rw [h.box.len]; exact hl8)⟩
  have HPl := Lib.hid (cplace_ok (h.pure hal).box hd hne)
  obtain ⟨lv, hlv⟩ : ∃ lv, lvl now x.dl = lv := ⟨_, rfl⟩
  obtain ⟨bk, hbk2⟩ : ∃ bk, bkt now x.dl = bk := ⟨_, rfl⟩
  rw [hlv] at hl8 hq hL HPl ⊢
  rw [hbk2] at hbk hK HPl ⊢
  have nD : ∀ k, D k → k ≠ w.heap.size := fun k hk e => by have := h.lt hk; omega
  have HC0 := Lib.hid h; have HC := Lib.hid (h.pure hal); have HND := Lib.hid nD; have HAL := Lib.hid hal
  have HL := Lib.hid hL; have HK := Lib.hid hK; have HF := Lib.hid hf; have HCa := Lib.hid hc; have HQ := Lib.hid hq
  clear h hal nD hL hK hf hc hq hlv hbk2 hne
  obtain ⟨ne1, ne2, ne3⟩ := HC0.out.ne
  unfold tdV
  go_enter Tryd.func48, Tryd.ntmps48
  go_upto_region 1 with fail
  generalize w.alloc (.cells #[.int .u32 x.slot, .int .u64 x.dl, .int .u64 x.birth] 31) = W1 at *
  obtain ⟨b3, hb3⟩ : ∃ b3, w.heap.size = b3 := ⟨_, rfl⟩
  rw [hb3] at h3 HND ⊢
  have HB3 := Lib.hid hb3
  have H3 := Lib.hid h3
  clear hb3
  have h3_0 := cell_of_row _ _ 0 _ _ _ h3; have h3_1 := cell_of_row _ _ 1 _ _ _ h3; have h3_2 := cell_of_row _ _ 2 _ _ _ h3; have h3_f := (fun j => frozen_of_row _ _ j _ _ h3); have h3_l := lt_of_block h3; simp at h3_0 h3_1 h3_2; have H_h3 := Lib.hid h3; clear h3
  go_upto_region 2 with (go_at_call 49; refine Calls.mono HPl.out ?_; rintro e w2 ⟨rfl, hp2⟩)
  have h32 := hp2.heap (fun h => h) H3.out
  have HC2 := Lib.hid (HC.out.pure hp2)
  have hcl := HC2.out.box.level HQ.out
  obtain ⟨c0, c9, c10, _, _⟩ := HC2.out.box.cells
  have H32 := Lib.hid h32; have HP2 := Lib.hid hp2
  clear h3_0 h3_1 h3_2 h3_f h3_l
  clear H_h3 HC hp2 HPl
  have h32_0 := cell_of_row _ _ 0 _ _ _ h32; have h32_1 := cell_of_row _ _ 1 _ _ _ h32; have h32_2 := cell_of_row _ _ 2 _ _ _ h32; have h32_f := (fun j => frozen_of_row _ _ j _ _ h32); have h32_l := lt_of_block h32; simp at h32_0 h32_1 h32_2; have H_h32 := Lib.hid h32; clear h32
  have dl8 : decide (lv < 8) = true := decide_eq_true hl8
  have l0 : (0 : Int) ≤ (lv : Int) := by omega
  have l1 : (lv : Int) < 8 := by omega
  have HPu := Lib.hid (wput_ok ((HC2.out.lev lv q Ls HQ.out HL.out).pure ((Mod.refl _ w2).drew : Pure w2 w2.drew)) hs HK.out HF.out)
  go_still_tail 9, (by kernel_rfl)
  go_upto_region 3 with (go_at_call 77; refine Calls.mono HPu.out ?_; rintro e w3 ⟨rfl, ⟨D3, hw3, hg3⟩, hm3⟩)
  have hm3' : Mod (Ds lv) w2 w3 := Mod.of_drew hm3
  have inD : ∀ k, Ds lv k → D k := fun k hk => (HC0.out.dd k).2 (.inr (.inr (.inr ⟨lv, hl8, hk⟩)))
  have hg3' : grewD (Ds lv) D3 w2 := hg3
  obtain ⟨D4, hC3, hg4⟩ := HC2.out.level hl8 HQ.out hw3 hg3' hm3'
  have h33 := hm3'.heap (fun e => HND.out b3 (inD b3 e) rfl) H32.out
  have HC3 := Lib.hid hC3; have HG4 := Lib.hid hg4; have HM3 := Lib.hid (hm3'.mono (fun k _ hk => inD k hk) : Mod D w2 w3); have H33 := Lib.hid h33
  clear h32_0 h32_1 h32_2 h32_f h32_l
  clear H_h32 hw3 hg3 hm3 hm3' inD hg3' hC3 hg4 HPu c0 c9 c10 hcl dl8
  obtain ⟨c0, c9, c10, _, _⟩ := HC3.out.box.cells
  have nb1 : bm ≠ b3 := fun e => HND.out bm ((HC0.out.dd bm).2 (.inr (.inl rfl))) e
  have nb2 : bb ≠ b3 := fun e => HND.out bb ((HC0.out.dd bb).2 (.inr (.inr (.inl rfl)))) e
  have h33_0 := cell_of_row _ _ 0 _ _ _ h33; have h33_1 := cell_of_row _ _ 1 _ _ _ h33; have h33_2 := cell_of_row _ _ 2 _ _ _ h33; have h33_f := (fun j => frozen_of_row _ _ j _ _ h33); have h33_l := lt_of_block h33; simp at h33_0 h33_1 h33_2; have H_h33 := Lib.hid h33; clear h33
  go_still_tail 7, (by kernel_rfl)
  go_upto_region 4 with (at_mapUpdate; refine wpList_mapUpdate_own _ rfl _ _ _ 54 rfl 29 31 keyedS Tryd.underlying54 tdElem bm M.length Dm rfl HC3.out.what.own.drew hMl (.int .u32 x.slot) (tdV x) (kS x.slot) rfl rfl (kS_of (by omega)) (tdD x) [] (tdElem_mk x) ?_; intro w4 ho4 hg4; go_frame)
  have hm4 : Mod (fun k => k = bm) w3 w4 := Mod.of_drew (Mod.of_grown hg4 (fun k e _ => by cases e; rfl))
  have hbx4 := HC3.out.box.mod hm4 (fun e => ne2 e.symm)
  have hT4 := HC3.out.what.putC HCa.out ho4
  have hB4 := HC3.out.births.mod hm4 (fun e => ne1 e.symm)
  have h34 := hm4.heap (fun e => nb1 e.symm) H33.out
  have HM4 := Lib.hid hm4; have HT4 := Lib.hid hT4; have HB4 := Lib.hid hB4
  clear h33_0 h33_1 h33_2 h33_f h33_l
  clear H_h33 hm4 hT4 hB4 ho4 hg4 c0 c9 c10
  obtain ⟨c0, c9, c10, _, _⟩ := hbx4.cells
  clear hbx4
  have h34_0 := cell_of_row _ _ 0 _ _ _ h34; have h34_1 := cell_of_row _ _ 1 _ _ _ h34; have h34_2 := cell_of_row _ _ 2 _ _ _ h34; have h34_f := (fun j => frozen_of_row _ _ j _ _ h34); have h34_l := lt_of_block h34; simp at h34_0 h34_1 h34_2; have H_h34 := Lib.hid h34; clear h34
  go_still_tail 7, (by kernel_rfl)
  go_wp2_with (at_mapUpdate; refine wpList_mapUpdate_own _ rfl _ _ _ 55 rfl 22 96 keyedB Tryd.underlying55 unitElem bb M.length Db rfl HB4.out.own.drew hMl (.int .u64 x.birth) (.agg #[]) (kB x.birth) rfl rfl (kB_of hb) (.agg []) [] unitElem_mk ?_; intro w5 ho5 hg5; go_frame)
  have hm5 : Mod (fun k => k = bb) w4 w5 := Mod.of_drew (Mod.of_grown hg5 (fun k e _ => by cases e; rfl))
  have hB5 := HB4.out.putC HCa.out ho5
  have hmm : Mod (fun k => k = bm ∨ k = bb) w3 w5 := (HM4.out.mono (fun _ _ h => Or.inl h)).trans (hm5.mono (fun _ _ h => Or.inr h))
  have hsz : w.heap.size ≤ w2.heap.size := (HAL.out.trans HP2.out).size
  go_end0
  refine ⟨rfl, ⟨D4, _, _, _, ⟨HC3.out.box.mod hmm (fun e => by rcases e with e | e; exact ne2 e.symm; exact ne3 e.symm), HT4.out.mod hm5 (fun e => ne1 e), hB5, HC3.out.len, fun l q Ls hq hL => (HC3.out.lev l q Ls hq hL).frame hmm (fun k hk e => ?_), HC3.out.apart, HC3.out.own, HC3.out.ne, HC3.out.dd⟩, fun k hk => ?_⟩, ?_⟩
  · have hl9 : l < 8 := by have := (List.getElem?_eq_some_iff.1 hL).1; rw [HC3.out.len] at this; exact this
    obtain ⟨_, o2, o3⟩ := HC3.out.own l k hl9 hk
    rcases e with e | e
    · exact o2 e
    · exact o3 e
  · rcases HG4.out k hk with e | e
    · exact .inl e
    · exact .inr (Nat.le_trans hsz e)
  · refine ((HAL.out.trans HP2.out).mono (fun _ _ h => h.elim) : Mod D w w2).trans (HM3.out.trans (hmm.mono (fun k _ hk => ?_)))
    rcases hk with rfl | rfl
    · exact (HC0.out.dd k).2 (.inr (.inl rfl))
    · exact (HC0.out.dd k).2 (.inr (.inr (.inl rfl)))
end
end Go.Proofs.YtlalpenfgkfkpaaDoor

/- cascade: which slot is in which bucket, by plain lists. No condition. -/
namespace Go.Proofs.YtlalpenfgkfkpaaDoor
/-- The slot s is in bucket b of level l. -/
def slotIn (Lss : List (List (List Nat))) (l b s : Nat) : Prop := ∃ Ls L, Lss[l]? = some Ls ∧ Ls[b]? = some L ∧ s ∈ L
/-- What is scheduled (M) is in its buckets at a time, but for the slots of P, which are in none. -/
structure PInv (now : Nat) (M : List Td) (P : Nat → Prop) (Lss : List (List (List Nat))) : Prop where
  len : Lss.length = 8
  wide : ∀ (l : Nat) (Ls : List (List Nat)), Lss[l]? = some Ls → Ls.length = 256
  nd : ∀ (l b : Nat) (Ls : List (List Nat)) (L : List Nat), Lss[l]? = some Ls → Ls[b]? = some L → L.Nodup
  slots : ∀ x ∈ M, ∀ y ∈ M, x.slot = y.slot → x = y
  births : ∀ x ∈ M, ∀ y ∈ M, x.birth = y.birth → x = y
  ndM : M.Nodup
  rng : ∀ x ∈ M, x.slot < 4194304 ∧ x.dl < 18446744073709551615 ∧ 0 < x.birth ∧ x.birth ≤ 18446744073709551615
  after : ∀ x ∈ M, ¬ P x.slot → now < x.dl
  at_ : ∀ l b s, slotIn Lss l b s ↔ ¬ P s ∧ ∃ x ∈ M, x.slot = s ∧ lvl now x.dl = l ∧ bkt now x.dl = b
section
variable {now tt : Nat} {M M' : List Td} {P Q : Nat → Prop} {Lss Lss' : List (List (List Nat))} {Ls : List (List Nat)} {L L' : List Nat} {lv bk : Nat} {x : Td}
theorem slotIn_set (hL : Lss[lv]? = some Ls) (hK : Ls[bk]? = some L) (l b s : Nat) : slotIn (Lss.set lv (Ls.set bk L')) l b s ↔ if l = lv ∧ b = bk then s ∈ L' else slotIn Lss l b s := by
  have hl := (List.getElem?_eq_some_iff.1 hL).1
  have hb := (List.getElem?_eq_some_iff.1 hK).1
  unfold slotIn
  by_cases e1 : l = lv
  · subst e1
    rw [List.getElem?_set_self hl]
    by_cases e2 : b = bk
    · subst e2
      rw [if_pos ⟨rfl, rfl⟩]
      constructor
      · rintro ⟨A, B, h1, h2, h3⟩
        cases h1
        rw [List.getElem?_set_self hb] at h2
        cases h2
        exact h3
      · intro h
        exact ⟨_, _, rfl, List.getElem?_set_self hb, h⟩
    · rw [if_neg (fun c => e2 c.2)]
      constructor
      · rintro ⟨A, B, h1, h2, h3⟩
        cases h1
        rw [List.getElem?_set_ne (fun c => e2 c.symm)] at h2
        exact ⟨_, _, hL, h2, h3⟩
      · rintro ⟨A, B, h1, h2, h3⟩
        rw [hL] at h1
        cases h1
        exact ⟨_, _, rfl, by rw [List.getElem?_set_ne (fun c => e2 c.symm)]; exact h2, h3⟩
  · rw [if_neg (fun c => e1 c.1), List.getElem?_set_ne (fun c => e1 c.symm)]
theorem set_shape (hL : Lss[lv]? = some Ls) (h1 : ∀ (l : Nat) (A : List (List Nat)), Lss[l]? = some A → A.length = 256) {Ls' : List (List Nat)} (h2 : Ls'.length = 256) (l : Nat) (A : List (List Nat)) (h : (Lss.set lv Ls')[l]? = some A) : A.length = 256 := by
  have hl := (List.getElem?_eq_some_iff.1 hL).1
  by_cases e1 : l = lv
  · subst e1
    rw [List.getElem?_set_self hl] at h
    cases h
    exact h2
  · rw [List.getElem?_set_ne (fun c => e1 c.symm)] at h
    exact h1 l A h
theorem set_nd (hL : Lss[lv]? = some Ls) (hK : Ls[bk]? = some L) (h1 : ∀ (l b : Nat) (A : List (List Nat)) (B : List Nat), Lss[l]? = some A → A[b]? = some B → B.Nodup) (h2 : L'.Nodup) (l b : Nat) (A : List (List Nat)) (B : List Nat) (hA : (Lss.set lv (Ls.set bk L'))[l]? = some A) (hB : A[b]? = some B) : B.Nodup := by
  have hl := (List.getElem?_eq_some_iff.1 hL).1
  have hb := (List.getElem?_eq_some_iff.1 hK).1
  by_cases e1 : l = lv
  · subst e1
    rw [List.getElem?_set_self hl] at hA
    cases hA
    by_cases e2 : b = bk
    · subst e2
      rw [List.getElem?_set_self hb] at hB
      cases hB
      exact h2
    · rw [List.getElem?_set_ne (fun c => e2 c.symm)] at hB
      exact h1 l b _ _ hL hB
  · rw [List.getElem?_set_ne (fun c => e1 c.symm)] at hA
    exact h1 l b A B hA hB
theorem PInv.get (h : PInv now M P Lss) (h1 : lv < 8) (h2 : bk < 256) : ∃ Ls L, Lss[lv]? = some Ls ∧ Ls[bk]? = some L := by
  obtain ⟨Ls, hL⟩ : ∃ Ls, Lss[lv]? = some Ls := ⟨_, List.getElem?_eq_getElem (by rw [h.len]; exact h1)⟩
  exact ⟨Ls, _, hL, List.getElem?_eq_getElem (by rw [h.wide lv Ls hL]; exact h2)⟩
theorem PInv.uniq (h : PInv now M P Lss) {l b l' b' s : Nat} (h1 : slotIn Lss l b s) (h2 : slotIn Lss l' b' s) : l = l' ∧ b = b' := by
  obtain ⟨_, x, hx, e1, e2, e3⟩ := (h.at_ _ _ _).1 h1
  obtain ⟨_, y, hy, f1, f2, f3⟩ := (h.at_ _ _ _).1 h2
  have := h.slots x hx y hy (by rw [e1, f1])
  subst this
  exact ⟨by rw [← e2, f2], by rw [← e3, f3]⟩
theorem PInv.out (h : PInv now M P Lss) {s : Nat} (hp : ∀ y ∈ M, y.slot = s → P s) (l b : Nat) : ¬ slotIn Lss l b s := fun c => by
  obtain ⟨h1, y, hy, e, _⟩ := (h.at_ _ _ _).1 c
  exact h1 (hp y hy e)
theorem PInv.notL (h : PInv now M P Lss) {s : Nat} (hp : ∀ y ∈ M, y.slot = s → P s) (hL : Lss[lv]? = some Ls) : ¬ inL Ls s := fun ⟨b, l, h1, h2⟩ => h.out hp lv b ⟨Ls, l, hL, h1, h2⟩
theorem PInv.put (h : PInv now M P Lss) (hc : putCase M x M') (hn : now < x.dl) (hr : x.slot < 4194304 ∧ x.dl < 18446744073709551615 ∧ 0 < x.birth ∧ x.birth ≤ 18446744073709551615) (hp : ∀ y ∈ M, y.slot = x.slot → P x.slot)
    (hL : Lss[lvl now x.dl]? = some Ls) (hK : Ls[bkt now x.dl]? = some L) (hQ : ∀ s, Q s ↔ P s ∧ s ≠ x.slot) : PInv now M' Q (Lss.set (lvl now x.dl) (Ls.set (bkt now x.dl) (L ++ [x.slot]))) := by
  have hmem : ∀ y, y ∈ M' ↔ y = x ∨ y ∈ M := fun y => by
    rcases hc with ⟨_, _, rfl⟩ | ⟨h1, _, rfl⟩
    · exact List.mem_cons
    · exact ⟨.inr, fun e => by rcases e with rfl | e; exact h1; exact e⟩
  have hu : ∀ y ∈ M', y.slot = x.slot → y = x := fun y hy e => by
    rcases hc with ⟨h1, _, rfl⟩ | ⟨_, h2, rfl⟩
    · rcases List.mem_cons.1 hy with rfl | hy
      · rfl
      · exact absurd e (h1 y hy)
    · exact h2 y hy e
  have hout := h.out hp
  refine ⟨by rw [List.length_set]; exact h.len, set_shape hL h.wide (by rw [List.length_set]; exact h.wide _ _ hL), set_nd hL hK h.nd ?_, ?_, ?_, ?_, ?_, ?_, fun l b s => ?_⟩
  · rw [List.nodup_append]
    refine ⟨h.nd _ _ _ _ hL hK, by simp, fun a ha b hb e => ?_⟩
    rw [List.mem_singleton] at hb
    subst hb
    subst e
    exact hout _ _ ⟨Ls, L, hL, hK, ha⟩
  · intro a ha b hb e
    rcases (hmem a).1 ha with rfl | ha2
    · exact (hu b hb e.symm).symm
    · rcases (hmem b).1 hb with rfl | hb2
      · exact hu a ha e
      · exact h.slots a ha2 b hb2 e
  · rcases hc with ⟨_, h2, rfl⟩ | ⟨_, _, rfl⟩
    · intro a ha b hb e
      rcases List.mem_cons.1 ha with ea | ha'
      · rcases List.mem_cons.1 hb with eb | hb'
        · rw [ea, eb]
        · exact absurd (by rw [← e, ea]) (h2 b hb')
      · rcases List.mem_cons.1 hb with eb | hb'
        · exact absurd (by rw [e, eb]) (h2 a ha')
        · exact h.births a ha' b hb' e
    · exact h.births
  · rcases hc with ⟨h1, _, rfl⟩ | ⟨_, _, rfl⟩
    · exact List.nodup_cons.2 ⟨fun c => h1 x c rfl, h.ndM⟩
    · exact h.ndM
  · intro y hy
    rcases (hmem y).1 hy with rfl | hy
    · exact hr
    · exact h.rng y hy
  · intro y hy hq
    by_cases e : y.slot = x.slot
    · rw [hu y hy e]; exact hn
    · rcases (hmem y).1 hy with rfl | hy
      · exact hn
      · exact h.after y hy (fun c => hq ((hQ _).2 ⟨c, e⟩))
  · rw [slotIn_set hL hK]
    by_cases e : s = x.slot
    · subst e
      have hq : ¬ Q x.slot := fun c => ((hQ _).1 c).2 rfl
      by_cases c : l = lvl now x.dl ∧ b = bkt now x.dl
      · rw [if_pos c]
        exact ⟨fun _ => ⟨hq, x, (hmem x).2 (.inl rfl), rfl, c.1.symm, c.2.symm⟩, fun _ => List.mem_append_right _ List.mem_cons_self⟩
      · rw [if_neg c]
        refine ⟨fun k => absurd k (hout _ _), fun ⟨_, y, hy, e1, e2, e3⟩ => absurd ?_ c⟩
        have := hu y hy e1
        subst this
        exact ⟨e2.symm, e3.symm⟩
    · have hqp : Q s ↔ P s := ⟨fun c => ((hQ s).1 c).1, fun c => (hQ s).2 ⟨c, e⟩⟩
      have h1 : (if l = lvl now x.dl ∧ b = bkt now x.dl then s ∈ L ++ [x.slot] else slotIn Lss l b s) ↔ slotIn Lss l b s := by
        by_cases c : l = lvl now x.dl ∧ b = bkt now x.dl
        · rw [if_pos c, List.mem_append, List.mem_singleton, c.1, c.2]
          refine ⟨fun k => ?_, fun ⟨A, B, a1, a2, a3⟩ => ?_⟩
          · rcases k with k | k
            · exact ⟨Ls, L, hL, hK, k⟩
            · exact absurd k e
          · rw [hL] at a1; cases a1
            rw [hK] at a2; cases a2
            exact .inl a3
        · rw [if_neg c]
      rw [h1, h.at_, hqp]
      refine and_congr_right (fun _ => ⟨fun ⟨y, hy, k⟩ => ⟨y, (hmem y).2 (.inr hy), k⟩, fun ⟨y, hy, k⟩ => ?_⟩)
      rcases (hmem y).1 hy with rfl | hy
      · exact absurd k.1.symm e
      · exact ⟨y, hy, k⟩
theorem PInv.cut (h : PInv now M P Lss) (hx : x ∈ M) (hM : ∀ y, y ∈ M' ↔ y ∈ M ∧ y.slot ≠ x.slot) (hnd : M'.Nodup)
    (hL : Lss[lvl now x.dl]? = some Ls) (hK : Ls[bkt now x.dl]? = some L) : PInv now M' P (Lss.set (lvl now x.dl) (Ls.set (bkt now x.dl) (L.erase x.slot))) := by
  have hLn := h.nd _ _ _ _ hL hK
  refine ⟨by rw [List.length_set]; exact h.len, set_shape hL h.wide (by rw [List.length_set]; exact h.wide _ _ hL), set_nd hL hK h.nd (hLn.erase _), fun a ha b hb => h.slots a ((hM a).1 ha).1 b ((hM b).1 hb).1, fun a ha b hb => h.births a ((hM a).1 ha).1 b ((hM b).1 hb).1, hnd, fun y hy => h.rng y ((hM y).1 hy).1, fun y hy => h.after y ((hM y).1 hy).1, fun l b s => ?_⟩
  rw [slotIn_set hL hK]
  by_cases e : s = x.slot
  · subst e
    have r : ¬ ∃ y ∈ M', y.slot = x.slot ∧ lvl now y.dl = l ∧ bkt now y.dl = b := fun ⟨y, hy, e1, _⟩ => ((hM y).1 hy).2 e1
    by_cases c : l = lvl now x.dl ∧ b = bkt now x.dl
    · rw [if_pos c]
      exact ⟨fun k => absurd k (fun k => ((List.Nodup.mem_erase_iff hLn).1 k).1 rfl), fun k => absurd k.2 r⟩
    · rw [if_neg c]
      refine ⟨fun k => ?_, fun k => absurd k.2 r⟩
      obtain ⟨_, y, hy, e1, e2, e3⟩ := (h.at_ _ _ _).1 k
      have := h.slots y hy x hx e1
      subst this
      exact absurd ⟨e2.symm, e3.symm⟩ c
  · have h1 : (if l = lvl now x.dl ∧ b = bkt now x.dl then s ∈ L.erase x.slot else slotIn Lss l b s) ↔ slotIn Lss l b s := by
      by_cases c : l = lvl now x.dl ∧ b = bkt now x.dl
      · rw [if_pos c, List.mem_erase_of_ne e, c.1, c.2]
        refine ⟨fun k => ⟨Ls, L, hL, hK, k⟩, fun ⟨A, B, a1, a2, a3⟩ => ?_⟩
        rw [hL] at a1; cases a1
        rw [hK] at a2; cases a2
        exact a3
      · rw [if_neg c]
    rw [h1, h.at_]
    refine and_congr_right (fun _ => ⟨fun ⟨y, hy, k⟩ => ⟨y, (hM y).2 ⟨hy, fun c => e (by rw [← k.1, c])⟩, k⟩, fun ⟨y, hy, k⟩ => ⟨y, ((hM y).1 hy).1, k⟩⟩)
/-- What is in no bucket is forgotten. -/
theorem PInv.drop (h : PInv now M P Lss) (hp : P x.slot) (hM : ∀ y, y ∈ M' ↔ y ∈ M ∧ y.slot ≠ x.slot) (hnd : M'.Nodup) (hQ : ∀ s, Q s ↔ P s ∧ s ≠ x.slot) : PInv now M' Q Lss := by
  refine ⟨h.len, h.wide, h.nd, fun a ha b hb => h.slots a ((hM a).1 ha).1 b ((hM b).1 hb).1, fun a ha b hb => h.births a ((hM a).1 ha).1 b ((hM b).1 hb).1, hnd, fun y hy => h.rng y ((hM y).1 hy).1, fun y hy hq => h.after y ((hM y).1 hy).1 (fun c => hq ((hQ _).2 ⟨c, ((hM y).1 hy).2⟩)), fun l b s => ?_⟩
  rw [h.at_]
  by_cases e : s = x.slot
  · subst e
    exact ⟨fun k => absurd hp k.1, fun ⟨_, y, hy, e1, _⟩ => absurd e1 ((hM y).1 hy).2⟩
  · have hqp : Q s ↔ P s := ⟨fun c => ((hQ s).1 c).1, fun c => (hQ s).2 ⟨c, e⟩⟩
    rw [hqp]
    refine and_congr_right (fun _ => ⟨fun ⟨y, hy, k⟩ => ⟨y, (hM y).2 ⟨hy, fun c => e (by rw [← k.1, c])⟩, k⟩, fun ⟨y, hy, k⟩ => ⟨y, ((hM y).1 hy).1, k⟩⟩)
theorem PInv.new (now : Nat) : PInv now [] (fun _ => False) (List.replicate 8 (List.replicate 256 [])) := by
  refine ⟨List.length_replicate, fun l A h => ?_, fun l b A B h1 h2 => ?_, (fun _ h => by cases h), (fun _ h => by cases h), List.nodup_nil, (fun _ h => by cases h), (fun _ h => by cases h), fun l b s => ⟨fun ⟨A, B, h1, h2, h3⟩ => ?_, fun ⟨_, x, hx, _⟩ => by cases hx⟩⟩
  · rw [List.getElem?_replicate] at h
    split at h
    · cases h; exact List.length_replicate
    · cases h
  · rw [List.getElem?_replicate] at h1
    split at h1
    · cases h1
      rw [List.getElem?_replicate] at h2
      split at h2
      · cases h2; exact List.nodup_nil
      · cases h2
    · cases h1
  · rw [List.getElem?_replicate] at h1
    split at h1
    · cases h1
      rw [List.getElem?_replicate] at h2
      split at h2
      · cases h2; cases h3
      · cases h2
    · cases h1
theorem PInv.perm (h : PInv now M P Lss) (hp : M.Perm M') : PInv now M' P Lss :=
  ⟨h.len, h.wide, h.nd, fun a ha b hb => h.slots a (hp.mem_iff.2 ha) b (hp.mem_iff.2 hb), fun a ha b hb => h.births a (hp.mem_iff.2 ha) b (hp.mem_iff.2 hb), hp.nodup_iff.1 h.ndM, fun y hy => h.rng y (hp.mem_iff.2 hy), fun y hy => h.after y (hp.mem_iff.2 hy), fun l b s => by
    rw [h.at_]
    exact and_congr_right (fun _ => ⟨fun ⟨y, hy, k⟩ => ⟨y, hp.mem_iff.1 hy, k⟩, fun ⟨y, hy, k⟩ => ⟨y, hp.mem_iff.2 hy, k⟩⟩)⟩
end
end Go.Proofs.YtlalpenfgkfkpaaDoor

/- cascade: what an advance moves, by plain lists. No condition. -/
namespace Go.Proofs.YtlalpenfgkfkpaaDoor
def flatN (Ls : List (List Nat)) (n : Nat) : List Nat := (Ls.take n).flatten
def emptyL (Ls : List (List Nat)) (n : Nat) : List (List Nat) := List.replicate n [] ++ Ls.drop n
def clearL (Lss : List (List (List Nat))) (k : Nat) : List (List (List Nat)) := List.replicate k (List.replicate 256 []) ++ Lss.drop k
def movedK (Lss : List (List (List Nat))) (k : Nat) : List Nat := ((Lss.take k).map List.flatten).flatten
section
variable {now tt : Nat} {M M' : List Td} {P Q : Nat → Prop} {Lss Lss' : List (List (List Nat))} {Ls cur : List (List Nat)} {L L' : List Nat} {lv bk n b k : Nat} {x : Td}
theorem neB_cons (a : List Nat) (Ls : List (List Nat)) (i : Nat) : neB (a :: Ls) (i + 1) = neB Ls i := rfl
theorem take_flat_first : ∀ {cur : List (List Nat)} {b n : Nat} {L : List Nat}, b < n → cur[b]? = some L → (∀ i, i < b → neB cur i = false) → (cur.take n).flatten = L ++ ((cur.set b []).take n).flatten
  | [], b, n, L, _, h, _ => by cases h
  | a :: cur, 0, n + 1, L, _, h, _ => by
    injection h with h
    subst h
    simp
  | a :: cur, b + 1, n + 1, L, hb, h, he => by
    have h0 := he 0 (by omega)
    have ha : a = [] := by
      cases a with
      | nil => rfl
      | cons y a => simp [neB] at h0
    subst ha
    have := take_flat_first (cur := cur) (b := b) (n := n) (L := L) (by omega) h (fun i hi => by rw [← neB_cons [] cur i]; exact he (i + 1) (by omega))
    rw [List.take_succ_cons, List.flatten_cons, List.nil_append, this, List.set_cons_succ, List.take_succ_cons, List.flatten_cons, List.nil_append]
theorem take_flat_none : ∀ {cur : List (List Nat)} {n : Nat}, n ≤ cur.length → (∀ i, i < n → neB cur i = false) → cur.take n = List.replicate n []
  | cur, 0, _, _ => by simp
  | [], n + 1, h, _ => by simp at h
  | a :: cur, n + 1, h, he => by
    have h0 := he 0 (by omega)
    have ha : a = [] := by
      cases a with
      | nil => rfl
      | cons y a => simp [neB] at h0
    subst ha
    rw [List.take_succ_cons, take_flat_none (by simp at h; omega) (fun i hi => by rw [← neB_cons [] cur i]; exact he (i + 1) (by omega)), List.replicate_succ]
theorem flatten_rep (n : Nat) : (List.replicate n ([] : List Nat)).flatten = [] := by
  induction n with
  | zero => rfl
  | succ n ih => rw [List.replicate_succ, List.flatten_cons, ih]; rfl
theorem mem_flatN {s : Nat} : s ∈ flatN Ls n ↔ ∃ b L, b < n ∧ Ls[b]? = some L ∧ s ∈ L := by
  unfold flatN
  rw [List.mem_flatten]
  constructor
  · rintro ⟨L, hL, hs⟩
    obtain ⟨b, hb⟩ := List.getElem?_of_mem hL
    rw [List.getElem?_take] at hb
    split at hb
    · exact ⟨b, L, by assumption, hb, hs⟩
    · cases hb
  · rintro ⟨b, L, hb, hL, hs⟩
    refine ⟨L, ?_, hs⟩
    apply List.mem_of_getElem? (i := b)
    rw [List.getElem?_take, if_pos hb, hL]
theorem mem_movedK {s : Nat} : s ∈ movedK Lss k ↔ ∃ l b, l < k ∧ slotIn Lss l b s := by
  unfold movedK
  rw [List.mem_flatten]
  constructor
  · rintro ⟨A, hA, hs⟩
    obtain ⟨l, hl⟩ := List.getElem?_of_mem hA
    rw [List.getElem?_map, List.getElem?_take] at hl
    split at hl
    · cases hL : Lss[l]? with
      | none => rw [hL] at hl; cases hl
      | some Ls =>
        rw [hL] at hl
        injection hl with hl
        subst hl
        obtain ⟨B, hB, hs⟩ := List.mem_flatten.1 hs
        obtain ⟨b, hb⟩ := List.getElem?_of_mem hB
        exact ⟨l, b, by assumption, Ls, B, hL, hb, hs⟩
    · cases hl
  · rintro ⟨l, b, hl, Ls, B, hL, hB, hs⟩
    refine ⟨Ls.flatten, ?_, List.mem_flatten.2 ⟨B, List.mem_of_getElem? hB, hs⟩⟩
    apply List.mem_of_getElem? (i := l)
    rw [List.getElem?_map, List.getElem?_take, if_pos hl, hL]
    rfl
theorem movedK_succ (hL : Lss[k]? = some Ls) : movedK Lss (k + 1) = movedK Lss k ++ Ls.flatten := by
  unfold movedK
  rw [List.take_add_one, hL]
  simp
theorem clearL_succ (hL : Lss[k]? = some Ls) : clearL Lss (k + 1) = (clearL Lss k).set k (List.replicate 256 []) := by
  unfold clearL
  have hk := (List.getElem?_eq_some_iff.1 hL).1
  rw [List.set_append_right _ _ (by rw [List.length_replicate]; exact Nat.le_refl _), List.length_replicate, Nat.sub_self, List.drop_eq_getElem_cons hk, List.set_cons_zero, List.replicate_succ', List.append_assoc]
  rfl
theorem clearL_get (hk : k ≤ lv) : (clearL Lss k)[lv]? = Lss[lv]? := by
  unfold clearL
  rw [List.getElem?_append_right (by rw [List.length_replicate]; exact hk), List.length_replicate, List.getElem?_drop, show k + (lv - k) = lv by omega]
theorem clearL_lo (hk : lv < k) : (clearL Lss k)[lv]? = some (List.replicate 256 []) := by
  unfold clearL
  rw [List.getElem?_append_left (by rw [List.length_replicate]; exact hk), List.getElem?_replicate, if_pos hk]
theorem slotIn_clear {l s : Nat} : slotIn (clearL Lss k) l b s ↔ slotIn Lss l b s ∧ ¬ l < k := by
  unfold slotIn
  by_cases c : l < k
  · refine ⟨fun ⟨A, B, h1, h2, h3⟩ => ?_, fun h => absurd c h.2⟩
    rw [clearL_lo c] at h1
    cases h1
    rw [List.getElem?_replicate] at h2
    split at h2
    · cases h2; cases h3
    · cases h2
  · rw [clearL_get (by omega)]
    exact ⟨fun h => ⟨h, c⟩, fun h => h.1⟩
theorem emptyL_get (hn : n ≤ b) : (emptyL Ls n)[b]? = Ls[b]? := by
  unfold emptyL
  rw [List.getElem?_append_right (by rw [List.length_replicate]; exact hn), List.length_replicate, List.getElem?_drop, show n + (b - n) = b by omega]
theorem emptyL_lo (hn : b < n) : (emptyL Ls n)[b]? = some [] := by
  unfold emptyL
  rw [List.getElem?_append_left (by rw [List.length_replicate]; exact hn), List.getElem?_replicate, if_pos hn]
theorem emptyL_length (h : Ls.length = 256) (hn : n ≤ 256) : (emptyL Ls n).length = 256 := by
  unfold emptyL
  rw [List.length_append, List.length_replicate, List.length_drop, h]; omega
/-- What lies behind an advance. -/
def leftL (Lss : List (List (List Nat))) (Ls : List (List Nat)) (top n : Nat) : List (List (List Nat)) := (clearL Lss top).set top (emptyL Ls n)
theorem slotIn_left (hL : Lss[lv]? = some Ls) {l s : Nat} : slotIn (leftL Lss Ls lv n) l b s ↔ slotIn Lss l b s ∧ ¬ (l < lv ∨ l = lv ∧ b < n) := by
  have hlt : lv < (clearL Lss lv).length := by
    have := (List.getElem?_eq_some_iff.1 ((clearL_get (Lss := Lss) (Nat.le_refl lv)).trans hL)).1
    exact this
  unfold leftL
  by_cases e : l = lv
  · subst e
    unfold slotIn
    rw [List.getElem?_set_self hlt]
    by_cases c : b < n
    · refine ⟨fun ⟨A, B, h1, h2, h3⟩ => ?_, fun h => absurd (.inr ⟨rfl, c⟩) h.2⟩
      cases h1
      rw [emptyL_lo c] at h2
      cases h2
      cases h3
    · refine ⟨fun ⟨A, B, h1, h2, h3⟩ => ?_, fun ⟨⟨A, B, h1, h2, h3⟩, _⟩ => ?_⟩
      · cases h1
        rw [emptyL_get (by omega)] at h2
        exact ⟨⟨Ls, B, hL, h2, h3⟩, by omega⟩
      · rw [hL] at h1
        cases h1
        exact ⟨_, B, rfl, by rw [emptyL_get (by omega)]; exact h2, h3⟩
  · have h1 : slotIn ((clearL Lss lv).set lv (emptyL Ls n)) l b s ↔ slotIn (clearL Lss lv) l b s := by
      unfold slotIn
      rw [List.getElem?_set_ne (fun c => e c.symm)]
    rw [h1, slotIn_clear]
    refine and_congr_right (fun _ => ?_)
    omega
theorem nodup_flat : ∀ {A : List (List Nat)}, (∀ (i : Nat) (l : List Nat), A[i]? = some l → l.Nodup) → (∀ (i j : Nat) (l l' : List Nat) (s : Nat), A[i]? = some l → A[j]? = some l' → s ∈ l → s ∈ l' → i = j) → A.flatten.Nodup
  | [], _, _ => by simp
  | a :: A, h1, h2 => by
    rw [List.flatten_cons, List.nodup_append]
    refine ⟨h1 0 a rfl, nodup_flat (fun i l h => h1 (i + 1) l h) (fun i j l l' s e1 e2 s1 s2 => by have := h2 (i + 1) (j + 1) l l' s e1 e2 s1 s2; omega), fun s hs t ht e => ?_⟩
    subst e
    obtain ⟨B, hB, hs2⟩ := List.mem_flatten.1 ht
    obtain ⟨i, hi⟩ := List.getElem?_of_mem hB
    have := h2 0 (i + 1) a B s rfl hi hs hs2
    omega
theorem PInv.nodup_level (h : PInv now M P Lss) (hL : Lss[lv]? = some Ls) : Ls.flatten.Nodup :=
  nodup_flat (fun i l e => h.nd lv i Ls l hL e) (fun i j l l' s e1 e2 s1 s2 => (h.uniq (l := lv) (l' := lv) ⟨Ls, l, hL, e1, s1⟩ ⟨Ls, l', hL, e2, s2⟩).2)
theorem PInv.nodup_moved (h : PInv now M P Lss) (hL : Lss[lv]? = some Ls) : (movedK Lss lv ++ flatN Ls n).Nodup := by
  rw [List.nodup_append]
  refine ⟨nodup_flat (fun i l e => ?_) (fun i j l l' s e1 e2 s1 s2 => ?_), ?_, fun s hs t ht e => ?_⟩
  · rw [List.getElem?_map, List.getElem?_take] at e
    split at e
    · cases hA : Lss[i]? with
      | none => rw [hA] at e; cases e
      | some A => rw [hA] at e; injection e with e; subst e; exact h.nodup_level hA
    · cases e
  · rw [List.getElem?_map, List.getElem?_take] at e1 e2
    split at e1
    · split at e2
      · cases hA : Lss[i]? with
        | none => rw [hA] at e1; cases e1
        | some A =>
          cases hB : Lss[j]? with
          | none => rw [hB] at e2; cases e2
          | some B =>
            rw [hA] at e1; injection e1 with e1; subst e1
            rw [hB] at e2; injection e2 with e2; subst e2
            obtain ⟨C, hC, c1⟩ := List.mem_flatten.1 s1
            obtain ⟨D, hD, d1⟩ := List.mem_flatten.1 s2
            obtain ⟨b1, hb1⟩ := List.getElem?_of_mem hC
            obtain ⟨b2, hb2⟩ := List.getElem?_of_mem hD
            exact (h.uniq ⟨A, C, hA, hb1, c1⟩ ⟨B, D, hB, hb2, d1⟩).1
      · cases e2
    · cases e1
  · have := h.nodup_level hL
    rw [← List.take_append_drop n Ls, List.flatten_append, List.nodup_append] at this
    exact this.1
  · subst e
    obtain ⟨l, b, hl, h1⟩ := mem_movedK.1 hs
    obtain ⟨b2, B, _, h2, h3⟩ := mem_flatN.1 ht
    have := (h.uniq h1 ⟨Ls, B, hL, h2, h3⟩).1
    omega
/-- The time goes on: what is moved is in no bucket, and all else is where it was. -/
theorem PInv.start (h : PInv now M (fun _ => False) Lss) (hn : now < tt) (ht : tt < 18446744073709551616) (hL : Lss[lvl now tt]? = some Ls) :
    PInv tt M (fun s => s ∈ movedK Lss (lvl now tt) ++ flatN Ls (bkt now tt + 1)) (leftL Lss Ls (lvl now tt) (bkt now tt + 1)) ∧ ∀ s, s ∈ movedK Lss (lvl now tt) ++ flatN Ls (bkt now tt + 1) → ∃ x ∈ M, x.slot = s := by
  have hb : bkt now tt < 256 := bkt_lt
  have hlen : (clearL Lss (lvl now tt)).length = 8 := by
    have := (List.getElem?_eq_some_iff.1 hL).1
    have := h.len
    unfold clearL
    rw [List.length_append, List.length_replicate, List.length_drop]; omega
  have hmv : ∀ s, s ∈ movedK Lss (lvl now tt) ++ flatN Ls (bkt now tt + 1) ↔ ∃ l b, slotIn Lss l b s ∧ (l < lvl now tt ∨ l = lvl now tt ∧ b < bkt now tt + 1) := fun s => by
    rw [List.mem_append, mem_movedK, mem_flatN]
    constructor
    · rintro (⟨l, b, h1, h2⟩ | ⟨b, B, h1, h2, h3⟩)
      · exact ⟨l, b, h2, .inl h1⟩
      · exact ⟨_, b, ⟨Ls, B, hL, h2, h3⟩, .inr ⟨rfl, h1⟩⟩
    · rintro ⟨l, b, h1, h2 | ⟨rfl, h2⟩⟩
      · exact .inl ⟨l, b, h2, h1⟩
      · obtain ⟨A, B, a1, a2, a3⟩ := h1
        rw [hL] at a1
        cases a1
        exact .inr ⟨b, B, h2, a2, a3⟩
  have hnm : ∀ x ∈ M, x.slot ∉ movedK Lss (lvl now tt) ++ flatN Ls (bkt now tt + 1) → tt < x.dl ∧ lvl tt x.dl = lvl now x.dl ∧ bkt tt x.dl = bkt now x.dl := fun x hx hs => by
    obtain ⟨_, r2, _⟩ := h.rng x hx
    refine not_moved (by omega) ht (by omega) (h.after x hx (fun c => c)) hn (fun hm => hs ((hmv _).2 ⟨lvl now x.dl, bkt now x.dl, (h.at_ _ _ _).2 ⟨(fun c => c), x, hx, rfl, rfl, rfl⟩, ?_⟩))
    unfold movedD at hm
    rcases hm with hm | ⟨h1, h2⟩
    · exact .inl hm
    · exact .inr ⟨h1, by omega⟩
  refine ⟨⟨by unfold leftL; rw [List.length_set]; exact hlen, fun l A hA => ?_, fun l b A B hA hB => ?_, h.slots, h.births, h.ndM, h.rng, fun x hx hs => (hnm x hx hs).1, fun l b s => ?_⟩, fun s hs => ?_⟩
  · unfold leftL at hA
    by_cases e : l = lvl now tt
    · subst e
      rw [List.getElem?_set_self (by rw [hlen]; have := (List.getElem?_eq_some_iff.1 hL).1; rw [h.len] at this; exact this)] at hA
      cases hA
      exact emptyL_length (h.wide _ _ hL) (by omega)
    · rw [List.getElem?_set_ne (fun c => e c.symm)] at hA
      by_cases c : l < lvl now tt
      · rw [clearL_lo c] at hA
        cases hA
        exact List.length_replicate
      · rw [clearL_get (by omega)] at hA
        exact h.wide l A hA
  · unfold leftL at hA
    by_cases e : l = lvl now tt
    · subst e
      rw [List.getElem?_set_self (by rw [hlen]; have := (List.getElem?_eq_some_iff.1 hL).1; rw [h.len] at this; exact this)] at hA
      cases hA
      by_cases c : b < bkt now tt + 1
      · rw [emptyL_lo c] at hB
        cases hB
        exact List.nodup_nil
      · rw [emptyL_get (by omega)] at hB
        exact h.nd _ _ _ _ hL hB
    · rw [List.getElem?_set_ne (fun c => e c.symm)] at hA
      by_cases c : l < lvl now tt
      · rw [clearL_lo c] at hA
        cases hA
        rw [List.getElem?_replicate] at hB
        split at hB
        · cases hB; exact List.nodup_nil
        · cases hB
      · rw [clearL_get (by omega)] at hA
        exact h.nd l b A B hA hB
  · rw [slotIn_left hL]
    constructor
    · rintro ⟨h1, h2⟩
      obtain ⟨_, x, hx, e1, e2, e3⟩ := (h.at_ _ _ _).1 h1
      have hns : s ∉ movedK Lss (lvl now tt) ++ flatN Ls (bkt now tt + 1) := fun c => by
        obtain ⟨l', b', h3, h4⟩ := (hmv s).1 c
        obtain ⟨f1, f2⟩ := h.uniq h1 h3
        rw [← f1, ← f2] at h4
        exact h2 h4
      obtain ⟨_, g2, g3⟩ := hnm x hx (by rw [e1]; exact hns)
      exact ⟨hns, x, hx, e1, by rw [g2, e2], by rw [g3, e3]⟩
    · rintro ⟨hns, x, hx, e1, e2, e3⟩
      obtain ⟨_, g2, g3⟩ := hnm x hx (by rw [e1]; exact hns)
      have h1 : slotIn Lss l b s := (h.at_ _ _ _).2 ⟨(fun c => c), x, hx, e1, by rw [← g2, e2], by rw [← g3, e3]⟩
      exact ⟨h1, fun c => hns ((hmv s).2 ⟨l, b, h1, c⟩)⟩
  · obtain ⟨l, b, h1, _⟩ := (hmv s).1 hs
    obtain ⟨_, x, hx, e, _⟩ := (h.at_ _ _ _).1 h1
    exact ⟨x, hx, e⟩
end
end Go.Proofs.YtlalpenfgkfkpaaDoor
