/- compact.Log: the log of the entries and their old slot numbers. Condition: the log is made (LogRow). -/
import Derived.Test.YtpafcocciggfpaaGreatLogAll
namespace Go.Proofs.YtpafcocciggfpaaGreat
open Go.RowKit Go.Shelf
set_option maxRecDepth 100000
attribute [local go_sem] Oper.semAt_some

theorem info_u32 : (Tryz.prog.info? 43).map (fun i => (i.zero, i.size, i.bytes)) = some (some (.int .u32 0), 1, 4) := by kernel_rfl

/-! ### compact.Log -/
def compactPost (w : World) (L : List (Option Ent)) (e : Ending) (w' : World) : Prop :=
  ∃ q a c D sv M', e = .returned (.tuple #[.pointer (some ⟨q, 0, none⟩), .agg #[.slice a (live L).length c, .int .i64 L.length], .int .i64 0]) ∧ LogRow w' D q sv M' ∧
    M'.map Prod.fst = (live L).map (fun g => some g.2) ∧ w'.ownsRow 0 43 1 (.slice a (live L).length c) (live L).length ((live L).map fun g => .int .u32 g.1) ∧
    Pure w w' ∧ (∀ k, D k → w.heap.size ≤ k) ∧ Fresh w (.slice a (live L).length c)

/-- Above the results' boxes, and no box of ours nor block of the iterator. -/
def farC (w : World) (b5 b6 : Nat) (It : Nat → Prop) (k : Nat) : Prop := w.heap.size + 1 + 1 < k ∧ k ≠ b5 ∧ k ≠ b6 ∧ ¬ It k
/-- Between two rounds of the loop over All. -/
structure CInv (w : World) (b5 b6 q : Nat) (len : Int) (It : Nat → Prop) (D : Nat → Prop) (pre : List Given) (W : World) : Prop where
  r0 : W.heap[w.heap.size]? = some (.cells #[.pointer none] 58 (0, 0))
  r1 : W.heap[w.heap.size + 1]? = some (.cells #[.slice none 0 0, .int .i64 0] 98 (0, 0))
  r2 : W.heap[w.heap.size + 1 + 1]? = some (.cells #[.int .i64 0] 44 (0, 0))
  o5 : W.heap[b5]? = some (.cells #[.pointer (some ⟨q, 0, none⟩)] 58 (0, 0))
  o6 : ∃ a c, W.heap[b6]? = some (.cells #[.slice a pre.length c, .int .i64 len] 98 (0, 0)) ∧ W.ownsRow 0 43 1 (.slice a pre.length c) pre.length (pre.map fun g => .int .u32 g.1) ∧ ∀ k, (Value.slice a pre.length c).ownBlock = some k → farC w b5 b6 It k ∧ ¬ D k
  lg : ∃ sv M', LogRow W D q sv M' ∧ M'.map Prod.fst = pre.map (fun g => some g.2.1)
  dd : ∀ k, D k → farC w b5 b6 It k
  pu : Pure w W
theorem CInv.quiet {w : World} {b5 b6 q : Nat} {len : Int} {It D : Nat → Prop} {pre : List Given} {A B : World} (h : CInv w b5 b6 q len It D pre A) {N : Nat} (hN : w.heap.size ≤ N) (hq : Quiet N A B) : CInv w b5 b6 q len It D pre B := by
  obtain ⟨a, c, h1, h2, h3⟩ := h.o6
  obtain ⟨sv, M', h4, h5⟩ := h.lg
  exact ⟨hq.cells h.r0, hq.cells h.r1, hq.cells h.r2, hq.cells h.o5, ⟨a, c, hq.cells h1, hq.owns h2, h3⟩, ⟨sv, M', h4.quiet hq, h5⟩, h.dd, hq.mod h.pu hN⟩

/-- Behind the round's assignments. -/
def CAx (w : World) (p q q2 : Nat) (len : Int) (B : Nat) (It : Nat → Prop) (L : List (Option Ent)) (N : Nat) (pre : List Given) (x : Given) (a' : Act) (W : World) : Prop :=
  ∃ D b8 va vn vc, x.2.2 = .slice va vn vc ∧ CInv w (q + 1) (q + 1 + 1) q len It D pre W ∧ promise N L pre x W ∧ W.heap[b8]? = some (.cells #[.string x.2.1.key, x.2.2, .int .u64 x.2.1.dl, .int .u64 x.2.1.birth] 42 (0, 0)) ∧ ¬ D b8 ∧ ¬ It b8 ∧ N ≤ b8 ∧ N ≤ W.heap.size ∧
    a' = { tmps := #[.pointer (some ⟨p, 0, none⟩), undef, .pointer (some ⟨w.heap.size, 0, none⟩), .pointer (some ⟨w.heap.size + 1, 0, none⟩), .pointer (some ⟨w.heap.size + 1 + 1, 0, none⟩), .pointer (some ⟨q + 1, 0, none⟩), .pointer (some ⟨q + 1 + 1, 0, none⟩),
      .int .u32 x.1, .pointer (some ⟨b8, 0, none⟩), undef, undef, .pointer (some ⟨p, 0, none⟩), .pointer (some ⟨q2, 0, none⟩), .bool false, undef, .pointer (some ⟨q, 0, none⟩), .pointer (some ⟨p, 0, none⟩), .int .i64 len, .agg #[.slice none 0 0, .int .i64 len],
      .pointer (some ⟨p, 0, none⟩), .func (.func 149) #[] #[.pointer (some ⟨B, 0, none⟩)], .int .u32 x.1, .agg #[.string x.2.1.key, x.2.2, .int .u64 x.2.1.dl, .int .u64 x.2.1.birth],
      undef, undef, undef, undef, undef, undef, undef, undef, undef, undef, undef, undef, undef, undef, undef, undef, undef, undef], defers := [] }
theorem CAx.quiet {w : World} {p q q2 : Nat} {len : Int} {B : Nat} {It : Nat → Prop} {L : List (Option Ent)} {N : Nat} {pre : List Given} {x : Given} {a' : Act} {A W : World} (h : CAx w p q q2 len B It L N pre x a' A) (hN : w.heap.size ≤ N) (hq : Quiet N A W) : CAx w p q q2 len B It L N pre x a' W := by
  obtain ⟨D, b8, va, vn, vc, h1, h2, h3, h4, h5, h6, h7, h8, h9⟩ := h
  exact ⟨D, b8, va, vn, vc, h1, h2.quiet hN hq, h3.quiet hq, hq.cells h4, h5, h6, h7, Nat.le_trans h8 (Mod.size hq), h9⟩

set_option maxHeartbeats 1000000 in
theorem compact_Log {w : World} {D : Nat → Prop} {p : Nat} {sv : Value} {M : List (Option Ent × Value)} (h : LogRow w D p sv M) :
    Calls Tryz.prog 103 #[.pointer (some ⟨p, 0, none⟩)] w (compactPost w (M.map Prod.fst)) := by
  have HL := Lib.hid h
  have hlp : p < w.heap.size := lt_of_block h.box
  clear h
  refine (callsIn_wide (n := 0)).1 (callsIn_of_wp_marks Tryz.func103 rfl trivial ?_ rfl)
  simp only [Tryz.ntmps103, List.size_toArray, List.length_cons, List.length_nil, Nat.reduceAdd, Nat.reduceSub, Array.replicate_succ, Array.replicate_zero, List.push_toArray, List.append_toArray, List.nil_append, List.cons_append]
  gi_wp2_with (first
    | (gi_at_call 91; refine (callsIn_wide.2 (Copy_any (HL.out.pure (by (repeat' (first | (with_reducible exact Mod.refl _ _) | (with_reducible refine Mod.alloc ?_ _) | (with_reducible refine Mod.drew ?_) | (with_reducible refine Mod.drewN ?_ _) | (with_reducible refine Mod.setCell ?_ ?_ _) | (refine Mod.then ?_ (by with_reducible assumption) ?_))) <;> (all_goals (intros; first | (exfalso; assumption) | omega | (simp at *; done) | (simp at *; omega))))))).mono ?_; rintro e w1 ⟨q2, sv', D', rfl, _, hp, _⟩)
    | (gi_at_call 24; refine (callsIn_wide.2 (entrylog_New _)).mono ?_; rintro e w2 ⟨rfl, rfl⟩)
    | (gi_at_call 31; refine (callsIn_wide.2 (Len_any (HL.out.pure (by (repeat' (first | (with_reducible exact Mod.refl _ _) | (with_reducible refine Mod.alloc ?_ _) | (with_reducible refine Mod.drew ?_) | (with_reducible refine Mod.drewN ?_ _) | (with_reducible refine Mod.setCell ?_ ?_ _) | (refine Mod.then ?_ (by with_reducible assumption) ?_))) <;> (all_goals (intros; first | (exfalso; assumption) | omega | (simp at *; done) | (simp at *; omega))))))).mono ?_; rintro e w2 ⟨rfl, rfl⟩)
    | (gi_at_call 92; refine (callsIn_wide.2 (All_any (HL.out.pure (by (repeat' (first | (with_reducible exact Mod.refl _ _) | (with_reducible refine Mod.alloc ?_ _) | (with_reducible refine Mod.drew ?_) | (with_reducible refine Mod.drewN ?_ _) | (with_reducible refine Mod.setCell ?_ ?_ _) | (refine Mod.then ?_ (by with_reducible assumption) ?_))) <;> (all_goals (intros; first | (exfalso; assumption) | omega | (simp at *; done) | (simp at *; omega))))))).mono ?_; rintro e w3 ⟨B, a, c, rfl, hit, hp3, hB, hfr⟩))
  have hz : w.heap.size + 1 + 1 < w1.heap.size := by have := hp.size; simp at this; omega
  have hcl : ∀ W, Pure ((((w1.alloc (.cells #[.bool true, .slice none 0 0, .int .i64 0] 92)).alloc (.cells #[.pointer (some ⟨w1.heap.size, 0, none⟩)] 58)).alloc (.cells #[.slice none 0 0, .int .i64 M.length] 98))) W →
      CInv w (w1.heap.size + 1) (w1.heap.size + 1 + 1) w1.heap.size M.length (iterBlocks B (.slice a M.length c) M) (fun k => k = w1.heap.size) [] W := by
    intro W hW
    have hlow : ∀ k, k < w1.heap.size → ∀ o, w1.heap[k]? = some o → W.heap[k]? = some o := fun k hk o ho => hW.heap (fun h => h) (heap_keep (heap_keep (heap_keep ho)))
    refine ⟨hlow _ (by omega) _ (hp.heap (fun h => h) (heap_keep (heap_keep (heap_new rfl)))), hlow _ (by omega) _ (hp.heap (fun h => h) (heap_keep (heap_new (by simp)))), hlow _ (by omega) _ (hp.heap (fun h => h) (heap_new (by simp))),
      hW.heap (fun h => h) (heap_keep (heap_new (by simp))), ⟨none, 0, hW.heap (fun h => h) (heap_new (by simp)), World.ownsRow_nil _ _ _ _, (fun k e => by cases e)⟩, ⟨_, [], logNew_row (hW.heap (fun h => h) (heap_keep (heap_keep (heap_new rfl)))), rfl⟩, ?_, ?_⟩
    · rintro k rfl
      refine ⟨by omega, by omega, by omega, ?_⟩
      simp at hB
      rintro (h | h | ⟨e, v, hm, h⟩)
      · omega
      · have := hfr _ h; simp at this; omega
      · have := owns_lt (HL.out.vals e v hm) h; omega
    · (repeat' (first | (with_reducible exact Mod.refl _ _) | (with_reducible refine Mod.alloc ?_ _) | (with_reducible refine Mod.drew ?_) | (with_reducible refine Mod.drewN ?_ _) | (with_reducible refine Mod.setCell ?_ ?_ _) | (refine Mod.then ?_ (by with_reducible assumption) ?_)))
      (all_goals (intros; first | (exfalso; assumption) | omega | (simp at *; done) | (simp at *; omega)))
  have hlive : (live (M.map Prod.fst)).length ≤ 4194304 := Nat.le_trans (live_length _) HL.out.ok.len
  have hIq : ∀ k, w.heap.size ≤ k → k ≤ w1.heap.size + 1 + 1 → ¬ iterBlocks B (.slice a M.length c) M k := by
    simp at hB
    rintro k h1 h2 (h | h | ⟨e, v, hm, h⟩)
    · omega
    · have := hfr _ h; simp at this; omega
    · have := owns_lt (HL.out.vals e v hm) h; omega
  have HC := Lib.hid hcl
  have HI := Lib.hid hit
  have hlv := HL.out.vals
  have hItlt : ∀ k, iterBlocks B (.slice a M.length c) M k → k < w3.heap.size := by
    rintro k (rfl | h | ⟨e, v, hm, h⟩)
    · exact lt_of_block hit.box
    · exact owns_lt hit.row h
    · exact owns_lt (hit.vals e v hm) h
  have hw3 : w1.heap.size + 1 + 1 < w3.heap.size := by have := hp3.size; simp at this; omega
  have hI0 : CInv w (w1.heap.size + 1) (w1.heap.size + 1 + 1) w1.heap.size M.length (iterBlocks B (.slice a M.length c) M) (fun k => k = w1.heap.size) [] w3 := hcl w3 hp3
  have hlw : w.heap.size ≤ w3.heap.size := by omega
  clear hcl hit hlv hp hp3 hB hfr
  have HIQ := Lib.hid hIq
  clear hIq
  generalize hIt : iterBlocks B (.slice a M.length c) M = It at *
  generalize w1.heap.size = q at *
  refine wp_range (gf := 149) (lb := #[.pointer (some ⟨B, 0, none⟩)]) rfl (enters_of Tryz.func149 (by kernel_rfl) rfl) (It := It) (hIt ▸ All_iter HI.out w3.heap.size (Nat.le_refl _)) hItlt (fun _ => rfl)
    (fun pre W => (∃ D, CInv w (q + 1) (q + 1 + 1) q M.length It D pre W) ∧ w3.heap.size ≤ W.heap.size) (fun _ _ _ => False) ?hI ?hIx ⟨⟨_, hI0⟩, Nat.le_refl _⟩ (CAx w p q q2 M.length B It (M.map Prod.fst) w3.heap.size) ?hAx ?assign ?body ?done ?stop
  case hI => exact fun pre A B ⟨⟨D, h⟩, hz⟩ hq => ⟨⟨D, h.quiet hlw hq⟩, Nat.le_trans hz (Mod.size hq)⟩
  case hIx => exact fun _ _ _ _ h _ => h
  case hAx => exact fun _ _ _ _ _ h hq => h.quiet hlw hq
  case assign =>
    rintro l pre ⟨i, x, v⟩ W K ⟨⟨D, hI⟩, hWs⟩ hG hK
    obtain ⟨va, vc, hv, _⟩ := owns_form hG.2.1
    dsimp only at hv
    subst hv
    dsimp only [encG]
    have HCI := Lib.hid hI
    have HG := Lib.hid hG
    have HK := Lib.hid hK
    have HIT := Lib.hid hItlt
    clear hI hG hK HC hI0 HI hItlt
    gi_wp2
    have hP : Pure W (W.alloc (.cells #[.string x.key, .slice va (bytesOf x.val).length vc, .int .u64 x.dl, .int .u64 x.birth] 42)) := (Mod.refl _ W).alloc _
    refine HK.out _ _ hP ⟨D, W.heap.size, va, _, vc, rfl, HCI.out.quiet hlw (Quiet.of_pure hP), HG.out.quiet (Quiet.of_pure (N := 0) hP), heap_new rfl, fun h => ?_, fun h => ?_, hWs, Nat.le_trans hWs hP.size, rfl⟩
    · obtain ⟨_, _, h1, _⟩ := HCI.out.lg
      exact absurd (h1.lt h) (Nat.lt_irrefl _)
    · have := HIT.out _ h; omega
  case body =>
    rintro l pre ⟨i, x, v⟩ a' W hl hlr ⟨D, b8, va, vn, vc, rfl, hI, hG, hb8, hD8, hI8, hN8, hWs, rfl⟩
    obtain ⟨⟨post, hpost⟩, hv, hvf⟩ := hG
    dsimp only at hpost hv hvf
    have hmem := live_mem (g := (i, x)) (by rw [hpost]; simp [keyG])
    have hxok : x.Ok := HL.out.ok.ent x (List.mem_of_getElem? hmem)
    have hxi : i < M.length := by simpa using (List.getElem?_eq_some_iff.1 hmem).1
    have hpl : pre.length < 4194304 := by have := hlive; rw [hpost] at this; simp at this; omega
    obtain ⟨sv1, M1, hlg, hM1⟩ := hI.lg
    have hM1l : M1.length = pre.length := by rw [← List.length_map (f := Prod.fst), hM1, List.length_map]
    have h5 := hI.o5
    obtain ⟨a6, c6, h6, hr6, hf6⟩ := hI.o6
    have hx1 := hv.read (bytesOf_one _)
    obtain ⟨va', vn', vc', hve, hvl, _⟩ := id hx1
    cases hve
    have e5 := cell_of_row W _ 0 _ _ _ h5; have e6 := cell_of_row W _ 0 _ _ _ h6; have e61 := cell_of_row W _ 1 _ _ _ h6
    have e8 := cell_of_row W _ 0 _ _ _ hb8; have e81 := cell_of_row W _ 1 _ _ _ hb8; have e82 := cell_of_row W _ 2 _ _ _ hb8; have e83 := cell_of_row W _ 3 _ _ _ hb8
    simp at e5 e6 e61 e8 e81 e82 e83
    have HCI := Lib.hid hI
    have HM1 := Lib.hid hM1
    have HPOST := Lib.hid hpost
    have HR6 := Lib.hid hr6
    have HF6 := Lib.hid hf6
    have HLG := Lib.hid hlg
    have HX1 := Lib.hid hx1
    have HML : Hid (M1.length < 4194304) := by rw [hM1l]; exact hpl
    clear hI hM1 hpost hr6 hf6 hlg hx1 hv hvf hmem hvl HC hI0 HI hlive
    obtain ⟨i0, hi, iz0, iz1, iz2⟩ := info_parts info_u32
    have hlW : q + 1 + 1 < W.heap.size := by omega
    have nD : ∀ k, (k ≤ w.heap.size + 1 + 1 ∨ k = q + 1 ∨ k = q + 1 + 1) → ¬ D k := fun k hk hd => by obtain ⟨f1, f2, f3, _⟩ := HCI.out.dd k hd; omega
    have nd5 := nD (q + 1) (by omega); have nd6 := nD (q + 1 + 1) (by omega)
    have ND := Lib.hid nD
    clear nD
    gi_wp2_with (first
      | (gi_at_call 25; refine CallsIn.mono (CallsIn.inRound l (callsIn_wide.2 (Append_ok HLG.out HML.out x hxok va vn vc HX1.out))) ?_; rintro e w4 ⟨rfl, D', sv2, v2, hlg2, hmd, hgr⟩; have M6 := Lib.hid (Mod.heap hmd nd6 h6); have m6 := cell_of_row w4 _ 0 _ _ _ M6.out; have hz4 : q + 1 + 1 < w4.heap.size := Nat.lt_of_lt_of_le hlW hmd.size)
      | (gi_at_builtin; refine wpListIn_append_read _ rfl _ _ 34 rfl 43 i0 (.int .u32 0) 1 4 Tryz.underlying34 hi iz0 iz1 iz2 rfl (by decide) (.slice a6 pre.length c6) pre.length _ rfl (owns_mod (owns_mod HR6.out hmd (fun g hg => (HF6.out g hg).2)) ((Mod.refl (fun _ => False) _).alloc _) (fun _ _ h => h)) _ [.int .u32 i] 1 rfl (ReadAt.of_block 1 1 1 (heap_new rfl) (by rfl) (by simp [Value.oneCell'])) rfl (by unfold maxLen; omega) (by omega) ?_; intro a7 c7 w5 hr7 hg7 hb7; have M7 := Lib.hid (Mod.heap (Mod.of_grown (S := fun k => (Value.slice a6 pre.length c6).ownBlock = some k) hg7 (fun k e _ => e)) (fun e => (HF6.out _ e).1.2.2.1 rfl) (heap_keep M6.out)); have m7 := cell_of_row w5 _ 0 _ _ _ M7.out; have fr7 := (fun j => frozen_of_row w5 _ j _ _ M7.out)))
    have hlt5 : q + 1 + 1 < w5.heap.size := lt_of_block M7.out
    have hsz5 : w4.heap.size < w5.heap.size := by have := hg7.size; simp at this; omega
    have o6 : ∀ k, (Value.slice a6 pre.length c6).ownBlock = some k → k < W.heap.size := fun k e => owns_lt HR6.out e
    have hA : Mod D W (w4.alloc (.cells #[.int .u32 i] 43)) := hmd.alloc _
    have hB5 : Mod (fun k => (Value.slice a6 pre.length c6).ownBlock = some k ∨ k = q + 1 + 1) w4 (w5.setCell ⟨q + 1 + 1, 0, none⟩ (.slice a7 (pre.length + 1) c7)) :=
      (((Mod.refl _ _).alloc (.cells #[.int .u32 i] 43)).then (Mod.of_grown (S := fun k => (Value.slice a6 pre.length c6).ownBlock = some k) hg7 (fun k e _ => e)) (fun _ _ h => .inl h)).setCell (fun _ => .inr rfl) _
    have hM6 : Mod (fun k => D k ∨ (Value.slice a6 pre.length c6).ownBlock = some k ∨ k = q + 1 + 1) W (w5.setCell ⟨q + 1 + 1, 0, none⟩ (.slice a7 (pre.length + 1) c7)) :=
      (hmd.mono (fun _ _ h => .inl h)).then hB5 (fun _ _ h => .inr h)
    have hfar : ∀ k, (Value.slice a7 (pre.length + 1) c7).ownBlock = some k → farC w (q + 1) (q + 1 + 1) It k ∧ ¬ D' k := by
      intro k hk
      rcases hb7 with e | e <;> rw [e] at hk
      · refine ⟨(HF6.out k hk).1, fun hd => ?_⟩
        rcases hgr k hd with h | h
        · exact (HF6.out k hk).2 h
        · have := o6 k hk; omega
      · have hk2 : w4.heap.size + 1 = k := by simpa using hk
        exact ⟨⟨by omega, by omega, by omega, fun h => by have := hItlt k h; have := hmd.size; omega⟩, fun hd => by have := hlg2.lt hd; omega⟩
    have hTf : ∀ k, (D k ∨ (Value.slice a6 pre.length c6).ownBlock = some k ∨ k = q + 1 + 1) → w.heap.size + 1 + 1 < k ∧ k ≠ q + 1 ∧ ¬ It k := by
      rintro k (h | h | rfl)
      · obtain ⟨f1, f2, _, f3⟩ := HCI.out.dd k h; exact ⟨f1, f2, f3⟩
      · obtain ⟨f1, f2, _, f3⟩ := (HF6.out k h).1; exact ⟨f1, f2, f3⟩
      · exact ⟨by omega, by omega, HIQ.out _ (by omega) (by omega)⟩
    have kp : ∀ k o, (k ≤ w.heap.size + 1 + 1 ∨ k = q + 1) → W.heap[k]? = some o → (w5.setCell ⟨q + 1 + 1, 0, none⟩ (.slice a7 (pre.length + 1) c7)).heap[k]? = some o := fun k o hk ho => hM6.heap (fun h => by obtain ⟨f1, f2, _⟩ := hTf k h; omega) ho
    have hns6 : ∀ k, (Value.slice a7 (pre.length + 1) c7).ownBlock = some k → ¬ k = q + 1 + 1 := fun k hk => (hfar k hk).1.2.2.1
    refine ⟨KeepsRec.of_mod hM6 ?_, KeepsIt.of_mod hM6 (fun k hk h => (hTf k h).2.2 hk), ⟨D', kp _ _ (by omega) HCI.out.r0, kp _ _ (by omega) HCI.out.r1, kp _ _ (by omega) HCI.out.r2, kp _ _ (by omega) HCI.out.o5, ⟨a7, c7, ?_, ?_, ?_⟩, ⟨sv2, _, hlg2.frame hB5 ?_ ?_, ?_⟩, ?_, ?_⟩, ?_⟩
    · intro k _ h o ho
      rcases h with h | h | rfl
      · rcases (HLG.out.dd k).1 h with rfl | e
        · rw [HLG.out.box] at ho; cases ho; rfl
        · obtain ⟨c, e⟩ := owns_type HLG.out.row e; rw [e] at ho; cases ho; rfl
      · obtain ⟨c, e⟩ := owns_type HR6.out h; rw [e] at ho; cases ho; rfl
      · rw [h6] at ho; cases ho; rfl
    · rw [List.length_append]
      simpa using heap_setCell_same w5 _ 0 _ _ (.slice a7 (pre.length + 1) c7) M7.out
    · rw [List.length_append, List.map_append]
      exact owns_mod hr7 ((Mod.refl (fun k => k = q + 1 + 1) w5).setCell (fun _ => rfl) _) hns6
    · rw [List.length_append]; exact hfar
    · rintro k hd (h | rfl)
      · rcases hgr k hd with h' | h'
        · exact (HF6.out k h).2 h'
        · have := o6 k h; omega
      · rcases hgr _ hd with h' | h'
        · exact ND.out _ (by omega) h'
        · omega
    · rintro k hk (h | rfl) cs fz e
      · obtain ⟨c, e'⟩ := owns_type (owns_mod HR6.out hmd (fun g hg => (HF6.out g hg).2)) h
        rw [e'] at e; cases e
      · rw [M6.out] at e; cases e
    · rw [List.map_append, HM1.out, List.map_append]; rfl
    · intro k hd
      rcases hgr k hd with h | h
      · exact HCI.out.dd k h
      · exact ⟨by omega, by omega, by omega, fun h' => by have := hItlt k h'; omega⟩
    · exact HCI.out.pu.then hM6 (fun k hk h => by have := (hTf k h).1; omega)
    · exact Nat.le_trans hWs hM6.size
  case done =>
    rintro l xs W hl hS ⟨⟨D, hI⟩, hWs⟩ hK
    have h0 := hI.r0
    have h1 := hI.r1
    have h2 := hI.r2
    have h5 := hI.o5
    obtain ⟨a6, c6, h6, hr6, hf6⟩ := hI.o6
    have HCI := Lib.hid hI
    have HS := Lib.hid hS
    have HK := Lib.hid hK
    have HR6 := Lib.hid hr6
    have HF6 := Lib.hid hf6
    have e0 := cell_of_row W _ 0 _ _ _ h0; have e1 := cell_of_row W _ 0 _ _ _ h1; have e11 := cell_of_row W _ 1 _ _ _ h1; have e2 := cell_of_row W _ 0 _ _ _ h2
    have e5 := cell_of_row W _ 0 _ _ _ h5; have e6 := cell_of_row W _ 0 _ _ _ h6; have e61 := cell_of_row W _ 1 _ _ _ h6
    simp at e0 e1 e11 e2 e5 e6 e61
    have hlt := lt_of_block h0; have hlt1 := lt_of_block h1; have hlt2 := lt_of_block h2
    clear hI hS hK hr6 hf6 HC hI0 HI hItlt
    have fr0 := fun j => frozen_of_row W _ j _ _ h0; have fr1 := fun j => frozen_of_row W _ j _ _ h1; have fr2 := fun j => frozen_of_row W _ j _ _ h2
    gi_wp2
    gi_region
    gi_wp2
    obtain ⟨Wf, hWf⟩ : ∃ Wf, ((((W.setCell ⟨w.heap.size, 0, none⟩ (.pointer (some ⟨q, 0, none⟩))).setCell ⟨w.heap.size + 1, 0, none⟩ (.slice a6 xs.length c6)).setCell ⟨w.heap.size + 1, 1, none⟩ (.int .i64 M.length)).setCell ⟨w.heap.size + 1 + 1, 0, none⟩ (.int .i64 0)).drew = Wf := ⟨_, rfl⟩
    have k0 : Wf.heap[w.heap.size]? = some (.cells #[.pointer (some ⟨q, 0, none⟩)] 58 (0, 0)) := by
      rw [← hWf]
      exact heap_set_other (heap_set_other (heap_set_other (heap_setCell_same W _ 0 _ _ (.pointer (some ⟨q, 0, none⟩)) h0) (by simp)) (by simp)) (by dsimp only; omega)
    have k1 : Wf.heap[w.heap.size + 1]? = some (.cells #[.slice a6 xs.length c6, .int .i64 M.length] 98 (0, 0)) := by
      rw [← hWf]
      exact heap_set_other (heap_setCell_same _ _ 1 _ _ (.int .i64 M.length) (heap_setCell_same _ _ 0 _ _ (.slice a6 xs.length c6) (heap_set_other h1 (by simp)))) (by simp)
    have k2 : Wf.heap[w.heap.size + 1 + 1]? = some (.cells #[.int .i64 0] 44 (0, 0)) := by
      rw [← hWf]
      exact heap_setCell_same _ _ 0 _ _ (.int .i64 0) (heap_set_other (heap_set_other (heap_set_other h2 (by dsimp only; omega)) (by simp)) (by simp))
    have hMf : Mod (fun k => w.heap.size ≤ k ∧ k ≤ w.heap.size + 1 + 1) W Wf := by
      rw [← hWf]
      exact (((((Mod.refl _ W).setCell (fun _ => ⟨by dsimp only; omega, by dsimp only; omega⟩) _).setCell (fun _ => ⟨by dsimp only; omega, by dsimp only; omega⟩) _).setCell (fun _ => ⟨by dsimp only; omega, by dsimp only; omega⟩) _).setCell (fun _ => ⟨by dsimp only; omega, by dsimp only; omega⟩) _).drew
    rw [hWf]
    have hKf : Wf.heap[l]? = some (.deferred (some [])) := hMf.heap (by omega) HK.out
    clear hWf h0 h1 h2 h5 h6 e0 e1 e11 e2 e5 e6 e61 fr0 fr1 fr2
    have hq : Quiet w3.heap.size Wf (Wf.putObj l (.deferred none)) := Quiet.putObj _ hl hKf rfl
    have z0 := cell_of_row _ _ 0 _ _ _ (hq.cells k0)
    have z1 := cell_of_row _ _ 0 _ _ _ (hq.cells k1)
    have z11 := cell_of_row _ _ 1 _ _ _ (hq.cells k1)
    have z2 := cell_of_row _ _ 0 _ _ _ (hq.cells k2)
    simp at z0 z1 z11 z2
    have hxs : (live (M.map Prod.fst)).length = xs.length := by rw [← HS.out, List.length_map]
    have hnot : ∀ k, w.heap.size + 1 + 1 < k → ¬ (w.heap.size ≤ k ∧ k ≤ w.heap.size + 1 + 1) := fun k h1 h2 => by omega
    refine bodyPostM_drained (v := .tuple #[.pointer (some ⟨q, 0, none⟩), .agg #[.slice a6 xs.length c6, .int .i64 M.length], .int .i64 0]) hKf (by simp [results, Tryz.results103, go_sem, z0, z1, z11, z2]) ?_
    obtain ⟨sv1, M1, hlg, hM1⟩ := HCI.out.lg
    refine ⟨q, a6, c6, D, sv1, M1, by rw [hxs, List.length_map], (hlg.frame hMf (fun k hk => hnot k (HCI.out.dd k hk).1) (fun k _ hk cs fz e => ?_)).quiet hq, ?_, ?_, ?_, fun k hk => by have := (HCI.out.dd k hk).1; omega, ?_⟩
    · have : k = w.heap.size ∨ k = w.heap.size + 1 ∨ k = w.heap.size + 1 + 1 := by omega
      rcases this with rfl | rfl | rfl
      · rw [HCI.out.r0] at e; cases e
      · rw [HCI.out.r1] at e; cases e
      · rw [HCI.out.r2] at e; cases e
    · rw [hM1, ← HS.out, List.map_map]; rfl
    · rw [hxs, ← HS.out, List.map_map]
      exact hq.owns (owns_mod HR6.out hMf (fun g hg => hnot g (HF6.out g hg).1.1))
    · exact hq.mod (HCI.out.pu.then hMf (fun k hk h => by omega)) hlw
    · rw [hxs]
      exact fun k hk => by have := (HF6.out k hk).1.1; omega
  case stop => exact fun _ _ _ _ _ h _ => h.elim
end Go.Proofs.YtpafcocciggfpaaGreat
