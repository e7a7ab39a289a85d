/- Lemmas and contracts of functions, strung together out of 4 texts. No condition. -/
import Derived.Test.YtlalpenfgkfkpaaDoorJPfCascadePlays11
import Derived.Test.YtlalpenfgkfkpaaDoorJPfCascadePlays8
import Derived.Deep.RegionHeld3
import Derived.Carry
/- cascade: New. Conditions: the time is one. -/
namespace Go.Proofs.YtlalpenfgkfkpaaDoor
open Go.RowKit
set_option maxRecDepth 100000
/-- The box while the levels are made. -/
def casN (now : Nat) (ws : List Nat) (bm bb : Nat) : List Value := .int .u64 now :: ((ws.map lkP ++ List.replicate (8 - ws.length) (.pointer none)) ++ [.map (some bm), .map (some bb)])
theorem casN_full {now bm bb : Nat} {ws : List Nat} (h : ws.length = 8) : casN now ws bm bb = casC now ws bm bb := by
  unfold casN casC
  rw [h]
  simp
theorem casN_set {now bm bb : Nat} {ws : List Nat} (h : ws.length < 8) (q : Nat) : (casN now ws bm bb).set (1 + ws.length) (lkP q) = casN now (ws ++ [q]) bm bb := by
  unfold casN
  obtain ⟨m, hm⟩ : ∃ m, 8 - ws.length = m + 1 := ⟨8 - ws.length - 1, by omega⟩
  have hm2 : 8 - (ws ++ [q]).length = m := by simp; omega
  rw [hm, hm2, show 1 + ws.length = ws.length + 1 from Nat.add_comm _ _, List.set_cons_succ, List.set_append_left _ _ (by simp), List.set_append_right _ _ (by simp)]
  simp [List.replicate_succ]
structure NwI (w wr : World) (p now bm bb i : Nat) (ws : List Nat) (Ds : Nat → Nat → Prop) : Prop where
  box : wr.heap[p]? = some (.cells (casN now ws bm bb).toArray 57 (0, 0))
  len : ws.length = i
  what : TMap wr bm [] (.map [])
  births : BMap wr bb [] (.map [])
  lev : ∀ (l q : Nat), ws[l]? = some q → WhAt wr (Ds l) q (List.replicate 256 [])
  apart : ∀ l l' k, l < i → l' < i → l ≠ l' → Ds l k → ¬ Ds l' k
  own : ∀ l k, l < i → Ds l k → p < k ∧ k < wr.heap.size
  ge : w.heap.size ≤ p ∧ w.heap.size ≤ bm ∧ w.heap.size ≤ bb ∧ bm < p ∧ bb < p ∧ bm ≠ bb
  pure : Pure w wr
theorem NwI.step {w wr w2 : World} {p now bm bb i q : Nat} {ws : List Nat} {Ds : Nat → Nat → Prop} {D2 : Nat → Prop} (h : NwI w wr p now bm bb i ws Ds) (hi : i < 8) (hw : WhAt w2 D2 q (List.replicate 256 [])) (hp : Pure wr w2) (hf : ∀ k, D2 k → wr.heap.size ≤ k) :
    NwI w (w2.setCell ⟨p, 1 + i, none⟩ (lkP q)) p now bm bb (i + 1) (ws ++ [q]) (setF Ds i D2) := by
  have hm : Mod (fun k => k = p) w2 (w2.setCell ⟨p, 1 + i, none⟩ (lkP q)) := (Mod.refl (fun k => k = p) w2).setCell (p := ⟨p, 1 + i, none⟩) (fun _ => rfl) _
  have hplt := lt_of_block h.box
  have hle := hp.size
  have hle2 := hm.size
  obtain ⟨g1, g2, g3, g4, g5, g6⟩ := h.ge
  have hb2 := hp.heap (fun h => h) h.box
  refine ⟨?_, by rw [List.length_append, h.len]; rfl, (h.what.mod hp (fun h => h)).mod hm (by show ¬ bm = p; omega), (h.births.mod hp (fun h => h)).mod hm (by show ¬ bb = p; omega), fun l q' hq => ?_, fun l l' k hl hl' hne hk => ?_, fun l k hl hk => ?_, h.ge, h.pure.trans hp |>.then hm (fun k hk e => by omega)⟩
  · rw [heap_setCell_same w2 p (1 + i) _ _ (lkP q) hb2, ← casN_set (by rw [h.len]; exact hi), h.len]
    congr 2
    exact List.setIfInBounds_toArray ..
  · unfold setF
    by_cases e : l = i
    · subst e
      rw [if_pos rfl]
      rw [List.getElem?_append_right (by rw [h.len]; exact Nat.le_refl _), h.len, Nat.sub_self] at hq
      cases hq
      exact hw.frame hm (fun k hk e => by have := hf k hk; omega)
    · rw [if_neg e]
      have hl : l < ws.length := by
        have := (List.getElem?_eq_some_iff.1 hq).1
        rw [List.length_append] at this
        have hln := h.len
        simp at this
        omega
      rw [List.getElem?_append_left hl] at hq
      exact ((h.lev l q' hq).pure hp).frame hm (fun k hk e => by have := (h.own l k (by rw [← h.len]; exact hl) hk).1; omega)
  · unfold setF at hk ⊢
    by_cases e : l = i
    · rw [if_pos e] at hk
      rw [if_neg (by omega)]
      intro hk3
      have := (h.own l' k (by omega) hk3).2
      have := hf k hk
      omega
    · rw [if_neg e] at hk
      by_cases e3 : l' = i
      · rw [if_pos e3]
        intro hk3
        have := (h.own l k (by omega) hk).2
        have := hf k hk3
        omega
      · rw [if_neg e3]
        exact h.apart l l' k (by omega) (by omega) hne hk
  · unfold setF at hk
    by_cases e : l = i
    · rw [if_pos e] at hk
      have h1 := hf k hk
      have h2 := hw.lt hk
      exact ⟨by omega, by omega⟩
    · rw [if_neg e] at hk
      have := h.own l k (by omega) hk
      exact ⟨this.1, by omega⟩
theorem NwI.fin {w wr : World} {p now bm bb : Nat} {ws : List Nat} {Ds : Nat → Nat → Prop} (h : NwI w wr p now bm bb 8 ws Ds) (hn : now < 18446744073709551616) : ∃ D, CasAt wr D p now [] ∧ ∀ k, D k → w.heap.size ≤ k := by
  obtain ⟨g1, g2, g3, g4, g5, g6⟩ := h.ge
  refine ⟨fun k => k = p ∨ k = bm ∨ k = bb ∨ ∃ l, l < 8 ∧ Ds l k, ⟨ws, bm, bb, Ds, .map [], .map [], List.replicate 8 (List.replicate 256 []), ⟨⟨?_, h.len, hn⟩, h.what, h.births, List.length_replicate, fun l q Ls hq hL => ?_, h.apart, fun l k hl hk => ?_, ⟨g6, by omega, by omega⟩, fun k => Iff.rfl⟩, PInv.new now, List.Pairwise.nil⟩, fun k hk => ?_⟩
  · rw [← casN_full h.len]; exact h.box
  · rw [List.getElem?_replicate] at hL
    split at hL
    · cases hL; exact h.lev l q hq
    · cases hL
  · have := (h.own l k hl hk).1
    exact ⟨by omega, by omega, by omega⟩
  · rcases hk with rfl | rfl | rfl | ⟨l, hl, hk⟩
    · exact g1
    · exact g2
    · exact g3
    · have := (h.own l k hl hk).1; omega
theorem NwI.cell {w wr w2 : World} {p now bm bb i : Nat} {ws : List Nat} {Ds : Nat → Nat → Prop} (h : NwI w wr p now bm bb i ws Ds) (hi : i < 8) (hp : Pure wr w2) : w2.cell? ⟨p, 1 + i, none⟩ = some (.pointer none) ∧ (∀ j, w2.frozen? ⟨p, j, none⟩ = false) ∧ p < w2.heap.size := by
  have hb2 := hp.heap (fun h => h) h.box
  refine ⟨?_, fun j => frozen_of_row w2 p j _ _ hb2, lt_of_block hb2⟩
  rw [cell_of_row w2 p (1 + i) _ _ (0, 0) hb2, List.getElem?_toArray]
  unfold casN
  have hl := h.len
  rw [show 1 + i = i + 1 from Nat.add_comm _ _, List.getElem?_cons_succ, List.getElem?_append_left (by simp; omega), List.getElem?_append_right (by simp; omega), List.getElem?_replicate, if_pos (by simp; omega)]
set_option maxHeartbeats 1000000 in
theorem cnew_ok (w : World) {now : Nat} (hn : now < 18446744073709551616) : Calls Tryd.prog 11 #[.int .u64 now] w fun e w' => ∃ p D, e = .returned (lkP p) ∧ CasAt w' D p now [] ∧ Pure w w' ∧ ∀ k, D k → w.heap.size ≤ k := by
  have t0 := TMap.new w
  have a1 : Pure w (w.alloc (.map #[] 0)) := (Mod.refl _ w).alloc _
  have a2 : Pure (w.alloc (.map #[] 0)) ((w.alloc (.map #[] 0)).alloc (.map #[] 0)) := (Mod.refl _ _).alloc _
  have b0 := BMap.new (w.alloc (.map #[] 0))
  have hs : (w.alloc (.map #[] 0)).heap.size = w.heap.size + 1 := by simp
  have hs2 : ((w.alloc (.map #[] 0)).alloc (.map #[] 0)).heap.size = w.heap.size + 2 := by simp
  have a3 : Pure ((w.alloc (.map #[] 0)).alloc (.map #[] 0)) (((w.alloc (.map #[] 0)).alloc (.map #[] 0)).alloc (.cells (casN now [] w.heap.size (w.heap.size + 1)).toArray 57)) := (Mod.refl _ _).alloc _
  have hI : NwI w (((w.alloc (.map #[] 0)).alloc (.map #[] 0)).alloc (.cells (casN now [] w.heap.size (w.heap.size + 1)).toArray 57)) (w.heap.size + 1 + 1) now w.heap.size (w.heap.size + 1) 0 [] (fun _ _ => False) :=
    ⟨heap_new hs2.symm, rfl, (t0.mod a2 (fun h => h)).mod a3 (fun h => h), by have := b0.mod a3 (fun h => h); rw [hs] at this; exact this, (fun l q h => by cases h), (fun l l' k h => by omega), (fun l k h => by omega), ⟨by omega, by omega, by omega, by omega, by omega, by omega⟩, (a1.trans a2).trans a3⟩
  have HI := Lib.hid hI; have HN := Lib.hid hn
  clear t0 a1 a2 b0 hs hs2 a3 hI
  have hmm := @run_makeMap Tryd.prog
  unfold casN at HI
  simp at HI
  go_enter Tryd.func11, Tryd.ntmps11
  go_upto_region 3 with fail
  generalize ((w.alloc (.map #[] 0)).alloc (.map #[] 0)).alloc (.cells #[.int .u64 now, .pointer none, .pointer none, .pointer none, .pointer none, .pointer none, .pointer none, .pointer none, .pointer none, .map (some w.heap.size), .map (some (w.heap.size + 1))] 57) = W at *
  obtain ⟨b, hb⟩ : ∃ b, w.heap.size = b := ⟨_, rfl⟩
  simp only [hb] at HI ⊢
  go_loopw [10] (fun v10 wr => ∃ (i : Nat) (ws : List Nat) (Ds : Nat → Nat → Prop), v10 = .int .i64 (i : Nat) ∧ i ≤ 8 ∧ NwI w wr (b + 1 + 1) now b (b + 1) i ws Ds) (fun v10 _ => 8 - (intOf v10).toNat)
  case atStart => exact ⟨0, [], _, rfl, Nat.zero_le _, HI.out⟩
  case round =>
    obtain ⟨i, ws, Ds, rfl, hi, hI⟩ := hrel
    have HIr := Lib.hid hI
    by_cases hlt : i < 8
    · have hlt' : (i : Int) < 8 := by omega
      have i0 : (0 : Int) ≤ (i : Int) := by omega
      have wi : IntKind.i64.wrap ((i : Int) + 1) = (i : Int) + 1 := IntWalk.i64_in _ (by omega)
      have dl8 : decide (i < 8) = true := decide_eq_true hlt
      have hW := wnew_ok
      have HW := Lib.hid hW
      have hbx := hI.box
      have hfz := fun j => frozen_of_row wr (b + 1 + 1) j _ _ hbx
      have hcl := lt_of_block hbx
      clear hI hW hbx
      go_upto_region 5 with fail
      go_region_held3 (fun _ => True) (trivial)
        (first | (go_at_call 45; refine Calls.mono (HW.out _) ?_; rintro e w2 ⟨q, D2, rfl, hw2, hp2, hf2⟩; obtain ⟨z1, z2, z3⟩ := HIr.out.cell hlt (w2 := w2) (by first | exact hp2 | exact Mod.of_drew hp2)))
      have hst := HIr.out.step hlt hw2 (by first | exact hp2 | exact Mod.of_drew hp2) (by exact hf2)
      have HSt := Lib.hid hst
      clear hw2 hp2 hf2 hst
      go_wp2
      go_roundw
      case rel => exact ⟨i + 1, ws ++ [q], _, by go_num, hlt, HSt.out⟩
      case measure => simp [intOf]; omega
    · have e : i = 8 := by omega
      subst e
      obtain ⟨D, hD, hge⟩ := HIr.out.fin HN.out
      have hp := HIr.out.pure
      clear hI
      go_wp2
      go_ret
      exact ⟨b + 1 + 1, D, rfl, hD, hp, hge⟩
end Go.Proofs.YtlalpenfgkfkpaaDoor

/- law20.known: it returns true. Condition: the table of math/bits lies in memory. -/
namespace Go.Proofs.YtlalpenfgkfkpaaDoor
open Go.RowKit
set_option maxRecDepth 100000
/-- A cascade that was made since w0. -/
structure KnS (w0 w : World) (D : Nat → Prop) (p now : Nat) (L : List Td) : Prop where
  t : CasT w D p now L
  ge : ∀ k, D k → w0.heap.size ≤ k
  pu : Pure w0 w
section
variable {w0 w w' : World} {D : Nat → Prop} {p now tt : Nat} {L : List Td}
theorem KnS.pure (h : KnS w0 w D p now L) (hm : Pure w w') : KnS w0 w' D p now L := ⟨h.t.pure hm, h.ge, h.pu.trans hm⟩
theorem KnS.step (h : KnS w0 w D p now L) {D' : Nat → Prop} {now' : Nat} {L' : List Td} (hc : CasT w' D' p now' L') (hg : grewD D D' w) (hm : Mod D w w') : KnS w0 w' D' p now' L' :=
  ⟨hc, fun k hk => by
    rcases hg k hk with e | e
    · exact h.ge k e
    · have := h.pu.size; omega, h.pu.then hm (fun k hk e => by have := h.ge k e; omega)⟩
theorem KnS.new (hT : TabW w) (hn : now < 18446744073709551616) : Calls Tryd.prog 11 #[.int .u64 now] w fun e w' => ∃ p D, e = .returned (lkP p) ∧ KnS w w' D p now [] := by
  refine (cnew_ok w hn).mono ?_
  rintro e w' ⟨p, D, rfl, hc, hp, hf⟩
  exact ⟨p, D, rfl, ⟨hc, hT.pure hp, fun e => by have := hf 0 e; have := hT.lt; omega⟩, hf, hp⟩
theorem KnS.sched (h : KnS w0 w D p now L) {x : Td} {r : Int} {L' : List Td} (hr : schR now L x = r) (hL : schL now L x = L') (h32 : x.slot ≤ 4294967295) (hd : x.dl ≤ 18446744073709551615) (hb : x.birth ≤ 18446744073709551615) :
    Calls Tryd.prog 13 #[lkP p, tdV x] w fun e w' => e = .returned (.int .i64 r) ∧ ∃ D', KnS w0 w' D' p now L' := by
  refine (h.t.at_.sched h32 hd hb (by have := h.t.at_.count; unfold maxLen; omega)).mono ?_
  rintro e w' ⟨rfl, ⟨D', hc, hg⟩, hm⟩
  rw [hL] at hc
  exact ⟨by rw [hr], D', h.step (h.t.next hc hg hm) hg hm⟩
theorem KnS.resched (h : KnS w0 w D p now L) {s dl : Nat} {r : Int} {L' : List Td} (hr : resR now L s dl = r) (hL : resL now L s dl = L') (h32 : s ≤ 4294967295) (hd : dl ≤ 18446744073709551615) :
    Calls Tryd.prog 25 #[lkP p, .int .u32 s, .int .u64 dl] w fun e w' => e = .returned (.int .i64 r) ∧ ∃ D', KnS w0 w' D' p now L' := by
  refine (h.t.at_.resched h32 hd (by have := h.t.at_.count; unfold maxLen; omega)).mono ?_
  rintro e w' ⟨rfl, ⟨D', hc, hg⟩, hm⟩
  rw [hL] at hc
  exact ⟨by rw [hr], D', h.step (h.t.next hc hg hm) hg hm⟩
theorem KnS.where_ (h : KnS w0 w D p now L) {s : Nat} {l b er : Int} (he : whE now L s = .tuple #[.int .i64 l, .int .i64 b, .int .i64 er]) (h32 : s ≤ 4294967295) :
    Calls Tryd.prog 26 #[lkP p, .int .u32 s, .int .i64 l, .int .i64 b, .int .i64 er] w fun e w' => e = .returned (.bool true) ∧ KnS w0 w' D p now L := by
  refine (where_ok h.t.at_ h32 he).mono ?_
  rintro e w' ⟨rfl, hp⟩
  exact ⟨rfl, h.pure hp⟩
theorem KnS.adv (h : KnS w0 w D p now L) {now' : Nat} {L' : List Td} {er : Int} (l : List Td) (a2 : Option Addr) (n2 c2 : Nat) (ho : aOut now tt L = l) (hn : n2 = l.length) (hN : aNow now tt = now') (hL : aRest now tt L = L') (he : er = aErr now tt) (ht : tt < 18446744073709551616)
    (hw : ReadAt w (.slice a2 n2 c2) 3 (l.flatMap tdC)) (hwD : ∀ g, rdBlock (.slice a2 n2 c2) = some g → ¬ D g) :
    Calls Tryd.prog 22 #[lkP p, .int .u64 tt, .slice a2 n2 c2, .int .i64 er] w fun e w' => e = .returned (.bool true) ∧ ∃ D', KnS w0 w' D' p now' L' := by
  subst ho
  refine (advances_ok h.t ht hn hw hwD he).mono ?_
  rintro e w' ⟨rfl, ⟨D', hc, hg⟩, hm⟩
  rw [hN, hL] at hc
  exact ⟨rfl, D', h.step hc hg hm⟩
theorem KnS.next (h : KnS w0 w D p now L) {n : Nat} (hn : nextD L = n) : Calls Tryd.prog 27 #[lkP p] w fun e w' => e = .returned (.int .u64 n) ∧ KnS w0 w' D p now L := by
  refine (h.t.at_.next h.t.tab).mono ?_
  rintro e w' ⟨rfl, hp⟩
  exact ⟨by rw [hn], h.pure hp⟩
theorem KnS.len (h : KnS w0 w D p now L) {n : Nat} (hn : L.length = n) : Calls Tryd.prog 15 #[lkP p] w fun e w' => e = .returned (.int .i64 n) ∧ KnS w0 w' D p now L := by
  refine h.t.at_.len_.mono ?_
  rintro e w' ⟨rfl, rfl⟩
  exact ⟨by rw [hn], h⟩
theorem KnS.lt (h : KnS w0 w D p now L) {k : Nat} (hk : D k) : k < w.heap.size := h.t.at_.lt hk
/-- A list that is made on the spot. -/
theorem lit_read (l : List Td) {n : Nat} (hn : l.length = n) : ReadAt (w.alloc (.cells (l.flatMap tdC).toArray 31)) (.slice (some ⟨w.heap.size, 0, none⟩) n n) 3 (l.flatMap tdC) := by
  have := ReadAt.of_block (w := w.alloc (.cells (l.flatMap tdC).toArray 31)) n n 3 (heap_new rfl) (by rw [List.toList_toArray, flat_length tdC 3 (fun _ => rfl), hn]) (by rw [List.toList_toArray]; exact tdC_one l)
  exact this
theorem lit_off (h : KnS w0 w D p now L) {n : Nat} : ∀ g, rdBlock (.slice (some ⟨w.heap.size, 0, none⟩) n n) = some g → ¬ D g := fun g hg hk => by
  have := h.lt hk
  have e := rdBlock_own hg
  injection e with e
  subst e
  exact Nat.lt_irrefl _ this
end
abbrev ka : Td := ⟨1, 255, 1⟩
abbrev kb : Td := ⟨2, 256, 2⟩
abbrev kc : Td := ⟨3, 300, 3⟩
abbrev kd : Td := ⟨4, 70000, 4⟩
abbrev ke : Td := ⟨4, 300, 4⟩
abbrev kf : Td := ⟨7, 18446744073709551614, 9⟩
theorem q1 : schR 250 [] ka = 0 ∧ schL 250 [] ka = [ka] := ⟨by decide, rfl⟩
theorem q2 : schR 250 [ka] kb = 0 ∧ schL 250 [ka] kb = [ka, kb] := ⟨by decide, rfl⟩
theorem q3 : schR 250 [ka, kb] kc = 0 ∧ schL 250 [ka, kb] kc = [ka, kb, kc] := ⟨by decide, rfl⟩
theorem q4 : schR 250 [ka, kb, kc] kd = 0 ∧ schL 250 [ka, kb, kc] kd = [ka, kb, kc, kd] := ⟨by decide, rfl⟩
theorem q5 : whE 250 [ka, kb, kc, kd] 1 = .tuple #[.int .i64 0, .int .i64 255, .int .i64 0] := rfl
theorem q6 : whE 250 [ka, kb, kc, kd] 3 = .tuple #[.int .i64 1, .int .i64 1, .int .i64 0] := rfl
theorem q7 : whE 250 [ka, kb, kc, kd] 4 = .tuple #[.int .i64 2, .int .i64 1, .int .i64 0] := rfl
theorem q8 : aOut 250 255 [ka, kb, kc, kd] = [ka] ∧ aNow 250 255 = 255 ∧ aRest 250 255 [ka, kb, kc, kd] = [kb, kc, kd] ∧ 0 = aErr 250 255 := ⟨rfl, rfl, rfl, rfl⟩
theorem q9 : whE 255 [kb, kc, kd] 3 = .tuple #[.int .i64 1, .int .i64 1, .int .i64 0] := rfl
theorem q10 : aOut 255 256 [kb, kc, kd] = [kb] ∧ aNow 255 256 = 256 ∧ aRest 255 256 [kb, kc, kd] = [kc, kd] ∧ 0 = aErr 255 256 := ⟨rfl, rfl, rfl, rfl⟩
theorem q11 : whE 256 [kc, kd] 3 = .tuple #[.int .i64 0, .int .i64 44, .int .i64 0] := rfl
theorem q12 : resR 256 [kc, kd] 4 300 = 0 ∧ resL 256 [kc, kd] 4 300 = [kc, ke] := ⟨by decide, rfl⟩
theorem q13 : schR 256 [kc, ke] ⟨5, 300, 0⟩ = 2 ∧ schL 256 [kc, ke] ⟨5, 300, 0⟩ = [kc, ke] := ⟨by decide, rfl⟩
theorem q14 : schR 256 [kc, ke] ⟨5, 256, 9⟩ = 3 ∧ schL 256 [kc, ke] ⟨5, 256, 9⟩ = [kc, ke] := ⟨by decide, rfl⟩
theorem q15 : schR 256 [kc, ke] ⟨5, 300, 3⟩ = 11 ∧ schL 256 [kc, ke] ⟨5, 300, 3⟩ = [kc, ke] := ⟨by decide, rfl⟩
theorem q16 : aOut 256 1000 [kc, ke] = [kc, ke] ∧ aNow 256 1000 = 1000 ∧ aRest 256 1000 [kc, ke] = [] ∧ 0 = aErr 256 1000 := ⟨rfl, rfl, rfl, rfl⟩
theorem q17 : schR 1000 [] ⟨7, 18446744073709551615, 9⟩ = 2 ∧ schL 1000 [] ⟨7, 18446744073709551615, 9⟩ = [] := ⟨by decide, rfl⟩
theorem q18 : schR 1000 [] kf = 0 ∧ schL 1000 [] kf = [kf] := ⟨by decide, rfl⟩
theorem q19 : whE 1000 [kf] 7 = .tuple #[.int .i64 7, .int .i64 255, .int .i64 0] := rfl
theorem q20 : aOut 1000 999 [kf] = [] ∧ aNow 1000 999 = 1000 ∧ aRest 1000 999 [kf] = [kf] ∧ 3 = aErr 1000 999 := ⟨rfl, rfl, rfl, rfl⟩
theorem q21 : aOut 1000 18446744073709551615 [kf] = [kf] ∧ aNow 1000 18446744073709551615 = 18446744073709551615 ∧ aRest 1000 18446744073709551615 [kf] = [] ∧ 0 = aErr 1000 18446744073709551615 := ⟨rfl, rfl, rfl, rfl⟩
set_option maxHeartbeats 4000000 in
theorem known20_ok (w : World) (hT : TabW w) : Calls Tryd.prog 10 #[] w fun e w' => e = .returned (.bool true) ∧ Pure w w' := by
  have HN := Lib.hid (KnS.new (now := 250) hT (by decide))
  have HTm := Lib.hid timed_ok
  clear hT
  have U1 : True := trivial
  have U2 : True := trivial
  have U3 : True := trivial
  have U4 : True := trivial
  have U5 : True := trivial
  have U6 : True := trivial
  have U7 : True := trivial
  have U8 : True := trivial
  have U9 : True := trivial
  have U10 : True := trivial
  have U11 : True := trivial
  have U12 : True := trivial
  have U13 : True := trivial
  have U14 : True := trivial
  have T1 : True := trivial
  have T2 : True := trivial
  have T3 : True := trivial
  have T4 : True := trivial
  have T5 : True := trivial
  have T6 : True := trivial
  have T7 : True := trivial
  have T8 : True := trivial
  have T9 : True := trivial
  have T10 : True := trivial
  have T11 : True := trivial
  have T12 : True := trivial
  have T13 : True := trivial
  have T14 : True := trivial
  have T15 : True := trivial
  have T16 : True := trivial
  have T17 : True := trivial
  have T18 : True := trivial
  have T19 : True := trivial
  have T20 : True := trivial
  have T21 : True := trivial
  go_enter Tryd.func10, Tryd.ntmps10
  go_upto_region 2 with (go_at_call 11; refine Calls.mono HN.out ?_; rintro e w1 ⟨p, D, rfl, hs⟩; have HS := Lib.hid hs; clear hs)
  go_upto_region 4 with (first
    | (go_at_call 12; clear U1; refine Calls.mono (HTm.out 1 255 1 _) ?_; rintro e w' ⟨rfl, hp⟩; replace HS := Lib.hid (HS.out.pure hp); clear hp)
    | (go_at_call 12; clear U2; refine Calls.mono (HTm.out 2 256 2 _) ?_; rintro e w' ⟨rfl, hp⟩; replace HS := Lib.hid (HS.out.pure hp); clear hp)
    | (go_at_call 12; clear U3; refine Calls.mono (HTm.out 3 300 3 _) ?_; rintro e w' ⟨rfl, hp⟩; replace HS := Lib.hid (HS.out.pure hp); clear hp)
    | (go_at_call 12; clear U4; refine Calls.mono (HTm.out 4 70000 4 _) ?_; rintro e w' ⟨rfl, hp⟩; replace HS := Lib.hid (HS.out.pure hp); clear hp)
    | (go_at_call 13; clear T1; refine Calls.mono (HS.out.sched (x := ka) q1.1 q1.2 (by decide) (by decide) (by decide)) ?_; rintro e w' ⟨rfl, D', hs⟩; replace HS := Lib.hid hs; clear hs)
    | (go_at_call 13; clear T2; refine Calls.mono (HS.out.sched (x := kb) q2.1 q2.2 (by decide) (by decide) (by decide)) ?_; rintro e w' ⟨rfl, D', hs⟩; replace HS := Lib.hid hs; clear hs)
    | (go_at_call 13; clear T3; refine Calls.mono (HS.out.sched (x := kc) q3.1 q3.2 (by decide) (by decide) (by decide)) ?_; rintro e w' ⟨rfl, D', hs⟩; replace HS := Lib.hid hs; clear hs)
    | (go_at_call 13; clear T4; refine Calls.mono (HS.out.sched (x := kd) q4.1 q4.2 (by decide) (by decide) (by decide)) ?_; rintro e w' ⟨rfl, D', hs⟩; replace HS := Lib.hid hs; clear hs)
    | (go_at_call 26; clear T5; refine Calls.mono (HS.out.where_ (s := 1) q5 (by decide)) ?_; rintro e w' ⟨rfl, hs⟩; replace HS := Lib.hid hs; clear hs)
    | (go_at_call 26; clear T6; refine Calls.mono (HS.out.where_ (s := 3) q6 (by decide)) ?_; rintro e w' ⟨rfl, hs⟩; replace HS := Lib.hid hs; clear hs)
    | (go_at_call 26; clear T7; refine Calls.mono (HS.out.where_ (s := 4) q7 (by decide)) ?_; rintro e w' ⟨rfl, hs⟩; replace HS := Lib.hid hs; clear hs))
  go_upto_region 6 with (first
    | (go_at_call 12; clear U5; refine Calls.mono (HTm.out 1 255 1 _) ?_; rintro e w' ⟨rfl, hp⟩; replace HS := Lib.hid (HS.out.pure hp); clear hp)
    | (go_at_call 12; clear U6; refine Calls.mono (HTm.out 2 256 2 _) ?_; rintro e w' ⟨rfl, hp⟩; replace HS := Lib.hid (HS.out.pure hp); clear hp)
    | (go_at_call 22; clear T8; refine Calls.mono ((HS.out.pure ((Mod.refl _ _).alloc _)).adv (tt := 255) [ka] _ _ _ q8.1 rfl q8.2.1 q8.2.2.1 q8.2.2.2 (by decide) (lit_read [ka] (n := 1) rfl) (lit_off HS.out)) ?_; rintro e w' ⟨rfl, D', hs⟩; replace HS := Lib.hid hs; clear hs)
    | (go_at_call 26; clear T9; refine Calls.mono (HS.out.where_ (s := 3) q9 (by decide)) ?_; rintro e w' ⟨rfl, hs⟩; replace HS := Lib.hid hs; clear hs)
    | (go_at_call 22; clear T10; refine Calls.mono ((HS.out.pure ((Mod.refl _ _).alloc _)).adv (tt := 256) [kb] _ _ _ q10.1 rfl q10.2.1 q10.2.2.1 q10.2.2.2 (by decide) (lit_read [kb] (n := 1) rfl) (lit_off HS.out)) ?_; rintro e w' ⟨rfl, D', hs⟩; replace HS := Lib.hid hs; clear hs)
    | (go_at_call 26; clear T11; refine Calls.mono (HS.out.where_ (s := 3) q11 (by decide)) ?_; rintro e w' ⟨rfl, hs⟩; replace HS := Lib.hid hs; clear hs)
    | (go_at_call 27; refine Calls.mono (HS.out.next (n := 300) rfl) ?_; rintro e w' ⟨rfl, hs⟩; replace HS := Lib.hid hs; clear hs))
  go_upto_region 8 with (first
    | (go_at_call 25; refine Calls.mono (HS.out.resched (s := 4) (dl := 300) q12.1 q12.2 (by decide) (by decide)) ?_; rintro e w' ⟨rfl, D', hs⟩; replace HS := Lib.hid hs; clear hs)
    | (go_at_call 12; clear U7; refine Calls.mono (HTm.out 5 300 0 _) ?_; rintro e w' ⟨rfl, hp⟩; replace HS := Lib.hid (HS.out.pure hp); clear hp)
    | (go_at_call 12; clear U8; refine Calls.mono (HTm.out 5 256 9 _) ?_; rintro e w' ⟨rfl, hp⟩; replace HS := Lib.hid (HS.out.pure hp); clear hp)
    | (go_at_call 12; clear U9; refine Calls.mono (HTm.out 5 300 3 _) ?_; rintro e w' ⟨rfl, hp⟩; replace HS := Lib.hid (HS.out.pure hp); clear hp)
    | (go_at_call 12; clear U10; refine Calls.mono (HTm.out 3 300 3 _) ?_; rintro e w' ⟨rfl, hp⟩; replace HS := Lib.hid (HS.out.pure hp); clear hp)
    | (go_at_call 12; clear U11; refine Calls.mono (HTm.out 4 300 4 _) ?_; rintro e w' ⟨rfl, hp⟩; replace HS := Lib.hid (HS.out.pure hp); clear hp)
    | (go_at_call 13; clear T13; refine Calls.mono (HS.out.sched (x := ⟨5, 300, 0⟩) q13.1 q13.2 (by decide) (by decide) (by decide)) ?_; rintro e w' ⟨rfl, D', hs⟩; replace HS := Lib.hid hs; clear hs)
    | (go_at_call 13; clear T14; refine Calls.mono (HS.out.sched (x := ⟨5, 256, 9⟩) q14.1 q14.2 (by decide) (by decide) (by decide)) ?_; rintro e w' ⟨rfl, D', hs⟩; replace HS := Lib.hid hs; clear hs)
    | (go_at_call 13; clear T15; refine Calls.mono (HS.out.sched (x := ⟨5, 300, 3⟩) q15.1 q15.2 (by decide) (by decide) (by decide)) ?_; rintro e w' ⟨rfl, D', hs⟩; replace HS := Lib.hid hs; clear hs)
    | (go_at_call 22; clear T16; refine Calls.mono ((HS.out.pure ((Mod.refl _ _).alloc _)).adv (tt := 1000) [kc, ke] _ _ _ q16.1 rfl q16.2.1 q16.2.2.1 q16.2.2.2 (by decide) (lit_read [kc, ke] (n := 2) rfl) (lit_off HS.out)) ?_; rintro e w' ⟨rfl, D', hs⟩; replace HS := Lib.hid hs; clear hs)
    | (go_at_call 15; refine Calls.mono (HS.out.len (n := 0) rfl) ?_; rintro e w' ⟨rfl, hs⟩; replace HS := Lib.hid hs; clear hs))
  go_wp2_with (first
    | (go_at_call 12; clear U12; refine Calls.mono (HTm.out 7 18446744073709551615 9 _) ?_; rintro e w' ⟨rfl, hp⟩; replace HS := Lib.hid (HS.out.pure hp); clear hp)
    | (go_at_call 12; clear U13; refine Calls.mono (HTm.out 7 18446744073709551614 9 _) ?_; rintro e w' ⟨rfl, hp⟩; replace HS := Lib.hid (HS.out.pure hp); clear hp)
    | (go_at_call 12; clear U14; refine Calls.mono (HTm.out 7 18446744073709551614 9 _) ?_; rintro e w' ⟨rfl, hp⟩; replace HS := Lib.hid (HS.out.pure hp); clear hp)
    | (go_at_call 13; clear T17; refine Calls.mono (HS.out.sched (x := ⟨7, 18446744073709551615, 9⟩) q17.1 q17.2 (by decide) (by decide) (by decide)) ?_; rintro e w' ⟨rfl, D', hs⟩; replace HS := Lib.hid hs; clear hs)
    | (go_at_call 13; clear T18; refine Calls.mono (HS.out.sched (x := kf) q18.1 q18.2 (by decide) (by decide) (by decide)) ?_; rintro e w' ⟨rfl, D', hs⟩; replace HS := Lib.hid hs; clear hs)
    | (go_at_call 26; clear T19; refine Calls.mono (HS.out.where_ (s := 7) q19 (by decide)) ?_; rintro e w' ⟨rfl, hs⟩; replace HS := Lib.hid hs; clear hs)
    | (go_at_call 22; clear T20; refine Calls.mono (HS.out.adv (tt := 999) [] _ _ _ q20.1 rfl q20.2.1 q20.2.2.1 q20.2.2.2 (by decide) (ReadAt.nil _ _) (fun g hg => by cases hg)) ?_; rintro e w' ⟨rfl, D', hs⟩; replace HS := Lib.hid hs; clear hs)
    | (go_at_call 22; clear T21; refine Calls.mono ((HS.out.pure ((Mod.refl _ _).alloc _)).adv (tt := 18446744073709551615) [kf] _ _ _ q21.1 rfl q21.2.1 q21.2.2.1 q21.2.2.2 (by decide) (lit_read [kf] (n := 1) rfl) (lit_off HS.out)) ?_; rintro e w' ⟨rfl, D', hs⟩; replace HS := Lib.hid hs; clear hs))
  go_ret
  exact ⟨rfl, HS.out.pu⟩
end Go.Proofs.YtlalpenfgkfkpaaDoor

/- law20.CascadeHolds by plain lists. No condition. -/
namespace Go.Proofs.YtlalpenfgkfkpaaDoor
section
variable {now one two tt : Nat} {L tk : List Td}
theorem takeWhile_split (h : one ≤ two) : ∀ (L : List Td), dueL one L ++ dueL two (restL one L) = dueL two L ∧ restL two (restL one L) = restL two L
  | [] => ⟨rfl, rfl⟩
  | a :: L => by
    have ih := takeWhile_split h L
    unfold dueL restL at *
    by_cases c : a.dl ≤ one
    · have c2 : a.dl ≤ two := by omega
      simp only [List.takeWhile_cons, List.dropWhile_cons, c, c2, decide_true, if_true, List.cons_append, ih.1, ih.2, and_self]
    · simp only [List.takeWhile_cons, List.dropWhile_cons, c, decide_false, Bool.false_eq_true, if_false, List.nil_append, and_self]
theorem aOut_all (hn : ∀ x ∈ L, now < x.dl) (h : now ≤ tt) : aOut now tt L = dueL tt L ∧ aRest now tt L = restL tt L ∧ aNow now tt = tt ∧ aErr now tt = 0 := by
  unfold aOut aRest aNow aErr
  by_cases c : now < tt
  · rw [if_pos c, if_pos c, if_pos c, if_neg (by omega)]
    exact ⟨rfl, rfl, rfl, rfl⟩
  · have e : now = tt := by omega
    subst e
    rw [if_neg c, if_neg c, if_neg c, if_neg c]
    unfold dueL restL
    have hz : ∀ (A : List Td), (∀ x ∈ A, now < x.dl) → A.takeWhile (fun x => decide (x.dl ≤ now)) = [] ∧ A.dropWhile (fun x => decide (x.dl ≤ now)) = A := fun A hA => by
      cases A with
      | nil => exact ⟨rfl, rfl⟩
      | cons a A =>
        have := hA a List.mem_cons_self
        have c : ¬ a.dl ≤ now := by omega
        simp [c]
    exact ⟨(hz L hn).1.symm, (hz L hn).2.symm, rfl, rfl⟩
theorem rest_gt (hs : L.Pairwise bef) : ∀ x ∈ restL tt L, tt < x.dl := fun x hx => by
  unfold restL at hx
  rw [(takeWhile_filter hs).2] at hx
  have := (List.mem_filter.1 hx).2
  simp at this
  omega
theorem due_le (hs : L.Pairwise bef) {x : Td} : x ∈ dueL tt L ↔ x ∈ L ∧ x.dl ≤ tt := by
  unfold dueL
  rw [(takeWhile_filter hs).1, List.mem_filter]
  simp
theorem rest_mem (hs : L.Pairwise bef) {x : Td} : x ∈ restL tt L ↔ x ∈ L ∧ tt < x.dl := by
  unfold restL
  rw [(takeWhile_filter hs).2, List.mem_filter]
  simp
theorem holds_sum (hs : L.Pairwise bef) (hn : ∀ x ∈ L, now < x.dl) (h1 : now ≤ one) (h2 : one ≤ two) : dueL one L ++ dueL two (restL one L) = dueL two L := (takeWhile_split h2 L).1
theorem due_pos (hs : L.Pairwise bef) (h2 : one ≤ two) {i : Nat} {x : Td} (hx : (dueL two L)[i]? = some x) : (i < (dueL one L).length → x.dl ≤ one) ∧ ((dueL one L).length ≤ i → one < x.dl) := by
  rw [← (takeWhile_split h2 L).1] at hx
  constructor
  · intro h
    rw [List.getElem?_append_left h] at hx
    exact ((due_le hs).1 (List.mem_of_getElem? hx)).2
  · intro h
    rw [List.getElem?_append_right h] at hx
    have := List.mem_of_getElem? hx
    unfold dueL at this
    exact rest_gt hs x ((List.takeWhile_sublist _).subset this)
theorem all_while {p : Td → Bool} : ∀ (A : List Td), (∀ x ∈ A, p x = true) → A.takeWhile p = A ∧ A.dropWhile p = []
  | [], _ => ⟨rfl, rfl⟩
  | a :: A, h => by
    obtain ⟨i1, i2⟩ := all_while A (fun x hx => h x (List.mem_cons_of_mem _ hx))
    have := h a List.mem_cons_self
    simp [this, i1, i2]
theorem due_never (h : ∀ x ∈ L, x.dl < 18446744073709551615) : dueL 18446744073709551615 L = L ∧ restL 18446744073709551615 L = [] :=
  all_while L (fun x hx => by have := h x hx; simp; omega)
theorem due_rest_len : (dueL tt L).length + (restL tt L).length = L.length := by
  unfold dueL restL
  rw [← List.length_append, List.takeWhile_append_dropWhile]
theorem find_first (hu : ∀ x ∈ L, ∀ y ∈ L, x.slot = y.slot → x = y) (hnd : L.Nodup) {i : Nat} {x : Td} (hx : L[i]? = some x) : findR (L.take i) x.slot = -1 := by
  apply find_spec0
  intro j y hy e
  rw [List.getElem?_take] at hy
  split at hy
  · rename_i hj
    have hi := (List.getElem?_eq_some_iff.1 hx).1
    have hxm := List.mem_of_getElem? hx
    have hym := List.mem_of_getElem? hy
    have := hu y hym x hxm e
    subst this
    have hjl := (List.getElem?_eq_some_iff.1 hy).1
    have e1 := (List.getElem?_eq_some_iff.1 hx).2
    have e2 := (List.getElem?_eq_some_iff.1 hy).2
    exact (List.pairwise_iff_getElem.1 hnd) j i hjl hi hj (by rw [e1, e2])
  · cases hy
theorem find_in {s : Nat} (h : ∃ x ∈ L, x.slot = s) : 0 ≤ findR L s := by
  have := hasB_iff.2 h
  unfold findR
  rw [if_pos this]
  omega
theorem find_out {s : Nat} (h : ∀ x ∈ L, x.slot ≠ s) : findR L s = -1 := by
  unfold findR
  rw [if_neg]
  intro hh
  obtain ⟨x, hx, e⟩ := hasB_iff.1 hh
  exact h x hx e
theorem get_in (hu : ∀ x ∈ L, ∀ y ∈ L, x.slot = y.slot → x = y) {x : Td} (hx : x ∈ L) (hs : x.slot < 4194304) : getT L x.slot = (x, 0) := by
  rcases getT_cases L x.slot with ⟨_, _, y, e1, e2, e3, _⟩ | ⟨h1 | h1, _⟩
  · rw [e1, hu y (List.mem_of_getElem? e3) x hx e2]
  · exact absurd hs h1
  · have := hasB_iff.2 ⟨x, hx, rfl⟩
    rw [h1] at this
    cases this
theorem get_out {s : Nat} (h : ∀ x ∈ L, x.slot ≠ s) (hs : s < 4194304) : getT L s = (zTd, 9) := by
  refine getT_miss hs (find_none ?_)
  cases hh : hasB L s with
  | false => rfl
  | true => obtain ⟨x, hx, e⟩ := hasB_iff.1 hh; exact absurd e (h x hx)
/-- What was taken so far. -/
structure Tak (now i : Nat) (tk L : List Td) : Prop where
  perm : tk.Perm L
  slots : ∀ x ∈ tk, x.slot < i ∧ x.birth = x.slot + 1
  len : tk.length ≤ i
theorem Tak.new (now : Nat) : Tak now 0 [] [] := ⟨List.Perm.refl _, (fun _ h => by cases h), Nat.le_refl _⟩
theorem Tak.next {i d : Nat} (h : Tak now i tk L) (hi : i < 4194304) : (schR now L ⟨i, d, i + 1⟩ = 0 ∧ Tak now (i + 1) (tk ++ [⟨i, d, i + 1⟩]) (schL now L ⟨i, d, i + 1⟩)) ∨ (schR now L ⟨i, d, i + 1⟩ ≠ 0 ∧ Tak now (i + 1) tk (schL now L ⟨i, d, i + 1⟩)) := by
  have n1 : hasB L i = false := by
    cases hh : hasB L i with
    | false => rfl
    | true =>
      obtain ⟨y, hy, e⟩ := hasB_iff.1 hh
      have := (h.slots y (h.perm.mem_iff.2 hy)).1
      omega
  have n2 : bornB L (i + 1) = false := by
    cases hh : bornB L (i + 1) with
    | false => rfl
    | true =>
      obtain ⟨y, hy, e⟩ := bornB_iff.1 hh
      have := h.slots y (h.perm.mem_iff.2 hy)
      omega
  by_cases e : schE now ⟨i, d, i + 1⟩ = 0
  · have er : schR now L ⟨i, d, i + 1⟩ = 0 := by unfold schR; rw [if_pos e]; simp [n1, n2]
    refine .inl ⟨er, ?_, fun x hx => ?_, ?_⟩
    · unfold schL
      rw [if_pos er]
      exact (List.perm_append_comm.trans (h.perm.cons _)).trans putL_perm.symm
    · rcases List.mem_append.1 hx with hx | hx
      · have := h.slots x hx
        exact ⟨by omega, this.2⟩
      · rw [List.mem_singleton] at hx
        rw [hx]
        exact ⟨by show i < i + 1; omega, rfl⟩
    · rw [List.length_append]
      have := h.len
      simp
      omega
  · have er : schR now L ⟨i, d, i + 1⟩ ≠ 0 := by unfold schR; rw [if_neg e]; exact e
    refine .inr ⟨er, ?_, fun x hx => ?_, by have := h.len; omega⟩
    · unfold schL
      rw [if_neg er]
      exact h.perm
    · have := h.slots x hx
      exact ⟨by omega, this.2⟩
end
end Go.Proofs.YtlalpenfgkfkpaaDoor

/- law20.CascadeJumps, CascadePlays: the cascade and the reference's wheel side by side. Condition: the lists are read. -/
namespace Go.Proofs.YtlalpenfgkfkpaaDoor
open Go.RowKit Go.Shelf
set_option maxRecDepth 100000
abbrev u64w (l : List Nat) : List Value := l.map (fun x : Nat => (.int .u64 x : Value))
theorem u64w_read {W : World} {a : Option Addr} {n c : Nat} {xs : List Nat} (h : ReadAt W (.slice a n c) 1 (u64w xs)) {j y : Nat} (hy : xs[j]? = some y) : ∃ ad, a = some ad ∧ W.cell? (ad.add j) = some (.int .u64 y) := by
  obtain ⟨a', n', c', e, hl, _, h0, hc⟩ := h
  injection e with e1 e2 e3
  subst e1 e2 e3
  have hj := (List.getElem?_eq_some_iff.1 hy).1
  cases a with
  | none =>
    have := h0 rfl
    subst this
    have : xs = [] := by simpa [u64w] using hl
    subst this
    cases hy
  | some ad => exact ⟨ad, rfl, hc ad rfl j _ (by unfold u64w; rw [List.getElem?_map, hy]; rfl)⟩
section
variable {w0 w wr w5 w6 : World} {D D' : Nat → Prop} {p now now' tt b n c n' c' : Nat} {a a' : Option Addr} {L L' : List Td}
/-- The cascade, the reference's wheel in block b. -/
structure JmI (w0 wr : World) (p now b : Nat) (a : Option Addr) (n c : Nat) (D : Nat → Prop) (L : List Td) : Prop where
  ks : KnS w0 wr D p now L
  rd : RdL wr a n c L
  off : ∀ g, rdBlock (.slice a n c) = some g → ¬ D g ∧ g ≠ b
  box : wr.heap[b]? = some (.cells #[.int .u64 now, .slice a n c] 45 (0, 0))
  nb : ¬ D b
  bw : w0.heap.size ≤ b
  w00 : 0 < w0.heap.size
theorem JmI.pure (h : JmI w0 wr p now b a n c D L) (hp : Pure wr w5) : JmI w0 w5 p now b a n c D L :=
  ⟨h.ks.pure hp, h.rd.pure hp, h.off, hp.heap (fun h => h) h.box, h.nb, h.bw, h.w00⟩
theorem JmI.next (h : JmI w0 wr p now b a n c D L) (hp : Pure wr w5) (hr : RdL w5 a' n' c' L') (hk : Kept wr a n c a' n' c') (hks : KnS w0 w6 D' p now' L') (hg : grewD D D' w5) (hm : Mod D w5 w6) :
    JmI w0 ((w6.setCell ⟨b, 0, none⟩ (.int .u64 now')).setCell ⟨b, 1, none⟩ (.slice a' n' c')) p now' b a' n' c' D' L' := by
  have hbl := lt_of_block h.box
  have hsz := hp.size
  have hDlt : ∀ k, D k → k < wr.heap.size := fun k hk => h.ks.lt hk
  have key : ∀ g, rdBlock (.slice a' n' c') = some g → ¬ D g ∧ g ≠ b ∧ g < w5.heap.size := fun g hg' => by
    have hlt := hr.lt hg'
    rcases hk.rd hg' with e | e
    · exact ⟨(h.off g e).1, (h.off g e).2, hlt⟩
    · exact ⟨fun hd => by have := hDlt g hd; omega, by omega, hlt⟩
  have nb' : ¬ D' b := fun hd => by
    rcases hg b hd with e | e
    · exact h.nb e
    · omega
  have hms := Mod.set2 (w := w6) b 0 1 (.int .u64 now') (.slice a' n' c')
  refine ⟨⟨hks.t.frame hms (fun k hk e => by subst e; exact nb' hk) (fun e => by have := h.bw; have := h.w00; omega), hks.ge, hks.pu.then hms (fun k hk e => by have := h.bw; omega)⟩, (hr.frame hm (fun g hg' => (key g hg').1)).frame hms (fun g hg' => (key g hg').2.1), fun g hg' => ⟨fun hd => ?_, (key g hg').2.1⟩, ?_, nb', h.bw, h.w00⟩
  · rcases hg g hd with e | e
    · exact (key g hg').1 e
    · have := (key g hg').2.2; omega
  · exact heap_set12 (hm.heap h.nb (hp.heap (fun h => h) h.box))
theorem JmI.rdn (h : JmI w0 wr p now b a n c D L) (hr : RdL w5 a' n' c' L') (hk : Kept wr a n c a' n' c') (hm : Mod D w5 w6) : RdL w6 a' n' c' L' :=
  hr.frame hm (fun g hg' hd => by
    rcases hk.rd hg' with e | e
    · exact (h.off g e).1 hd
    · have := h.ks.lt hd; omega)
/-- A block beside. -/
theorem JmI.beside (h : JmI w0 wr p now b a n c D L) (hp : Pure wr w5) (hg : grewD D D' w5) {k : Nat} (hk : k < wr.heap.size) (hn : ¬ D k) : ¬ D' k := fun hd => by
  rcases hg k hd with e | e
  · exact hn e
  · have := hp.size; omega
theorem radv_any (h : RdL w a n c L) (hl : n ≤ 4194304) (hn : ∀ x ∈ L, now < x.dl) :
    Calls Tryd.prog 21 #[whV now a n c, .int .u64 tt] w fun e w' => ∃ a1 n1 c1 a2 n2 c2, e = .returned (.tuple #[whV (aNow now tt) a1 n1 c1, .slice a2 n2 c2, .int .i64 (aErr now tt)]) ∧ RdL w' a1 n1 c1 (aRest now tt L) ∧ Kept w a n c a1 n1 c1 ∧ RdL w' a2 n2 c2 (aOut now tt L) ∧ (∀ g, rdBlock (.slice a2 n2 c2) = some g → w.heap.size ≤ g) ∧ Pure w w' := by
  by_cases ht : tt < now
  · have e1 : aNow now tt = now := by unfold aNow; rw [if_neg (by omega)]
    have e2 : aErr now tt = 3 := by unfold aErr; rw [if_pos ht]
    have e3 : aRest now tt L = L := by unfold aRest; rw [if_neg (by omega)]
    have e4 : aOut now tt L = [] := by unfold aOut; rw [if_neg (by omega)]
    rw [e1, e2, e3, e4]
    refine (radv_no ht).mono ?_
    rintro e w' ⟨rfl, hp⟩
    exact ⟨a, n, c, none, 0, 0, rfl, h.pure hp, .inl ⟨rfl, rfl, rfl⟩, ⟨ReadAt.nil _ _, rfl, Nat.le_refl _, fun _ => rfl⟩, fun g hg => (by cases hg), hp⟩
  · obtain ⟨e1, e2, e3, e4⟩ := aOut_all (tt := tt) hn (by omega)
    rw [e1, e2, e3, e4]
    refine (radv_ok h hl (by omega)).mono ?_
    rintro e w' ⟨a1, c1, a2, c2, rfl, h1, h2, h3, h4, hp⟩
    exact ⟨a1, _, c1, a2, _, c2, rfl, RdL.of_row h1, .inr h3, RdL.of_row h2, fun g hg => h4 g (rdBlock_own hg), hp⟩
theorem KnS.schedM2 (h : KnS w0 w D p now L) {x : Td} (h32 : x.slot ≤ 4294967295) (hd : x.dl ≤ 18446744073709551615) (hb : x.birth ≤ 18446744073709551615) :
    Calls Tryd.prog 13 #[lkP p, tdV x] w fun e w' => e = .returned (.int .i64 (schR now L x)) ∧ ∃ D', KnS w0 w' D' p now (schL now L x) ∧ grewD D D' w ∧ Mod D w w' := by
  refine (h.t.at_.sched h32 hd hb (by have := h.t.at_.count; unfold maxLen; omega)).mono ?_
  rintro e w' ⟨rfl, ⟨D', hc, hg⟩, hm⟩
  exact ⟨rfl, D', h.step (h.t.next hc hg hm) hg hm, hg, hm⟩
theorem KnS.advM2 (h : KnS w0 w D p now L) (ht : tt < 18446744073709551616) {a2 : Option Addr} {n2 c2 : Nat} (hr : RdL w a2 n2 c2 (aOut now tt L)) (hwD : ∀ g, rdBlock (.slice a2 n2 c2) = some g → ¬ D g) :
    Calls Tryd.prog 22 #[lkP p, .int .u64 tt, .slice a2 n2 c2, .int .i64 (aErr now tt)] w fun e w' => e = .returned (.bool true) ∧ ∃ D', KnS w0 w' D' p (aNow now tt) (aRest now tt L) ∧ grewD D D' w ∧ Mod D w w' := by
  refine (advances_ok h.t ht hr.len.symm hr.rd hwD rfl).mono ?_
  rintro e w' ⟨rfl, ⟨D', hc, hg⟩, hm⟩
  exact ⟨rfl, D', h.step hc hg hm, hg, hm⟩
end
end Go.Proofs.YtlalpenfgkfkpaaDoor
