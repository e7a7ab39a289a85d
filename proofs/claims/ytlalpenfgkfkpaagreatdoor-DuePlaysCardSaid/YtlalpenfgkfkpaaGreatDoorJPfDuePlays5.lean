/- Lemmas and contracts of functions, strung together out of 10 texts. No condition. -/
import Derived.Test.YtlalpenfgkfkpaaGreatDoorJPfDuePlays4
/- cascade: put. Conditions: the cascade lies in memory, the slot is in no bucket of its level. -/
namespace Go.Proofs.YtlalpenfgkfkpaaGreatDoor
open Go.RowKit
set_option maxRecDepth 100000
section
variable {w w' : World} {D : Nat → Prop} {p now : Nat} {ws : List Nat} {bm bb : Nat} {Ds : Nat → Nat → Prop} {Dm Db : DataW Unit} {M : List Td} {Lss : List (List (List Nat))}
def setF {α : Type} (f : Nat → α) (l : Nat) (v : α) : Nat → α := fun k => if k = l then v else f k
/-- Put in level l. -/
theorem CasMem.level (h : CasMem w D p now ws bm bb Ds Dm Db M Lss) {l q : Nat} {Ls' : List (List Nat)} {D' : Nat → Prop} (hl : l < 8) (hq : ws[l]? = some q) (hw : WhAt w' D' q Ls') (hg : grewD (Ds l) D' w) (hm : Mod (Ds l) w w') :
    ∃ D2, CasMem w' D2 p now ws bm bb (setF Ds l D') Dm Db M (Lss.set l Ls') ∧ grewD D D2 w := by
  have hlt : ∀ k, D k → k < w.heap.size := fun k hk => h.lt hk
  have inD : ∀ {l' k : Nat}, l' < 8 → Ds l' k → D k := fun hl' hk => (h.dd _).2 (.inr (.inr (.inr ⟨_, hl', hk⟩)))
  have o := fun k => h.own l k hl
  refine ⟨fun k => k = p ∨ k = bm ∨ k = bb ∨ ∃ l', l' < 8 ∧ setF Ds l D' l' k, ⟨h.box.mod hm (fun e => (o p e).1 rfl), h.what.mod hm (fun e => (o bm e).2.1 rfl), h.births.mod hm (fun e => (o bb e).2.2 rfl), by rw [List.length_set]; exact h.len, fun l2 q2 Ls2 hq2 hl2 => ?_, fun l2 l3 k h2 h3 hne hk => ?_, fun l2 k h2 hk => ?_, h.ne, fun k => Iff.rfl⟩, fun k hk => ?_⟩
  · unfold setF
    by_cases e : l2 = l
    · subst e
      rw [if_pos rfl]
      rw [List.getElem?_set_self (by rw [h.len]; exact hl)] at hl2
      cases hl2
      rw [hq] at hq2
      cases hq2
      exact hw
    · rw [if_neg e]
      rw [List.getElem?_set_ne (fun c => e c.symm)] at hl2
      have hl8 : l2 < 8 := by have := (List.getElem?_eq_some_iff.1 hl2).1; rw [h.len] at this; exact this
      exact (h.lev l2 q2 Ls2 hq2 hl2).frame hm (fun k hk hk2 => h.apart l2 l k hl8 hl e hk hk2)
  · unfold setF at hk ⊢
    by_cases e : l2 = l
    · rw [if_pos e] at hk
      have e3 : l3 ≠ l := fun c => hne (by rw [e, c])
      rw [if_neg e3]
      intro hk3
      rcases hg k hk with c | c
      · exact h.apart l l3 k hl h3 (fun c => e3 c.symm) c hk3
      · have := hlt k (inD h3 hk3); omega
    · rw [if_neg e] at hk
      by_cases e3 : l3 = l
      · rw [if_pos e3]
        intro hk3
        rcases hg k hk3 with c | c
        · exact h.apart l2 l k h2 hl e hk c
        · have := hlt k (inD h2 hk); omega
      · rw [if_neg e3]
        exact h.apart l2 l3 k h2 h3 hne hk
  · unfold setF at hk
    by_cases e : l2 = l
    · rw [if_pos e] at hk
      rcases hg k hk with c | c
      · exact o k c
      · have a1 := hlt p ((h.dd p).2 (.inl rfl))
        have a2 := hlt bm ((h.dd bm).2 (.inr (.inl rfl)))
        have a3 := hlt bb ((h.dd bb).2 (.inr (.inr (.inl rfl))))
        omega
    · rw [if_neg e] at hk
      exact h.own l2 k h2 hk
  · rcases hk with e | e | e | ⟨l2, h2, hk⟩
    · exact .inl ((h.dd k).2 (.inl e))
    · exact .inl ((h.dd k).2 (.inr (.inl e)))
    · exact .inl ((h.dd k).2 (.inr (.inr (.inl e))))
    · unfold setF at hk
      by_cases e : l2 = l
      · rw [if_pos e] at hk
        rcases hg k hk with c | c
        · exact .inl (inD hl c)
        · exact .inr c
      · rw [if_neg e] at hk
        exact .inl (inD h2 hk)
end
end Go.Proofs.YtlalpenfgkfkpaaGreatDoor

/- cascade: put. Conditions: the cascade lies in memory, the slot is in no bucket of its level. -/
namespace Go.Proofs.YtlalpenfgkfkpaaGreatDoor
open Go.RowKit
set_option maxRecDepth 100000
section
variable {w w' : World} {D : Nat → Prop} {p now : Nat} {ws : List Nat} {bm bb : Nat} {Ds : Nat → Nat → Prop} {Dm Db : DataW Unit} {M : List Td} {Lss : List (List (List Nat))}
def putCase (M : List Td) (x : Td) (M' : List Td) : Prop := (∀ y ∈ M, y.slot ≠ x.slot) ∧ (∀ y ∈ M, y.birth ≠ x.birth) ∧ M' = x :: M ∨ x ∈ M ∧ (∀ y ∈ M, y.slot = x.slot → y = x) ∧ M' = M
theorem TMap.putC {b : Nat} {x : Td} {M' : List Td} (h : TMap w b M Dm) (hc : putCase M x M') (ho : w'.ownsMap Tryz.prog 33 tdElem b (M.length + 1) (Dm.put (kS x.slot) (tdD x))) : TMap w' b M' (Dm.put (kS x.slot) (tdD x)) := by
  rcases hc with ⟨h1, _, rfl⟩ | ⟨h1, h2, rfl⟩
  · exact h.put h1 ho
  · exact h.again h1 h2 ho
theorem BMap.putC {b : Nat} {x : Td} {M' : List Td} (h : BMap w b M Db) (hc : putCase M x M') (ho : w'.ownsMap Tryz.prog 22 unitElem b (M.length + 1) (Db.put (kB x.birth) (.agg []))) : BMap w' b M' (Db.put (kB x.birth) (.agg [])) := by
  rcases hc with ⟨_, h1, rfl⟩ | ⟨h1, h2, rfl⟩
  · exact h.put h1 ho
  · exact h.again h1 ho
set_option maxHeartbeats 2000000 in
theorem cput_ok (h : CasMem w D p now ws bm bb Ds Dm Db M Lss) {x : Td} {M' : List Td} (hs : x.slot < 4194304) (hd : x.dl < 18446744073709551616) (hb : x.birth ≤ 18446744073709551615) (hne : x.dl ≠ now) (hMl : M.length < maxLen) {Ls : List (List Nat)} {L : List Nat}
    (hL : Lss[lvl now x.dl]? = some Ls) (hK : Ls[bkt now x.dl]? = some L) (hf : ¬ inL Ls x.slot) (hc : putCase M x M') :
    Calls Tryz.prog 60 #[lkP p, tdV x] w fun e w' => e = .returned (.tuple #[]) ∧ (∃ D' Ds' Dm' Db', CasMem w' D' p now ws bm bb Ds' Dm' Db' M' (Lss.set (lvl now x.dl) (Ls.set (bkt now x.dl) (L ++ [x.slot]))) ∧ grewD D D' w) ∧ Mod D w w' := by
  have hal : Pure w (w.alloc (.cells #[.int .u32 x.slot, .int .u64 x.dl, .int .u64 x.birth] 45)) := (Mod.refl _ w).alloc _
  have h3 := heap_new (w := w) (o := .cells #[.int .u32 x.slot, .int .u64 x.dl, .int .u64 x.birth] 45 (0, 0)) rfl
  have hl8 : lvl now x.dl < 8 := (lvl_spec h.box.now hd).1
  have hbk : bkt now x.dl < 256 := bkt_lt
  obtain ⟨q, hq⟩ : ∃ q, ws[lvl now x.dl]? = some q := ⟨_, List.getElem?_eq_getElem (by rw [h.box.len]; exact hl8)⟩
  have HPl := Lib.hid (cplace_ok (h.pure hal).box hd hne)
  obtain ⟨lv, hlv⟩ : ∃ lv, lvl now x.dl = lv := ⟨_, rfl⟩
  obtain ⟨bk, hbk2⟩ : ∃ bk, bkt now x.dl = bk := ⟨_, rfl⟩
  rw [hlv] at hl8 hq hL HPl ⊢
  rw [hbk2] at hbk hK HPl ⊢
  have nD : ∀ k, D k → k ≠ w.heap.size := fun k hk e => by have := h.lt hk; omega
  have HC0 := Lib.hid h; have HC := Lib.hid (h.pure hal); have HND := Lib.hid nD; have HAL := Lib.hid hal
  have HL := Lib.hid hL; have HK := Lib.hid hK; have HF := Lib.hid hf; have HCa := Lib.hid hc; have HQ := Lib.hid hq
  clear h hal nD hL hK hf hc hq hlv hbk2 hne
  obtain ⟨ne1, ne2, ne3⟩ := HC0.out.ne
  unfold tdV
  go_enter Tryz.func60, Tryz.ntmps60
  go_upto_region 1 with fail
  generalize w.alloc (.cells #[.int .u32 x.slot, .int .u64 x.dl, .int .u64 x.birth] 45) = W1 at *
  obtain ⟨b3, hb3⟩ : ∃ b3, w.heap.size = b3 := ⟨_, rfl⟩
  rw [hb3] at h3 HND ⊢
  have HB3 := Lib.hid hb3
  have H3 := Lib.hid h3
  clear hb3
  have h3_0 := cell_of_row _ _ 0 _ _ _ h3; have h3_1 := cell_of_row _ _ 1 _ _ _ h3; have h3_2 := cell_of_row _ _ 2 _ _ _ h3; have h3_f := (fun j => frozen_of_row _ _ j _ _ h3); have h3_l := lt_of_block h3; simp at h3_0 h3_1 h3_2; have H_h3 := Lib.hid h3; clear h3
  go_upto_region 2 with (go_at_call 57; refine Calls.mono HPl.out ?_; rintro e w2 ⟨rfl, hp2⟩)
  have h32 := hp2.heap (fun h => h) H3.out
  have HC2 := Lib.hid (HC.out.pure hp2)
  have hcl := HC2.out.box.level HQ.out
  obtain ⟨c0, c9, c10, _, _⟩ := HC2.out.box.cells
  have H32 := Lib.hid h32; have HP2 := Lib.hid hp2
  clear h3_0 h3_1 h3_2 h3_f h3_l
  clear H_h3 HC hp2 HPl
  have h32_0 := cell_of_row _ _ 0 _ _ _ h32; have h32_1 := cell_of_row _ _ 1 _ _ _ h32; have h32_2 := cell_of_row _ _ 2 _ _ _ h32; have h32_f := (fun j => frozen_of_row _ _ j _ _ h32); have h32_l := lt_of_block h32; simp at h32_0 h32_1 h32_2; have H_h32 := Lib.hid h32; clear h32
  have dl8 : decide (lv < 8) = true := decide_eq_true hl8
  have l0 : (0 : Int) ≤ (lv : Int) := by omega
  have l1 : (lv : Int) < 8 := by omega
  have HPu := Lib.hid (wput_ok ((HC2.out.lev lv q Ls HQ.out HL.out).pure ((Mod.refl _ w2).drew : Pure w2 w2.drew)) hs HK.out HF.out)
  go_still_tail 9, (by kernel_rfl)
  go_upto_region 3 with (go_at_call 86; refine Calls.mono HPu.out ?_; rintro e w3 ⟨rfl, ⟨D3, hw3, hg3⟩, hm3⟩)
  have hm3' : Mod (Ds lv) w2 w3 := Mod.of_drew hm3
  have inD : ∀ k, Ds lv k → D k := fun k hk => (HC0.out.dd k).2 (.inr (.inr (.inr ⟨lv, hl8, hk⟩)))
  have hg3' : grewD (Ds lv) D3 w2 := hg3
  obtain ⟨D4, hC3, hg4⟩ := HC2.out.level hl8 HQ.out hw3 hg3' hm3'
  have h33 := hm3'.heap (fun e => HND.out b3 (inD b3 e) rfl) H32.out
  have HC3 := Lib.hid hC3; have HG4 := Lib.hid hg4; have HM3 := Lib.hid (hm3'.mono (fun k _ hk => inD k hk) : Mod D w2 w3); have H33 := Lib.hid h33
  clear h32_0 h32_1 h32_2 h32_f h32_l
  clear H_h32 hw3 hg3 hm3 hm3' inD hg3' hC3 hg4 HPu c0 c9 c10 hcl dl8
  obtain ⟨c0, c9, c10, _, _⟩ := HC3.out.box.cells
  have nb1 : bm ≠ b3 := fun e => HND.out bm ((HC0.out.dd bm).2 (.inr (.inl rfl))) e
  have nb2 : bb ≠ b3 := fun e => HND.out bb ((HC0.out.dd bb).2 (.inr (.inr (.inl rfl)))) e
  have h33_0 := cell_of_row _ _ 0 _ _ _ h33; have h33_1 := cell_of_row _ _ 1 _ _ _ h33; have h33_2 := cell_of_row _ _ 2 _ _ _ h33; have h33_f := (fun j => frozen_of_row _ _ j _ _ h33); have h33_l := lt_of_block h33; simp at h33_0 h33_1 h33_2; have H_h33 := Lib.hid h33; clear h33
  go_still_tail 7, (by kernel_rfl)
  go_upto_region 4 with (at_mapUpdate; refine wpList_mapUpdate_own _ rfl _ _ _ 56 rfl 33 45 keyedS Tryz.underlying56 tdElem bm M.length Dm rfl HC3.out.what.own.drew hMl (.int .u32 x.slot) (tdV x) (kS x.slot) rfl rfl (kS_of (by omega)) (tdD x) [] (tdElem_mk x) ?_; intro w4 ho4 hg4; go_frame)
  have hm4 : Mod (fun k => k = bm) w3 w4 := Mod.of_drew (Mod.of_grown hg4 (fun k e _ => by cases e; rfl))
  have hbx4 := HC3.out.box.mod hm4 (fun e => ne2 e.symm)
  have hT4 := HC3.out.what.putC HCa.out ho4
  have hB4 := HC3.out.births.mod hm4 (fun e => ne1 e.symm)
  have h34 := hm4.heap (fun e => nb1 e.symm) H33.out
  have HM4 := Lib.hid hm4; have HT4 := Lib.hid hT4; have HB4 := Lib.hid hB4
  clear h33_0 h33_1 h33_2 h33_f h33_l
  clear H_h33 hm4 hT4 hB4 ho4 hg4 c0 c9 c10
  obtain ⟨c0, c9, c10, _, _⟩ := hbx4.cells
  clear hbx4
  have h34_0 := cell_of_row _ _ 0 _ _ _ h34; have h34_1 := cell_of_row _ _ 1 _ _ _ h34; have h34_2 := cell_of_row _ _ 2 _ _ _ h34; have h34_f := (fun j => frozen_of_row _ _ j _ _ h34); have h34_l := lt_of_block h34; simp at h34_0 h34_1 h34_2; have H_h34 := Lib.hid h34; clear h34
  go_still_tail 7, (by kernel_rfl)
  go_wp2_with (at_mapUpdate; refine wpList_mapUpdate_own _ rfl _ _ _ 81 rfl 22 117 keyedB Tryz.underlying81 unitElem bb M.length Db rfl HB4.out.own.drew hMl (.int .u64 x.birth) (.agg #[]) (kB x.birth) rfl rfl (kB_of hb) (.agg []) [] unitElem_mk ?_; intro w5 ho5 hg5; go_frame)
  have hm5 : Mod (fun k => k = bb) w4 w5 := Mod.of_drew (Mod.of_grown hg5 (fun k e _ => by cases e; rfl))
  have hB5 := HB4.out.putC HCa.out ho5
  have hmm : Mod (fun k => k = bm ∨ k = bb) w3 w5 := (HM4.out.mono (fun _ _ h => Or.inl h)).trans (hm5.mono (fun _ _ h => Or.inr h))
  have hsz : w.heap.size ≤ w2.heap.size := (HAL.out.trans HP2.out).size
  go_end0
  refine ⟨rfl, ⟨D4, _, _, _, ⟨HC3.out.box.mod hmm (fun e => by rcases e with e | e; exact ne2 e.symm; exact ne3 e.symm), HT4.out.mod hm5 (fun e => ne1 e), hB5, HC3.out.len, fun l q Ls hq hL => (HC3.out.lev l q Ls hq hL).frame hmm (fun k hk e => ?_), HC3.out.apart, HC3.out.own, HC3.out.ne, HC3.out.dd⟩, fun k hk => ?_⟩, ?_⟩
  · have hl9 : l < 8 := by have := (List.getElem?_eq_some_iff.1 hL).1; rw [HC3.out.len] at this; exact this
    obtain ⟨_, o2, o3⟩ := HC3.out.own l k hl9 hk
    rcases e with e | e
    · exact o2 e
    · exact o3 e
  · rcases HG4.out k hk with e | e
    · exact .inl e
    · exact .inr (Nat.le_trans hsz e)
  · refine ((HAL.out.trans HP2.out).mono (fun _ _ h => h.elim) : Mod D w w2).trans (HM3.out.trans (hmm.mono (fun k _ hk => ?_)))
    rcases hk with rfl | rfl
    · exact (HC0.out.dd k).2 (.inr (.inl rfl))
    · exact (HC0.out.dd k).2 (.inr (.inr (.inl rfl)))
end
end Go.Proofs.YtlalpenfgkfkpaaGreatDoor

/- cascade: which slot is in which bucket, by plain lists. No condition. -/
namespace Go.Proofs.YtlalpenfgkfkpaaGreatDoor
/-- The slot s is in bucket b of level l. -/
def slotIn (Lss : List (List (List Nat))) (l b s : Nat) : Prop := ∃ Ls L, Lss[l]? = some Ls ∧ Ls[b]? = some L ∧ s ∈ L
/-- What is scheduled (M) is in its buckets at a time, but for the slots of P, which are in none. -/
structure PInv (now : Nat) (M : List Td) (P : Nat → Prop) (Lss : List (List (List Nat))) : Prop where
  len : Lss.length = 8
  wide : ∀ (l : Nat) (Ls : List (List Nat)), Lss[l]? = some Ls → Ls.length = 256
  nd : ∀ (l b : Nat) (Ls : List (List Nat)) (L : List Nat), Lss[l]? = some Ls → Ls[b]? = some L → L.Nodup
  slots : ∀ x ∈ M, ∀ y ∈ M, x.slot = y.slot → x = y
  births : ∀ x ∈ M, ∀ y ∈ M, x.birth = y.birth → x = y
  ndM : M.Nodup
  rng : ∀ x ∈ M, x.slot < 4194304 ∧ x.dl < 18446744073709551615 ∧ 0 < x.birth ∧ x.birth ≤ 18446744073709551615
  after : ∀ x ∈ M, ¬ P x.slot → now < x.dl
  at_ : ∀ l b s, slotIn Lss l b s ↔ ¬ P s ∧ ∃ x ∈ M, x.slot = s ∧ lvl now x.dl = l ∧ bkt now x.dl = b
section
variable {now tt : Nat} {M M' : List Td} {P Q : Nat → Prop} {Lss Lss' : List (List (List Nat))} {Ls : List (List Nat)} {L L' : List Nat} {lv bk : Nat} {x : Td}
theorem slotIn_set (hL : Lss[lv]? = some Ls) (hK : Ls[bk]? = some L) (l b s : Nat) : slotIn (Lss.set lv (Ls.set bk L')) l b s ↔ if l = lv ∧ b = bk then s ∈ L' else slotIn Lss l b s := by
  have hl := (List.getElem?_eq_some_iff.1 hL).1
  have hb := (List.getElem?_eq_some_iff.1 hK).1
  unfold slotIn
  by_cases e1 : l = lv
  · subst e1
    rw [List.getElem?_set_self hl]
    by_cases e2 : b = bk
    · subst e2
      rw [if_pos ⟨rfl, rfl⟩]
      constructor
      · rintro ⟨A, B, h1, h2, h3⟩
        cases h1
        rw [List.getElem?_set_self hb] at h2
        cases h2
        exact h3
      · intro h
        exact ⟨_, _, rfl, List.getElem?_set_self hb, h⟩
    · rw [if_neg (fun c => e2 c.2)]
      constructor
      · rintro ⟨A, B, h1, h2, h3⟩
        cases h1
        rw [List.getElem?_set_ne (fun c => e2 c.symm)] at h2
        exact ⟨_, _, hL, h2, h3⟩
      · rintro ⟨A, B, h1, h2, h3⟩
        rw [hL] at h1
        cases h1
        exact ⟨_, _, rfl, by rw [List.getElem?_set_ne (fun c => e2 c.symm)]; exact h2, h3⟩
  · rw [if_neg (fun c => e1 c.1), List.getElem?_set_ne (fun c => e1 c.symm)]
theorem set_shape (hL : Lss[lv]? = some Ls) (h1 : ∀ (l : Nat) (A : List (List Nat)), Lss[l]? = some A → A.length = 256) {Ls' : List (List Nat)} (h2 : Ls'.length = 256) (l : Nat) (A : List (List Nat)) (h : (Lss.set lv Ls')[l]? = some A) : A.length = 256 := by
  have hl := (List.getElem?_eq_some_iff.1 hL).1
  by_cases e1 : l = lv
  · subst e1
    rw [List.getElem?_set_self hl] at h
    cases h
    exact h2
  · rw [List.getElem?_set_ne (fun c => e1 c.symm)] at h
    exact h1 l A h
theorem set_nd (hL : Lss[lv]? = some Ls) (hK : Ls[bk]? = some L) (h1 : ∀ (l b : Nat) (A : List (List Nat)) (B : List Nat), Lss[l]? = some A → A[b]? = some B → B.Nodup) (h2 : L'.Nodup) (l b : Nat) (A : List (List Nat)) (B : List Nat) (hA : (Lss.set lv (Ls.set bk L'))[l]? = some A) (hB : A[b]? = some B) : B.Nodup := by
  have hl := (List.getElem?_eq_some_iff.1 hL).1
  have hb := (List.getElem?_eq_some_iff.1 hK).1
  by_cases e1 : l = lv
  · subst e1
    rw [List.getElem?_set_self hl] at hA
    cases hA
    by_cases e2 : b = bk
    · subst e2
      rw [List.getElem?_set_self hb] at hB
      cases hB
      exact h2
    · rw [List.getElem?_set_ne (fun c => e2 c.symm)] at hB
      exact h1 l b _ _ hL hB
  · rw [List.getElem?_set_ne (fun c => e1 c.symm)] at hA
    exact h1 l b A B hA hB
theorem PInv.get (h : PInv now M P Lss) (h1 : lv < 8) (h2 : bk < 256) : ∃ Ls L, Lss[lv]? = some Ls ∧ Ls[bk]? = some L := by
  obtain ⟨Ls, hL⟩ : ∃ Ls, Lss[lv]? = some Ls := ⟨_, List.getElem?_eq_getElem (by rw [h.len]; exact h1)⟩
  exact ⟨Ls, _, hL, List.getElem?_eq_getElem (by rw [h.wide lv Ls hL]; exact h2)⟩
theorem PInv.uniq (h : PInv now M P Lss) {l b l' b' s : Nat} (h1 : slotIn Lss l b s) (h2 : slotIn Lss l' b' s) : l = l' ∧ b = b' := by
  obtain ⟨_, x, hx, e1, e2, e3⟩ := (h.at_ _ _ _).1 h1
  obtain ⟨_, y, hy, f1, f2, f3⟩ := (h.at_ _ _ _).1 h2
  have := h.slots x hx y hy (by rw [e1, f1])
  subst this
  exact ⟨by rw [← e2, f2], by rw [← e3, f3]⟩
theorem PInv.out (h : PInv now M P Lss) {s : Nat} (hp : ∀ y ∈ M, y.slot = s → P s) (l b : Nat) : ¬ slotIn Lss l b s := fun c => by
  obtain ⟨h1, y, hy, e, _⟩ := (h.at_ _ _ _).1 c
  exact h1 (hp y hy e)
theorem PInv.notL (h : PInv now M P Lss) {s : Nat} (hp : ∀ y ∈ M, y.slot = s → P s) (hL : Lss[lv]? = some Ls) : ¬ inL Ls s := fun ⟨b, l, h1, h2⟩ => h.out hp lv b ⟨Ls, l, hL, h1, h2⟩
theorem PInv.put (h : PInv now M P Lss) (hc : putCase M x M') (hn : now < x.dl) (hr : x.slot < 4194304 ∧ x.dl < 18446744073709551615 ∧ 0 < x.birth ∧ x.birth ≤ 18446744073709551615) (hp : ∀ y ∈ M, y.slot = x.slot → P x.slot)
    (hL : Lss[lvl now x.dl]? = some Ls) (hK : Ls[bkt now x.dl]? = some L) (hQ : ∀ s, Q s ↔ P s ∧ s ≠ x.slot) : PInv now M' Q (Lss.set (lvl now x.dl) (Ls.set (bkt now x.dl) (L ++ [x.slot]))) := by
  have hmem : ∀ y, y ∈ M' ↔ y = x ∨ y ∈ M := fun y => by
    rcases hc with ⟨_, _, rfl⟩ | ⟨h1, _, rfl⟩
    · exact List.mem_cons
    · exact ⟨.inr, fun e => by rcases e with rfl | e; exact h1; exact e⟩
  have hu : ∀ y ∈ M', y.slot = x.slot → y = x := fun y hy e => by
    rcases hc with ⟨h1, _, rfl⟩ | ⟨_, h2, rfl⟩
    · rcases List.mem_cons.1 hy with rfl | hy
      · rfl
      · exact absurd e (h1 y hy)
    · exact h2 y hy e
  have hout := h.out hp
  refine ⟨by rw [List.length_set]; exact h.len, set_shape hL h.wide (by rw [List.length_set]; exact h.wide _ _ hL), set_nd hL hK h.nd ?_, ?_, ?_, ?_, ?_, ?_, fun l b s => ?_⟩
  · rw [List.nodup_append]
    refine ⟨h.nd _ _ _ _ hL hK, by simp, fun a ha b hb e => ?_⟩
    rw [List.mem_singleton] at hb
    subst hb
    subst e
    exact hout _ _ ⟨Ls, L, hL, hK, ha⟩
  · intro a ha b hb e
    rcases (hmem a).1 ha with rfl | ha2
    · exact (hu b hb e.symm).symm
    · rcases (hmem b).1 hb with rfl | hb2
      · exact hu a ha e
      · exact h.slots a ha2 b hb2 e
  · rcases hc with ⟨_, h2, rfl⟩ | ⟨_, _, rfl⟩
    · intro a ha b hb e
      rcases List.mem_cons.1 ha with ea | ha'
      · rcases List.mem_cons.1 hb with eb | hb'
        · rw [ea, eb]
        · exact absurd (by rw [← e, ea]) (h2 b hb')
      · rcases List.mem_cons.1 hb with eb | hb'
        · exact absurd (by rw [e, eb]) (h2 a ha')
        · exact h.births a ha' b hb' e
    · exact h.births
  · rcases hc with ⟨h1, _, rfl⟩ | ⟨_, _, rfl⟩
    · exact List.nodup_cons.2 ⟨fun c => h1 x c rfl, h.ndM⟩
    · exact h.ndM
  · intro y hy
    rcases (hmem y).1 hy with rfl | hy
    · exact hr
    · exact h.rng y hy
  · intro y hy hq
    by_cases e : y.slot = x.slot
    · rw [hu y hy e]; exact hn
    · rcases (hmem y).1 hy with rfl | hy
      · exact hn
      · exact h.after y hy (fun c => hq ((hQ _).2 ⟨c, e⟩))
  · rw [slotIn_set hL hK]
    by_cases e : s = x.slot
    · subst e
      have hq : ¬ Q x.slot := fun c => ((hQ _).1 c).2 rfl
      by_cases c : l = lvl now x.dl ∧ b = bkt now x.dl
      · rw [if_pos c]
        exact ⟨fun _ => ⟨hq, x, (hmem x).2 (.inl rfl), rfl, c.1.symm, c.2.symm⟩, fun _ => List.mem_append_right _ List.mem_cons_self⟩
      · rw [if_neg c]
        refine ⟨fun k => absurd k (hout _ _), fun ⟨_, y, hy, e1, e2, e3⟩ => absurd ?_ c⟩
        have := hu y hy e1
        subst this
        exact ⟨e2.symm, e3.symm⟩
    · have hqp : Q s ↔ P s := ⟨fun c => ((hQ s).1 c).1, fun c => (hQ s).2 ⟨c, e⟩⟩
      have h1 : (if l = lvl now x.dl ∧ b = bkt now x.dl then s ∈ L ++ [x.slot] else slotIn Lss l b s) ↔ slotIn Lss l b s := by
        by_cases c : l = lvl now x.dl ∧ b = bkt now x.dl
        · rw [if_pos c, List.mem_append, List.mem_singleton, c.1, c.2]
          refine ⟨fun k => ?_, fun ⟨A, B, a1, a2, a3⟩ => ?_⟩
          · rcases k with k | k
            · exact ⟨Ls, L, hL, hK, k⟩
            · exact absurd k e
          · rw [hL] at a1; cases a1
            rw [hK] at a2; cases a2
            exact .inl a3
        · rw [if_neg c]
      rw [h1, h.at_, hqp]
      refine and_congr_right (fun _ => ⟨fun ⟨y, hy, k⟩ => ⟨y, (hmem y).2 (.inr hy), k⟩, fun ⟨y, hy, k⟩ => ?_⟩)
      rcases (hmem y).1 hy with rfl | hy
      · exact absurd k.1.symm e
      · exact ⟨y, hy, k⟩
theorem PInv.cut (h : PInv now M P Lss) (hx : x ∈ M) (hM : ∀ y, y ∈ M' ↔ y ∈ M ∧ y.slot ≠ x.slot) (hnd : M'.Nodup)
    (hL : Lss[lvl now x.dl]? = some Ls) (hK : Ls[bkt now x.dl]? = some L) : PInv now M' P (Lss.set (lvl now x.dl) (Ls.set (bkt now x.dl) (L.erase x.slot))) := by
  have hLn := h.nd _ _ _ _ hL hK
  refine ⟨by rw [List.length_set]; exact h.len, set_shape hL h.wide (by rw [List.length_set]; exact h.wide _ _ hL), set_nd hL hK h.nd (hLn.erase _), fun a ha b hb => h.slots a ((hM a).1 ha).1 b ((hM b).1 hb).1, fun a ha b hb => h.births a ((hM a).1 ha).1 b ((hM b).1 hb).1, hnd, fun y hy => h.rng y ((hM y).1 hy).1, fun y hy => h.after y ((hM y).1 hy).1, fun l b s => ?_⟩
  rw [slotIn_set hL hK]
  by_cases e : s = x.slot
  · subst e
    have r : ¬ ∃ y ∈ M', y.slot = x.slot ∧ lvl now y.dl = l ∧ bkt now y.dl = b := fun ⟨y, hy, e1, _⟩ => ((hM y).1 hy).2 e1
    by_cases c : l = lvl now x.dl ∧ b = bkt now x.dl
    · rw [if_pos c]
      exact ⟨fun k => absurd k (fun k => ((List.Nodup.mem_erase_iff hLn).1 k).1 rfl), fun k => absurd k.2 r⟩
    · rw [if_neg c]
      refine ⟨fun k => ?_, fun k => absurd k.2 r⟩
      obtain ⟨_, y, hy, e1, e2, e3⟩ := (h.at_ _ _ _).1 k
      have := h.slots y hy x hx e1
      subst this
      exact absurd ⟨e2.symm, e3.symm⟩ c
  · have h1 : (if l = lvl now x.dl ∧ b = bkt now x.dl then s ∈ L.erase x.slot else slotIn Lss l b s) ↔ slotIn Lss l b s := by
      by_cases c : l = lvl now x.dl ∧ b = bkt now x.dl
      · rw [if_pos c, List.mem_erase_of_ne e, c.1, c.2]
        refine ⟨fun k => ⟨Ls, L, hL, hK, k⟩, fun ⟨A, B, a1, a2, a3⟩ => ?_⟩
        rw [hL] at a1; cases a1
        rw [hK] at a2; cases a2
        exact a3
      · rw [if_neg c]
    rw [h1, h.at_]
    refine and_congr_right (fun _ => ⟨fun ⟨y, hy, k⟩ => ⟨y, (hM y).2 ⟨hy, fun c => e (by rw [← k.1, c])⟩, k⟩, fun ⟨y, hy, k⟩ => ⟨y, ((hM y).1 hy).1, k⟩⟩)
/-- What is in no bucket is forgotten. -/
theorem PInv.drop (h : PInv now M P Lss) (hp : P x.slot) (hM : ∀ y, y ∈ M' ↔ y ∈ M ∧ y.slot ≠ x.slot) (hnd : M'.Nodup) (hQ : ∀ s, Q s ↔ P s ∧ s ≠ x.slot) : PInv now M' Q Lss := by
  refine ⟨h.len, h.wide, h.nd, fun a ha b hb => h.slots a ((hM a).1 ha).1 b ((hM b).1 hb).1, fun a ha b hb => h.births a ((hM a).1 ha).1 b ((hM b).1 hb).1, hnd, fun y hy => h.rng y ((hM y).1 hy).1, fun y hy hq => h.after y ((hM y).1 hy).1 (fun c => hq ((hQ _).2 ⟨c, ((hM y).1 hy).2⟩)), fun l b s => ?_⟩
  rw [h.at_]
  by_cases e : s = x.slot
  · subst e
    exact ⟨fun k => absurd hp k.1, fun ⟨_, y, hy, e1, _⟩ => absurd e1 ((hM y).1 hy).2⟩
  · have hqp : Q s ↔ P s := ⟨fun c => ((hQ s).1 c).1, fun c => (hQ s).2 ⟨c, e⟩⟩
    rw [hqp]
    refine and_congr_right (fun _ => ⟨fun ⟨y, hy, k⟩ => ⟨y, (hM y).2 ⟨hy, fun c => e (by rw [← k.1, c])⟩, k⟩, fun ⟨y, hy, k⟩ => ⟨y, ((hM y).1 hy).1, k⟩⟩)
theorem PInv.new (now : Nat) : PInv now [] (fun _ => False) (List.replicate 8 (List.replicate 256 [])) := by
  refine ⟨List.length_replicate, fun l A h => ?_, fun l b A B h1 h2 => ?_, (fun _ h => by cases h), (fun _ h => by cases h), List.nodup_nil, (fun _ h => by cases h), (fun _ h => by cases h), fun l b s => ⟨fun ⟨A, B, h1, h2, h3⟩ => ?_, fun ⟨_, x, hx, _⟩ => by cases hx⟩⟩
  · rw [List.getElem?_replicate] at h
    split at h
    · cases h; exact List.length_replicate
    · cases h
  · rw [List.getElem?_replicate] at h1
    split at h1
    · cases h1
      rw [List.getElem?_replicate] at h2
      split at h2
      · cases h2; exact List.nodup_nil
      · cases h2
    · cases h1
  · rw [List.getElem?_replicate] at h1
    split at h1
    · cases h1
      rw [List.getElem?_replicate] at h2
      split at h2
      · cases h2; cases h3
      · cases h2
    · cases h1
theorem PInv.perm (h : PInv now M P Lss) (hp : M.Perm M') : PInv now M' P Lss :=
  ⟨h.len, h.wide, h.nd, fun a ha b hb => h.slots a (hp.mem_iff.2 ha) b (hp.mem_iff.2 hb), fun a ha b hb => h.births a (hp.mem_iff.2 ha) b (hp.mem_iff.2 hb), hp.nodup_iff.1 h.ndM, fun y hy => h.rng y (hp.mem_iff.2 hy), fun y hy => h.after y (hp.mem_iff.2 hy), fun l b s => by
    rw [h.at_]
    exact and_congr_right (fun _ => ⟨fun ⟨y, hy, k⟩ => ⟨y, hp.mem_iff.1 hy, k⟩, fun ⟨y, hy, k⟩ => ⟨y, hp.mem_iff.2 hy, k⟩⟩)⟩
end
end Go.Proofs.YtlalpenfgkfkpaaGreatDoor

/- cascade: what an advance moves, by plain lists. No condition. -/
namespace Go.Proofs.YtlalpenfgkfkpaaGreatDoor
def flatN (Ls : List (List Nat)) (n : Nat) : List Nat := (Ls.take n).flatten
def emptyL (Ls : List (List Nat)) (n : Nat) : List (List Nat) := List.replicate n [] ++ Ls.drop n
def clearL (Lss : List (List (List Nat))) (k : Nat) : List (List (List Nat)) := List.replicate k (List.replicate 256 []) ++ Lss.drop k
def movedK (Lss : List (List (List Nat))) (k : Nat) : List Nat := ((Lss.take k).map List.flatten).flatten
section
variable {now tt : Nat} {M M' : List Td} {P Q : Nat → Prop} {Lss Lss' : List (List (List Nat))} {Ls cur : List (List Nat)} {L L' : List Nat} {lv bk n b k : Nat} {x : Td}
theorem neB_cons (a : List Nat) (Ls : List (List Nat)) (i : Nat) : neB (a :: Ls) (i + 1) = neB Ls i := rfl
theorem take_flat_first : ∀ {cur : List (List Nat)} {b n : Nat} {L : List Nat}, b < n → cur[b]? = some L → (∀ i, i < b → neB cur i = false) → (cur.take n).flatten = L ++ ((cur.set b []).take n).flatten
  | [], b, n, L, _, h, _ => by cases h
  | a :: cur, 0, n + 1, L, _, h, _ => by
    injection h with h
    subst h
    simp
  | a :: cur, b + 1, n + 1, L, hb, h, he => by
    have h0 := he 0 (by omega)
    have ha : a = [] := by
      cases a with
      | nil => rfl
      | cons y a => simp [neB] at h0
    subst ha
    have := take_flat_first (cur := cur) (b := b) (n := n) (L := L) (by omega) h (fun i hi => by rw [← neB_cons [] cur i]; exact he (i + 1) (by omega))
    rw [List.take_succ_cons, List.flatten_cons, List.nil_append, this, List.set_cons_succ, List.take_succ_cons, List.flatten_cons, List.nil_append]
theorem take_flat_none : ∀ {cur : List (List Nat)} {n : Nat}, n ≤ cur.length → (∀ i, i < n → neB cur i = false) → cur.take n = List.replicate n []
  | cur, 0, _, _ => by simp
  | [], n + 1, h, _ => by simp at h
  | a :: cur, n + 1, h, he => by
    have h0 := he 0 (by omega)
    have ha : a = [] := by
      cases a with
      | nil => rfl
      | cons y a => simp [neB] at h0
    subst ha
    rw [List.take_succ_cons, take_flat_none (by simp at h; omega) (fun i hi => by rw [← neB_cons [] cur i]; exact he (i + 1) (by omega)), List.replicate_succ]
theorem flatten_rep (n : Nat) : (List.replicate n ([] : List Nat)).flatten = [] := by
  induction n with
  | zero => rfl
  | succ n ih => rw [List.replicate_succ, List.flatten_cons, ih]; rfl
theorem mem_flatN {s : Nat} : s ∈ flatN Ls n ↔ ∃ b L, b < n ∧ Ls[b]? = some L ∧ s ∈ L := by
  unfold flatN
  rw [List.mem_flatten]
  constructor
  · rintro ⟨L, hL, hs⟩
    obtain ⟨b, hb⟩ := List.getElem?_of_mem hL
    rw [List.getElem?_take] at hb
    split at hb
    · exact ⟨b, L, by assumption, hb, hs⟩
    · cases hb
  · rintro ⟨b, L, hb, hL, hs⟩
    refine ⟨L, ?_, hs⟩
    apply List.mem_of_getElem? (i := b)
    rw [List.getElem?_take, if_pos hb, hL]
theorem mem_movedK {s : Nat} : s ∈ movedK Lss k ↔ ∃ l b, l < k ∧ slotIn Lss l b s := by
  unfold movedK
  rw [List.mem_flatten]
  constructor
  · rintro ⟨A, hA, hs⟩
    obtain ⟨l, hl⟩ := List.getElem?_of_mem hA
    rw [List.getElem?_map, List.getElem?_take] at hl
    split at hl
    · cases hL : Lss[l]? with
      | none => rw [hL] at hl; cases hl
      | some Ls =>
        rw [hL] at hl
        injection hl with hl
        subst hl
        obtain ⟨B, hB, hs⟩ := List.mem_flatten.1 hs
        obtain ⟨b, hb⟩ := List.getElem?_of_mem hB
        exact ⟨l, b, by assumption, Ls, B, hL, hb, hs⟩
    · cases hl
  · rintro ⟨l, b, hl, Ls, B, hL, hB, hs⟩
    refine ⟨Ls.flatten, ?_, List.mem_flatten.2 ⟨B, List.mem_of_getElem? hB, hs⟩⟩
    apply List.mem_of_getElem? (i := l)
    rw [List.getElem?_map, List.getElem?_take, if_pos hl, hL]
    rfl
theorem movedK_succ (hL : Lss[k]? = some Ls) : movedK Lss (k + 1) = movedK Lss k ++ Ls.flatten := by
  unfold movedK
  rw [List.take_add_one, hL]
  simp
theorem clearL_succ (hL : Lss[k]? = some Ls) : clearL Lss (k + 1) = (clearL Lss k).set k (List.replicate 256 []) := by
  unfold clearL
  have hk := (List.getElem?_eq_some_iff.1 hL).1
  rw [List.set_append_right _ _ (by rw [List.length_replicate]; exact Nat.le_refl _), List.length_replicate, Nat.sub_self, List.drop_eq_getElem_cons hk, List.set_cons_zero, List.replicate_succ', List.append_assoc]
  rfl
theorem clearL_get (hk : k ≤ lv) : (clearL Lss k)[lv]? = Lss[lv]? := by
  unfold clearL
  rw [List.getElem?_append_right (by rw [List.length_replicate]; exact hk), List.length_replicate, List.getElem?_drop, show k + (lv - k) = lv by omega]
theorem clearL_lo (hk : lv < k) : (clearL Lss k)[lv]? = some (List.replicate 256 []) := by
  unfold clearL
  rw [List.getElem?_append_left (by rw [List.length_replicate]; exact hk), List.getElem?_replicate, if_pos hk]
theorem slotIn_clear {l s : Nat} : slotIn (clearL Lss k) l b s ↔ slotIn Lss l b s ∧ ¬ l < k := by
  unfold slotIn
  by_cases c : l < k
  · refine ⟨fun ⟨A, B, h1, h2, h3⟩ => ?_, fun h => absurd c h.2⟩
    rw [clearL_lo c] at h1
    cases h1
    rw [List.getElem?_replicate] at h2
    split at h2
    · cases h2; cases h3
    · cases h2
  · rw [clearL_get (by omega)]
    exact ⟨fun h => ⟨h, c⟩, fun h => h.1⟩
theorem emptyL_get (hn : n ≤ b) : (emptyL Ls n)[b]? = Ls[b]? := by
  unfold emptyL
  rw [List.getElem?_append_right (by rw [List.length_replicate]; exact hn), List.length_replicate, List.getElem?_drop, show n + (b - n) = b by omega]
theorem emptyL_lo (hn : b < n) : (emptyL Ls n)[b]? = some [] := by
  unfold emptyL
  rw [List.getElem?_append_left (by rw [List.length_replicate]; exact hn), List.getElem?_replicate, if_pos hn]
theorem emptyL_length (h : Ls.length = 256) (hn : n ≤ 256) : (emptyL Ls n).length = 256 := by
  unfold emptyL
  rw [List.length_append, List.length_replicate, List.length_drop, h]; omega
/-- What lies behind an advance. -/
def leftL (Lss : List (List (List Nat))) (Ls : List (List Nat)) (top n : Nat) : List (List (List Nat)) := (clearL Lss top).set top (emptyL Ls n)
theorem slotIn_left (hL : Lss[lv]? = some Ls) {l s : Nat} : slotIn (leftL Lss Ls lv n) l b s ↔ slotIn Lss l b s ∧ ¬ (l < lv ∨ l = lv ∧ b < n) := by
  have hlt : lv < (clearL Lss lv).length := by
    have := (List.getElem?_eq_some_iff.1 ((clearL_get (Lss := Lss) (Nat.le_refl lv)).trans hL)).1
    exact this
  unfold leftL
  by_cases e : l = lv
  · subst e
    unfold slotIn
    rw [List.getElem?_set_self hlt]
    by_cases c : b < n
    · refine ⟨fun ⟨A, B, h1, h2, h3⟩ => ?_, fun h => absurd (.inr ⟨rfl, c⟩) h.2⟩
      cases h1
      rw [emptyL_lo c] at h2
      cases h2
      cases h3
    · refine ⟨fun ⟨A, B, h1, h2, h3⟩ => ?_, fun ⟨⟨A, B, h1, h2, h3⟩, _⟩ => ?_⟩
      · cases h1
        rw [emptyL_get (by omega)] at h2
        exact ⟨⟨Ls, B, hL, h2, h3⟩, by omega⟩
      · rw [hL] at h1
        cases h1
        exact ⟨_, B, rfl, by rw [emptyL_get (by omega)]; exact h2, h3⟩
  · have h1 : slotIn ((clearL Lss lv).set lv (emptyL Ls n)) l b s ↔ slotIn (clearL Lss lv) l b s := by
      unfold slotIn
      rw [List.getElem?_set_ne (fun c => e c.symm)]
    rw [h1, slotIn_clear]
    refine and_congr_right (fun _ => ?_)
    omega
theorem nodup_flat : ∀ {A : List (List Nat)}, (∀ (i : Nat) (l : List Nat), A[i]? = some l → l.Nodup) → (∀ (i j : Nat) (l l' : List Nat) (s : Nat), A[i]? = some l → A[j]? = some l' → s ∈ l → s ∈ l' → i = j) → A.flatten.Nodup
  | [], _, _ => by simp
  | a :: A, h1, h2 => by
    rw [List.flatten_cons, List.nodup_append]
    refine ⟨h1 0 a rfl, nodup_flat (fun i l h => h1 (i + 1) l h) (fun i j l l' s e1 e2 s1 s2 => by have := h2 (i + 1) (j + 1) l l' s e1 e2 s1 s2; omega), fun s hs t ht e => ?_⟩
    subst e
    obtain ⟨B, hB, hs2⟩ := List.mem_flatten.1 ht
    obtain ⟨i, hi⟩ := List.getElem?_of_mem hB
    have := h2 0 (i + 1) a B s rfl hi hs hs2
    omega
theorem PInv.nodup_level (h : PInv now M P Lss) (hL : Lss[lv]? = some Ls) : Ls.flatten.Nodup :=
  nodup_flat (fun i l e => h.nd lv i Ls l hL e) (fun i j l l' s e1 e2 s1 s2 => (h.uniq (l := lv) (l' := lv) ⟨Ls, l, hL, e1, s1⟩ ⟨Ls, l', hL, e2, s2⟩).2)
theorem PInv.nodup_moved (h : PInv now M P Lss) (hL : Lss[lv]? = some Ls) : (movedK Lss lv ++ flatN Ls n).Nodup := by
  rw [List.nodup_append]
  refine ⟨nodup_flat (fun i l e => ?_) (fun i j l l' s e1 e2 s1 s2 => ?_), ?_, fun s hs t ht e => ?_⟩
  · rw [List.getElem?_map, List.getElem?_take] at e
    split at e
    · cases hA : Lss[i]? with
      | none => rw [hA] at e; cases e
      | some A => rw [hA] at e; injection e with e; subst e; exact h.nodup_level hA
    · cases e
  · rw [List.getElem?_map, List.getElem?_take] at e1 e2
    split at e1
    · split at e2
      · cases hA : Lss[i]? with
        | none => rw [hA] at e1; cases e1
        | some A =>
          cases hB : Lss[j]? with
          | none => rw [hB] at e2; cases e2
          | some B =>
            rw [hA] at e1; injection e1 with e1; subst e1
            rw [hB] at e2; injection e2 with e2; subst e2
            obtain ⟨C, hC, c1⟩ := List.mem_flatten.1 s1
            obtain ⟨D, hD, d1⟩ := List.mem_flatten.1 s2
            obtain ⟨b1, hb1⟩ := List.getElem?_of_mem hC
            obtain ⟨b2, hb2⟩ := List.getElem?_of_mem hD
            exact (h.uniq ⟨A, C, hA, hb1, c1⟩ ⟨B, D, hB, hb2, d1⟩).1
      · cases e2
    · cases e1
  · have := h.nodup_level hL
    rw [← List.take_append_drop n Ls, List.flatten_append, List.nodup_append] at this
    exact this.1
  · subst e
    obtain ⟨l, b, hl, h1⟩ := mem_movedK.1 hs
    obtain ⟨b2, B, _, h2, h3⟩ := mem_flatN.1 ht
    have := (h.uniq h1 ⟨Ls, B, hL, h2, h3⟩).1
    omega
/-- The time goes on: what is moved is in no bucket, and all else is where it was. -/
theorem PInv.start (h : PInv now M (fun _ => False) Lss) (hn : now < tt) (ht : tt < 18446744073709551616) (hL : Lss[lvl now tt]? = some Ls) :
    PInv tt M (fun s => s ∈ movedK Lss (lvl now tt) ++ flatN Ls (bkt now tt + 1)) (leftL Lss Ls (lvl now tt) (bkt now tt + 1)) ∧ ∀ s, s ∈ movedK Lss (lvl now tt) ++ flatN Ls (bkt now tt + 1) → ∃ x ∈ M, x.slot = s := by
  have hb : bkt now tt < 256 := bkt_lt
  have hlen : (clearL Lss (lvl now tt)).length = 8 := by
    have := (List.getElem?_eq_some_iff.1 hL).1
    have := h.len
    unfold clearL
    rw [List.length_append, List.length_replicate, List.length_drop]; omega
  have hmv : ∀ s, s ∈ movedK Lss (lvl now tt) ++ flatN Ls (bkt now tt + 1) ↔ ∃ l b, slotIn Lss l b s ∧ (l < lvl now tt ∨ l = lvl now tt ∧ b < bkt now tt + 1) := fun s => by
    rw [List.mem_append, mem_movedK, mem_flatN]
    constructor
    · rintro (⟨l, b, h1, h2⟩ | ⟨b, B, h1, h2, h3⟩)
      · exact ⟨l, b, h2, .inl h1⟩
      · exact ⟨_, b, ⟨Ls, B, hL, h2, h3⟩, .inr ⟨rfl, h1⟩⟩
    · rintro ⟨l, b, h1, h2 | ⟨rfl, h2⟩⟩
      · exact .inl ⟨l, b, h2, h1⟩
      · obtain ⟨A, B, a1, a2, a3⟩ := h1
        rw [hL] at a1
        cases a1
        exact .inr ⟨b, B, h2, a2, a3⟩
  have hnm : ∀ x ∈ M, x.slot ∉ movedK Lss (lvl now tt) ++ flatN Ls (bkt now tt + 1) → tt < x.dl ∧ lvl tt x.dl = lvl now x.dl ∧ bkt tt x.dl = bkt now x.dl := fun x hx hs => by
    obtain ⟨_, r2, _⟩ := h.rng x hx
    refine not_moved (by omega) ht (by omega) (h.after x hx (fun c => c)) hn (fun hm => hs ((hmv _).2 ⟨lvl now x.dl, bkt now x.dl, (h.at_ _ _ _).2 ⟨(fun c => c), x, hx, rfl, rfl, rfl⟩, ?_⟩))
    unfold movedD at hm
    rcases hm with hm | ⟨h1, h2⟩
    · exact .inl hm
    · exact .inr ⟨h1, by omega⟩
  refine ⟨⟨by unfold leftL; rw [List.length_set]; exact hlen, fun l A hA => ?_, fun l b A B hA hB => ?_, h.slots, h.births, h.ndM, h.rng, fun x hx hs => (hnm x hx hs).1, fun l b s => ?_⟩, fun s hs => ?_⟩
  · unfold leftL at hA
    by_cases e : l = lvl now tt
    · subst e
      rw [List.getElem?_set_self (by rw [hlen]; have := (List.getElem?_eq_some_iff.1 hL).1; rw [h.len] at this; exact this)] at hA
      cases hA
      exact emptyL_length (h.wide _ _ hL) (by omega)
    · rw [List.getElem?_set_ne (fun c => e c.symm)] at hA
      by_cases c : l < lvl now tt
      · rw [clearL_lo c] at hA
        cases hA
        exact List.length_replicate
      · rw [clearL_get (by omega)] at hA
        exact h.wide l A hA
  · unfold leftL at hA
    by_cases e : l = lvl now tt
    · subst e
      rw [List.getElem?_set_self (by rw [hlen]; have := (List.getElem?_eq_some_iff.1 hL).1; rw [h.len] at this; exact this)] at hA
      cases hA
      by_cases c : b < bkt now tt + 1
      · rw [emptyL_lo c] at hB
        cases hB
        exact List.nodup_nil
      · rw [emptyL_get (by omega)] at hB
        exact h.nd _ _ _ _ hL hB
    · rw [List.getElem?_set_ne (fun c => e c.symm)] at hA
      by_cases c : l < lvl now tt
      · rw [clearL_lo c] at hA
        cases hA
        rw [List.getElem?_replicate] at hB
        split at hB
        · cases hB; exact List.nodup_nil
        · cases hB
      · rw [clearL_get (by omega)] at hA
        exact h.nd l b A B hA hB
  · rw [slotIn_left hL]
    constructor
    · rintro ⟨h1, h2⟩
      obtain ⟨_, x, hx, e1, e2, e3⟩ := (h.at_ _ _ _).1 h1
      have hns : s ∉ movedK Lss (lvl now tt) ++ flatN Ls (bkt now tt + 1) := fun c => by
        obtain ⟨l', b', h3, h4⟩ := (hmv s).1 c
        obtain ⟨f1, f2⟩ := h.uniq h1 h3
        rw [← f1, ← f2] at h4
        exact h2 h4
      obtain ⟨_, g2, g3⟩ := hnm x hx (by rw [e1]; exact hns)
      exact ⟨hns, x, hx, e1, by rw [g2, e2], by rw [g3, e3]⟩
    · rintro ⟨hns, x, hx, e1, e2, e3⟩
      obtain ⟨_, g2, g3⟩ := hnm x hx (by rw [e1]; exact hns)
      have h1 : slotIn Lss l b s := (h.at_ _ _ _).2 ⟨(fun c => c), x, hx, e1, by rw [← g2, e2], by rw [← g3, e3]⟩
      exact ⟨h1, fun c => hns ((hmv s).2 ⟨l, b, h1, c⟩)⟩
  · obtain ⟨l, b, h1, _⟩ := (hmv s).1 hs
    obtain ⟨_, x, hx, e, _⟩ := (h.at_ _ _ _).1 h1
    exact ⟨x, hx, e⟩
end
end Go.Proofs.YtlalpenfgkfkpaaGreatDoor

/- cascade: an advance, by plain lists: what is due, sorted, and what is left. No condition. -/
namespace Go.Proofs.YtlalpenfgkfkpaaGreatDoor
section
variable {now tt : Nat} {M M' Mj dj : List Td} {P Q : Nat → Prop} {Lss Lss' : List (List (List Nat))} {Ls cur : List (List Nat)} {L L' mv : List Nat} {lv bk n b k s : Nat} {x : Td}
/-- One is taken away. -/
theorem PInv.without (h : PInv now M P Lss) (hp : M.Perm (x :: M')) : x ∈ M ∧ (∀ y, y ∈ M' ↔ y ∈ M ∧ y.slot ≠ x.slot) ∧ (∀ y, y ∈ M' ↔ y ∈ M ∧ y.birth ≠ x.birth) ∧ M'.Nodup ∧ M'.length + 1 = M.length := by
  have hx : x ∈ M := hp.mem_iff.2 List.mem_cons_self
  have hnd := hp.nodup_iff.1 h.ndM
  obtain ⟨n1, n2⟩ := List.nodup_cons.1 hnd
  have key : ∀ y, y ∈ M' ↔ y ∈ M ∧ y ≠ x := fun y => by
    rw [hp.mem_iff, List.mem_cons]
    constructor
    · intro hy
      exact ⟨.inr hy, fun e => n1 (e ▸ hy)⟩
    · rintro ⟨e | e, c⟩
      · exact absurd e c
      · exact e
  refine ⟨hx, fun y => ?_, fun y => ?_, n2, by rw [hp.length_eq]; rfl⟩
  · rw [key]
    exact and_congr_right (fun hy => ⟨fun c e => c (h.slots y hy x hx e), fun c e => c (by rw [e])⟩)
  · rw [key]
    exact and_congr_right (fun hy => ⟨fun c e => c (h.births y hy x hx e), fun c e => c (by rw [e])⟩)
theorem perm_filter_slot (h : PInv now M P Lss) (hx : x ∈ M) : M.Perm (x :: M.filter (fun y => y.slot != x.slot)) := by
  have h1 : ∀ (A : List Td), (∀ a ∈ A, ∀ b ∈ A, a.slot = b.slot → a = b) → A.Nodup → x ∈ A → A.Perm (x :: A.filter (fun y => y.slot != x.slot)) := by
    intro A
    induction A with
    | nil => intro _ _ hx; cases hx
    | cons a A ih =>
      intro hs hnd hx
      obtain ⟨n1, n2⟩ := List.nodup_cons.1 hnd
      by_cases e : a.slot = x.slot
      · have : a = x := hs a List.mem_cons_self x hx e
        subst this
        have hf : A.filter (fun y => y.slot != a.slot) = A := by
          rw [List.filter_eq_self]
          intro y hy
          have : y.slot ≠ a.slot := fun c => n1 (by rw [← hs y (List.mem_cons_of_mem _ hy) a List.mem_cons_self c]; exact hy)
          simpa using this
        rw [List.filter_cons, if_neg (by simp), hf]
      · rw [List.filter_cons, if_pos (by simpa using e)]
        have hx2 : x ∈ A := by
          rcases List.mem_cons.1 hx with c | c
          · exact absurd (by rw [c]) e
          · exact c
        exact ((ih (fun u hu v hv => hs u (List.mem_cons_of_mem _ hu) v (List.mem_cons_of_mem _ hv)) n2 hx2).cons a).trans (List.Perm.swap x a _)
  exact h1 M h.slots h.ndM hx
/-- An advance to tt under way: mv is still to be looked at, dj is due. -/
structure AdvSt (tt : Nat) (M : List Td) (mv : List Nat) (Mj dj : List Td) (Lssj : List (List (List Nat))) : Prop where
  inv : PInv tt Mj (fun s => s ∈ mv) Lssj
  perm : (Mj ++ dj).Perm M
  due : ∀ x ∈ dj, x.dl ≤ tt
  nd : mv.Nodup
  has : ∀ s ∈ mv, ∃ x ∈ Mj, x.slot = s
theorem AdvSt.stay (h : AdvSt tt M (s :: mv) Mj dj Lss) (hx : x ∈ Mj) (hs : x.slot = s) (hn : tt < x.dl) (hL : Lss[lvl tt x.dl]? = some Ls) (hK : Ls[bkt tt x.dl]? = some L) :
    AdvSt tt M mv Mj dj (Lss.set (lvl tt x.dl) (Ls.set (bkt tt x.dl) (L ++ [x.slot]))) := by
  obtain ⟨n1, n2⟩ := List.nodup_cons.1 h.nd
  refine ⟨h.inv.put (.inr ⟨hx, fun y hy e => h.inv.slots y hy x hx e, rfl⟩) hn (h.inv.rng x hx) (fun y hy e => by rw [hs]; exact List.mem_cons_self) hL hK (fun t => ?_), h.perm, h.due, n2, fun t ht => h.has t (List.mem_cons_of_mem _ ht)⟩
  rw [List.mem_cons, hs]
  constructor
  · intro ht; exact ⟨.inr ht, fun e => n1 (e ▸ ht)⟩
  · rintro ⟨e | e, c⟩
    · exact absurd e c
    · exact e
theorem AdvSt.go (h : AdvSt tt M (s :: mv) Mj dj Lss) (hs : x.slot = s) (hd : x.dl ≤ tt) (hp : Mj.Perm (x :: M')) : AdvSt tt M mv M' (dj ++ [x]) Lss := by
  obtain ⟨n1, n2⟩ := List.nodup_cons.1 h.nd
  obtain ⟨hx, w1, w2, w3, w4⟩ := h.inv.without hp
  refine ⟨h.inv.drop (x := x) (by rw [hs]; exact List.mem_cons_self) w1 w3 (fun t => ?_), ?_, fun y hy => ?_, n2, fun t ht => ?_⟩
  · rw [List.mem_cons, hs]
    constructor
    · intro ht; exact ⟨.inr ht, fun e => n1 (e ▸ ht)⟩
    · rintro ⟨e | e, c⟩
      · exact absurd e c
      · exact e
  · refine List.Perm.trans ?_ h.perm
    refine List.Perm.trans ?_ (hp.symm.append_right dj)
    rw [← List.append_assoc]
    exact List.perm_append_comm.trans (by simp)
  · rcases List.mem_append.1 hy with hy | hy
    · exact h.due y hy
    · rw [List.mem_singleton] at hy; rw [hy]; exact hd
  · obtain ⟨y, hy, e⟩ := h.has t (List.mem_cons_of_mem _ ht)
    exact ⟨y, (w1 y).2 ⟨hy, fun c => n1 (by rw [← hs, ← c, e]; exact ht)⟩, e⟩
theorem AdvSt.fin (h : AdvSt tt M [] Mj dj Lss) : PInv tt Mj (fun _ => False) Lss ∧ ∀ x ∈ Mj, tt < x.dl := by
  have h0 : (fun s : Nat => s ∈ ([] : List Nat)) = fun _ => False := by funext s; simp
  have := h.inv
  rw [h0] at this
  exact ⟨this, fun x hx => this.after x hx (fun c => c)⟩
theorem PInv.adv (h : PInv now M (fun _ => False) Lss) (hn : now < tt) (ht : tt < 18446744073709551616) (hL : Lss[lvl now tt]? = some Ls) :
    AdvSt tt M (movedK Lss (lvl now tt) ++ flatN Ls (bkt now tt + 1)) M [] (leftL Lss Ls (lvl now tt) (bkt now tt + 1)) := by
  obtain ⟨h1, h2⟩ := h.start hn ht hL
  exact ⟨h1, by simp, (fun _ h => by cases h), h.nodup_moved hL, h2⟩
/-- What is due first. -/
def bef (a b : Td) : Prop := a.dl < b.dl ∨ a.dl = b.dl ∧ a.birth < b.birth
def befB (a b : Td) : Bool := decide (a.dl < b.dl) || (decide (a.dl = b.dl) && decide (a.birth < b.birth))
theorem befB_iff {a b : Td} : befB a b = true ↔ bef a b := by unfold befB bef; simp
theorem bef_asymm {a b : Td} (h1 : bef a b) (h2 : bef b a) : False := by unfold bef at *; omega
theorem sorted_uniq : ∀ {A B : List Td}, A.Pairwise bef → B.Pairwise bef → A.Perm B → A = B := by
  intro A B h1 h2 h3
  exact h3.eq_of_pairwise (fun a b _ _ x y => (bef_asymm x y).elim) h1 h2
theorem takeWhile_filter : ∀ {A : List Td}, A.Pairwise bef → A.takeWhile (fun x => decide (x.dl ≤ tt)) = A.filter (fun x => decide (x.dl ≤ tt)) ∧ A.dropWhile (fun x => decide (x.dl ≤ tt)) = A.filter (fun x => !decide (x.dl ≤ tt))
  | [], _ => by simp
  | a :: A, h => by
    obtain ⟨h1, h2⟩ := List.pairwise_cons.1 h
    by_cases c : a.dl ≤ tt
    · obtain ⟨i1, i2⟩ := takeWhile_filter (A := A) h2
      simp [c, i1, i2]
    · have hz : ∀ y ∈ A, ¬ y.dl ≤ tt := fun y hy => by
        have := h1 y hy
        unfold bef at this
        omega
      have e1 : A.filter (fun x => decide (x.dl ≤ tt)) = [] := by
        rw [List.filter_eq_nil_iff]
        intro y hy
        simpa using hz y hy
      have e2 : A.filter (fun x => !decide (x.dl ≤ tt)) = A := by
        rw [List.filter_eq_self]
        intro y hy
        simpa using hz y hy
      simp only [List.takeWhile_cons, List.dropWhile_cons, List.filter_cons]
      simp [c, e1, e2]
theorem adv_end {A : List Td} (hs : A.Pairwise bef) (hp : (Mj ++ dj).Perm A) (h1 : ∀ x ∈ dj, x.dl ≤ tt) (h2 : ∀ x ∈ Mj, tt < x.dl) :
    dj.Perm (A.takeWhile (fun x => decide (x.dl ≤ tt))) ∧ Mj.Perm (A.dropWhile (fun x => decide (x.dl ≤ tt))) := by
  obtain ⟨e1, e2⟩ := takeWhile_filter (tt := tt) hs
  rw [e1, e2]
  have f1 := (hp.filter (fun x => decide (x.dl ≤ tt)))
  have f2 := (hp.filter (fun x => !decide (x.dl ≤ tt)))
  rw [List.filter_append] at f1 f2
  have a1 : Mj.filter (fun x => decide (x.dl ≤ tt)) = [] := by
    rw [List.filter_eq_nil_iff]
    intro y hy
    have := h2 y hy
    simp; omega
  have a2 : dj.filter (fun x => decide (x.dl ≤ tt)) = dj := by
    rw [List.filter_eq_self]
    intro y hy
    simpa using h1 y hy
  have a3 : Mj.filter (fun x => !decide (x.dl ≤ tt)) = Mj := by
    rw [List.filter_eq_self]
    intro y hy
    have := h2 y hy
    simp; omega
  have a4 : dj.filter (fun x => !decide (x.dl ≤ tt)) = [] := by
    rw [List.filter_eq_nil_iff]
    intro y hy
    simpa using h1 y hy
  rw [a1, a2] at f1
  rw [a3, a4, List.append_nil] at f2
  exact ⟨by simpa using f1, f2⟩
end
end Go.Proofs.YtlalpenfgkfkpaaGreatDoor

/- cascade: Get. Conditions: the cascade lies in memory. -/
namespace Go.Proofs.YtlalpenfgkfkpaaGreatDoor
open Go.RowKit
set_option maxRecDepth 100000
section
variable {w w' : World} {D : Nat → Prop} {p now : Nat} {ws : List Nat} {bm bb : Nat} {Ds : Nat → Nat → Prop} {Dm Db : DataW Unit} {M : List Td} {Lss : List (List (List Nat))}
abbrev zTd : Td := ⟨0, 0, 0⟩
/-- What Get says of a slot. -/
def getT (M : List Td) (s : Nat) : Td × Int := if s < 4194304 then (match M.find? (fun x => x.slot == s) with | some x => (x, 0) | none => (zTd, 9)) else (zTd, 2)
theorem getT_hit {s : Nat} {x : Td} (hs : s < 4194304) (hx : M.find? (fun x => x.slot == s) = some x) : getT M s = (x, 0) := by unfold getT; rw [if_pos hs, hx]
theorem getT_miss {s : Nat} (hs : s < 4194304) (hx : M.find? (fun x => x.slot == s) = none) : getT M s = (zTd, 9) := by unfold getT; rw [if_pos hs, hx]
theorem getT_arg {s : Nat} (hs : ¬ s < 4194304) : getT M s = (zTd, 2) := by unfold getT; rw [if_neg hs]
set_option maxHeartbeats 1000000 in
theorem cget_ok (h : CasMem w D p now ws bm bb Ds Dm Db M Lss) {s : Nat} (h32 : s ≤ 4294967295) :
    Calls Tryz.prog 66 #[lkP p, .int .u32 s] w fun e w' => e = .returned (.tuple #[tdV (getT M s).1, .int .i64 (getT M s).2]) ∧ Pure w w' := by
  have hal : Pure w (w.alloc (.cells #[.int .u32 0, .int .u64 0, .int .u64 0] 45)) := (Mod.refl _ w).alloc _
  have h4 := heap_new (w := w) (o := .cells #[.int .u32 0, .int .u64 0, .int .u64 0] 45 (0, 0)) rfl
  have HC := Lib.hid (h.pure hal)
  have HCk := Lib.hid (ccheck_any (h.pure hal).box h32)
  obtain ⟨c0, c9, c10, _, _⟩ := (h.pure hal).box.cells
  have HAL := Lib.hid hal
  clear hal
  by_cases hs : s < 4194304
  · have hse : slotE s = 0 := by unfold slotE; rw [if_pos hs]
    rw [hse] at HCk
    cases hf : M.find? (fun x => x.slot == s) with
    | some x =>
      have hxM := List.mem_of_find?_eq_some hf
      have hxs : x.slot = s := by have := List.find?_some hf; simpa using this
      subst hxs
      have hlk := HC.out.what.look hxM (by omega)
      rw [getT_hit hs hf]
      unfold tdV at hlk ⊢
      clear h hf hxM hse
      go_enter Tryz.func66, Tryz.ntmps66
      go_upto_region 1 with fail
      generalize w.alloc (.cells #[.int .u32 0, .int .u64 0, .int .u64 0] 45) = W1 at *
      obtain ⟨b4, hb4⟩ : ∃ b4, w.heap.size = b4 := ⟨_, rfl⟩
      rw [hb4] at h4 ⊢
      have hb4' : w.heap.size ≤ b4 := by omega
      clear hb4
      have h4_0 := cell_of_row _ _ 0 _ _ _ h4; have h4_1 := cell_of_row _ _ 1 _ _ _ h4; have h4_2 := cell_of_row _ _ 2 _ _ _ h4; have h4_f := (fun j => frozen_of_row _ _ j _ _ h4); have h4_l := lt_of_block h4; simp at h4_0 h4_1 h4_2; have H_h4 := Lib.hid h4; clear h4
      go_wp2_with (go_at_call 46; refine Calls.mono HCk.out ?_; rintro e w' ⟨rfl, rfl⟩)
      have hpp := HAL.out
      refine bodyPost_ret (v := .tuple #[.agg #[.int .u32 x.slot, .int .u64 x.dl, .int .u64 x.birth], .int .i64 0]) (by simp [results, Tryz.results66, go_sem, h4_0, h4_1, h4_2, h4_l]) rfl ⟨rfl, ?_⟩
      (repeat' (first | (with_reducible exact Mod.refl _ _) | (with_reducible refine Mod.alloc ?_ _) | (with_reducible refine Mod.drew ?_) | (with_reducible refine Mod.drewN ?_ _) | (with_reducible refine Mod.setCell ?_ ?_ _) | (refine Mod.then ?_ (by with_reducible assumption) ?_)))
      (all_goals (intros; first | (exfalso; assumption) | omega | (simp at *; done) | (simp at *; omega)))
    | none =>
      have hnx : ∀ x ∈ M, x.slot ≠ s := fun x hx e => by have := List.find?_eq_none.1 hf x hx; simp [e] at this
      have hlk := HC.out.what.look_no (s := s) (by omega) hnx
      rw [getT_miss hs hf]
      unfold tdV at hlk ⊢
      clear h hf hnx hse
      go_enter Tryz.func66, Tryz.ntmps66
      go_upto_region 1 with fail
      generalize w.alloc (.cells #[.int .u32 0, .int .u64 0, .int .u64 0] 45) = W1 at *
      obtain ⟨b4, hb4⟩ : ∃ b4, w.heap.size = b4 := ⟨_, rfl⟩
      rw [hb4] at h4 ⊢
      have hb4' : w.heap.size ≤ b4 := by omega
      clear hb4
      have h4_0 := cell_of_row _ _ 0 _ _ _ h4; have h4_1 := cell_of_row _ _ 1 _ _ _ h4; have h4_2 := cell_of_row _ _ 2 _ _ _ h4; have h4_f := (fun j => frozen_of_row _ _ j _ _ h4); have h4_l := lt_of_block h4; simp at h4_0 h4_1 h4_2; have H_h4 := Lib.hid h4; clear h4
      go_wp2_with (go_at_call 46; refine Calls.mono HCk.out ?_; rintro e w' ⟨rfl, rfl⟩)
      have hpp := HAL.out
      refine bodyPost_ret (v := .tuple #[.agg #[.int .u32 0, .int .u64 0, .int .u64 0], .int .i64 9]) (by simp [results, Tryz.results66, go_sem, h4_0, h4_1, h4_2, h4_l]) rfl ⟨rfl, ?_⟩
      (repeat' (first | (with_reducible exact Mod.refl _ _) | (with_reducible refine Mod.alloc ?_ _) | (with_reducible refine Mod.drew ?_) | (with_reducible refine Mod.drewN ?_ _) | (with_reducible refine Mod.setCell ?_ ?_ _) | (refine Mod.then ?_ (by with_reducible assumption) ?_)))
      (all_goals (intros; first | (exfalso; assumption) | omega | (simp at *; done) | (simp at *; omega)))
  · have hse : slotE s = 2 := by unfold slotE; rw [if_neg hs]
    rw [hse] at HCk
    rw [getT_arg hs]
    unfold tdV
    clear h hse
    go_enter Tryz.func66, Tryz.ntmps66
    go_upto_region 1 with fail
    generalize w.alloc (.cells #[.int .u32 0, .int .u64 0, .int .u64 0] 45) = W1 at *
    obtain ⟨b4, hb4⟩ : ∃ b4, w.heap.size = b4 := ⟨_, rfl⟩
    rw [hb4] at h4 ⊢
    have hb4' : w.heap.size ≤ b4 := by omega
    clear hb4
    have h4_0 := cell_of_row _ _ 0 _ _ _ h4; have h4_1 := cell_of_row _ _ 1 _ _ _ h4; have h4_2 := cell_of_row _ _ 2 _ _ _ h4; have h4_f := (fun j => frozen_of_row _ _ j _ _ h4); have h4_l := lt_of_block h4; simp at h4_0 h4_1 h4_2; have H_h4 := Lib.hid h4; clear h4
    go_wp2_with (go_at_call 46; refine Calls.mono HCk.out ?_; rintro e w' ⟨rfl, rfl⟩)
    have hpp := HAL.out
    refine bodyPost_ret (v := .tuple #[.agg #[.int .u32 0, .int .u64 0, .int .u64 0], .int .i64 2]) (by simp [results, Tryz.results66, go_sem, h4_0, h4_1, h4_2, h4_l]) rfl ⟨rfl, ?_⟩
    (repeat' (first | (with_reducible exact Mod.refl _ _) | (with_reducible refine Mod.alloc ?_ _) | (with_reducible refine Mod.drew ?_) | (with_reducible refine Mod.drewN ?_ _) | (with_reducible refine Mod.setCell ?_ ?_ _) | (refine Mod.then ?_ (by with_reducible assumption) ?_)))
    (all_goals (intros; first | (exfalso; assumption) | omega | (simp at *; done) | (simp at *; omega)))
end
end Go.Proofs.YtlalpenfgkfkpaaGreatDoor

/- cascade: the list in order: put, find, take out, by plain lists. No condition. -/
namespace Go.Proofs.YtlalpenfgkfkpaaGreatDoor
/-- x put into a list in order. -/
def putL (L : List Td) (x : Td) : List Td := L.takeWhile (fun y => befB y x) ++ x :: L.dropWhile (fun y => befB y x)
def findI (L : List Td) (s : Nat) : Nat := L.findIdx (fun y => y.slot == s)
def outI (L : List Td) (s : Nat) : List Td := L.eraseIdx (findI L s)
def bornB (L : List Td) (b : Nat) : Bool := L.any (fun y => y.birth == b)
def hasB (L : List Td) (s : Nat) : Bool := L.any (fun y => y.slot == s)
section
variable {now tt : Nat} {M M' : List Td} {P Q : Nat → Prop} {Lss Lss' : List (List (List Nat))} {L : List Td} {s : Nat} {x : Td}
theorem putL_perm : (putL L x).Perm (x :: L) := by
  unfold putL
  have h : L.takeWhile (fun y => befB y x) ++ L.dropWhile (fun y => befB y x) = L := List.takeWhile_append_dropWhile
  refine List.perm_middle.trans ?_
  rw [h]
theorem putL_mem {y : Td} : y ∈ putL L x ↔ y = x ∨ y ∈ L := by rw [putL_perm.mem_iff, List.mem_cons]
theorem putL_length : (putL L x).length = L.length + 1 := by rw [putL_perm.length_eq]; rfl
theorem bef_trans {a b c : Td} (h1 : bef a b) (h2 : bef b c) : bef a c := by unfold bef at *; omega
theorem bef_total {a b : Td} (h : a.birth ≠ b.birth) : bef a b ∨ bef b a := by unfold bef; omega
theorem putL_sorted (h : L.Pairwise bef) (hb : ∀ y ∈ L, y.birth ≠ x.birth) : (putL L x).Pairwise bef := by
  induction L with
  | nil => simp [putL]
  | cons a L ih =>
    obtain ⟨h1, h2⟩ := List.pairwise_cons.1 h
    have ih := ih h2 (fun y hy => hb y (List.mem_cons_of_mem _ hy))
    by_cases c : befB a x = true
    · have e : putL (a :: L) x = a :: putL L x := by unfold putL; simp [c]
      rw [e, List.pairwise_cons]
      refine ⟨fun y hy => ?_, ih⟩
      rcases putL_mem.1 hy with rfl | hy
      · exact befB_iff.1 c
      · exact h1 y hy
    · have e : putL (a :: L) x = x :: a :: L := by unfold putL; simp [c]
      have hxa : bef x a := by
        rcases bef_total (hb a List.mem_cons_self) with k | k
        · exact absurd (befB_iff.2 k) c
        · exact k
      rw [e, List.pairwise_cons]
      refine ⟨fun y hy => ?_, h⟩
      rcases List.mem_cons.1 hy with rfl | hy
      · exact hxa
      · exact bef_trans hxa (h1 y hy)
theorem hasB_iff : hasB L s = true ↔ ∃ y ∈ L, y.slot = s := by unfold hasB; simp
theorem bornB_iff : bornB L s = true ↔ ∃ y ∈ L, y.birth = s := by unfold bornB; simp
theorem findI_lt : findI L s < L.length ↔ hasB L s = true := by
  unfold findI
  rw [List.findIdx_lt_length, hasB_iff]
  simp
theorem perm_eraseIdx : ∀ {L : List Td} {i : Nat} {x : Td}, L[i]? = some x → L.Perm (x :: L.eraseIdx i)
  | [], _, _, h => by cases h
  | a :: L, 0, x, h => by injection h with h; subst h; exact List.Perm.refl _
  | a :: L, i + 1, x, h => ((perm_eraseIdx (L := L) (i := i) h).cons a).trans (List.Perm.swap x a _)
theorem findI_get (h : findI L s < L.length) : ∃ x, L[findI L s]? = some x ∧ x.slot = s ∧ L.find? (fun y => y.slot == s) = some x ∧ L.Perm (x :: outI L s) := by
  have h1 : (L[findI L s].slot == s) = true := List.findIdx_getElem (p := fun y : Td => y.slot == s) (xs := L) (w := h)
  refine ⟨_, List.getElem?_eq_getElem h, beq_iff_eq.1 h1, ?_, perm_eraseIdx (List.getElem?_eq_getElem h)⟩
  rw [List.find?_eq_some_iff_getElem]
  refine ⟨h1, findI L s, h, rfl, fun j hj => ?_⟩
  have := List.not_of_lt_findIdx (p := fun y : Td => y.slot == s) hj
  simpa using this
theorem find_none (h : hasB L s = false) : L.find? (fun y => y.slot == s) = none := by
  rw [List.find?_eq_none]
  intro y hy c
  have : hasB L s = true := hasB_iff.2 ⟨y, hy, by simpa using c⟩
  rw [h] at this
  cases this
theorem outI_sorted (h : L.Pairwise bef) : (outI L s).Pairwise bef := h.sublist (List.eraseIdx_sublist _ _)
theorem dropWhile_sorted (h : L.Pairwise bef) (p : Td → Bool) : (L.dropWhile p).Pairwise bef := h.sublist (List.dropWhile_sublist p)
theorem PInv.born (h : PInv now L P Lss) {x y : Td} (hx : x ∈ L) (hy : y ∈ L) (e : x.slot = y.slot) : x = y := h.slots x hx y hy e
/-- Schedule puts x in. -/
theorem PInv.sched (h : PInv now L (fun _ => False) Lss) (hn : now < x.dl) (hr : x.slot < 4194304 ∧ x.dl < 18446744073709551615 ∧ 0 < x.birth ∧ x.birth ≤ 18446744073709551615) (h1 : ∀ y ∈ L, y.slot ≠ x.slot) (h2 : ∀ y ∈ L, y.birth ≠ x.birth) {Ls : List (List Nat)} {B : List Nat}
    (hL : Lss[lvl now x.dl]? = some Ls) (hK : Ls[bkt now x.dl]? = some B) : PInv now (putL L x) (fun _ => False) (Lss.set (lvl now x.dl) (Ls.set (bkt now x.dl) (B ++ [x.slot]))) :=
  (h.put (M' := x :: L) (Q := fun _ => False) (.inl ⟨h1, h2, rfl⟩) hn hr (fun y hy e => absurd e (h1 y hy)) hL hK (fun s => ⟨fun c => c.elim, fun c => c.1.elim⟩)).perm putL_perm.symm
end
end Go.Proofs.YtlalpenfgkfkpaaGreatDoor

/- cascade: Cancel. Conditions: the cascade lies in memory; what is timed is in its bucket. -/
namespace Go.Proofs.YtlalpenfgkfkpaaGreatDoor
open Go.RowKit
set_option maxRecDepth 100000
section
variable {w w' : World} {D : Nat → Prop} {p now : Nat} {ws : List Nat} {bm bb : Nat} {Ds : Nat → Nat → Prop} {Dm Db : DataW Unit} {M : List Td} {Lss : List (List (List Nat))}
set_option maxHeartbeats 2000000 in
theorem ccancel_ok (h : CasMem w D p now ws bm bb Ds Dm Db M Lss) {x : Td} {M' : List Td} (hg : M.find? (fun y => y.slot == x.slot) = some x) (hs : x.slot < 4194304) (hd : x.dl < 18446744073709551616) (hb : x.birth ≤ 18446744073709551615) (hne : x.dl ≠ now) {Ls : List (List Nat)} {L : List Nat}
    (hL : Lss[lvl now x.dl]? = some Ls) (hK : Ls[bkt now x.dl]? = some L) (hf : x.slot ∈ L) (hM : ∀ y, y ∈ M' ↔ y ∈ M ∧ y.slot ≠ x.slot) (hM2 : ∀ y, y ∈ M' ↔ y ∈ M ∧ y.birth ≠ x.birth) (hl : M'.length + 1 = M.length) :
    Calls Tryz.prog 47 #[lkP p, .int .u32 x.slot] w fun e w' => e = .returned (.tuple #[tdV x, .int .i64 0]) ∧ (∃ D' Ds' Dm' Db', CasMem w' D' p now ws bm bb Ds' Dm' Db' M' (Lss.set (lvl now x.dl) (Ls.set (bkt now x.dl) (L.erase x.slot))) ∧ grewD D D' w) ∧ Mod D w w' := by
  have hal : Pure w (w.alloc (.cells #[.int .u32 0, .int .u64 0, .int .u64 0] 45)) := (Mod.refl _ w).alloc _
  have h4 := heap_new (w := w) (o := .cells #[.int .u32 0, .int .u64 0, .int .u64 0] 45 (0, 0)) rfl
  have hl8 : lvl now x.dl < 8 := (lvl_spec h.box.now hd).1
  obtain ⟨q, hq⟩ : ∃ q, ws[lvl now x.dl]? = some q := ⟨_, List.getElem?_eq_getElem (by rw [h.box.len]; exact hl8)⟩
  have hget := cget_ok (h.pure hal) (s := x.slot) (by omega)
  rw [getT_hit hs hg] at hget
  have HGe := Lib.hid hget
  have HPl := Lib.hid (fun (W : World) (hW : Pure (w.alloc (.cells #[.int .u32 0, .int .u64 0, .int .u64 0] 45)) W) => cplace_ok ((h.pure hal).pure hW).box hd hne)
  obtain ⟨lv, hlv⟩ : ∃ lv, lvl now x.dl = lv := ⟨_, rfl⟩
  obtain ⟨bk, hbk2⟩ : ∃ bk, bkt now x.dl = bk := ⟨_, rfl⟩
  rw [hlv] at hl8 hq hL HPl ⊢
  rw [hbk2] at hK HPl ⊢
  have nD : ∀ k, D k → k < w.heap.size := fun k hk => h.lt hk
  have HC0 := Lib.hid h; have HC := Lib.hid (h.pure hal); have HND := Lib.hid nD; have HAL := Lib.hid hal
  have HXM := Lib.hid (List.mem_of_find?_eq_some hg)
  have HL := Lib.hid hL; have HK := Lib.hid hK; have HF := Lib.hid hf; have HQ := Lib.hid hq; have HM := Lib.hid hM; have HM2 := Lib.hid hM2
  clear h hal nD hL hK hf hq hlv hbk2 hne hg hM hM2 hget
  unfold tdV at HGe ⊢
  dsimp only at HGe
  go_enter Tryz.func47, Tryz.ntmps47
  go_upto_region 1 with fail
  generalize w.alloc (.cells #[.int .u32 0, .int .u64 0, .int .u64 0] 45) = W1 at *
  obtain ⟨b4, hb4⟩ : ∃ b4, w.heap.size = b4 := ⟨_, rfl⟩
  rw [hb4] at h4 HND ⊢
  have HB4 := Lib.hid hb4
  have H4 := Lib.hid h4
  clear hb4 h4
  go_upto_region 2 with (go_at_call 66; refine Calls.mono HGe.out ?_; rintro e w2 ⟨rfl, hp2⟩)
  have hal2 : Pure w2 (w2.alloc (.cells #[.int .u32 x.slot, .int .u64 x.dl, .int .u64 x.birth] 45)) := (Mod.refl _ w2).alloc _
  have h6 := heap_new (w := w2) (o := .cells #[.int .u32 x.slot, .int .u64 x.dl, .int .u64 x.birth] 45 (0, 0)) rfl
  have hp3 := hp2.trans hal2
  have hb46 : b4 < w2.heap.size := hp2.lt (lt_of_block H4.out)
  have HP3 := Lib.hid hp3
  have HC3 := Lib.hid (HC.out.pure hp3)
  have HPl3 := Lib.hid (HPl.out _ hp3)
  clear hal2 hp2 hp3 HPl HGe
  generalize w2.alloc (.cells #[.int .u32 x.slot, .int .u64 x.dl, .int .u64 x.birth] 45) = W3 at *
  generalize w2.heap.size = b6 at *
  have H6 := Lib.hid h6
  have h6_0 := cell_of_row _ _ 0 _ _ _ h6; have h6_1 := cell_of_row _ _ 1 _ _ _ h6; have h6_2 := cell_of_row _ _ 2 _ _ _ h6; have h6_f := (fun j => frozen_of_row _ _ j _ _ h6); have h6_l := lt_of_block h6; simp at h6_0 h6_1 h6_2; have H_h6 := Lib.hid h6; clear h6
  go_upto_region 4 with (go_at_call 57; refine Calls.mono HPl3.out ?_; rintro e w4 ⟨rfl, hp4⟩)
  have h64 := hp4.heap (fun h => h) H6.out
  have HC4 := Lib.hid (HC3.out.pure hp4)
  have hcl := HC4.out.box.level HQ.out
  have HP4 := Lib.hid (HP3.out.trans hp4)
  clear h6_0 h6_1 h6_2 h6_f h6_l
  clear H_h6 HPl3 hp4 HC3
  have dl8 : decide (lv < 8) = true := decide_eq_true hl8
  have l0 : (0 : Int) ≤ (lv : Int) := by omega
  have l1 : (lv : Int) < 8 := by omega
  have HRe := Lib.hid (wrem_ok (HC4.out.lev lv q Ls HQ.out HL.out) hs HK.out HF.out)
  obtain ⟨c0, c9, c10, _, _⟩ := HC4.out.box.cells
  have H64 := Lib.hid h64
  clear h64
  go_upto_region 5 with (go_at_call 67; refine Calls.mono HRe.out ?_; rintro e w5 ⟨rfl, hw5, hm5⟩)
  obtain ⟨D4, hC5, hg5⟩ := HC4.out.level hl8 HQ.out hw5 (grewD.refl _ _) hm5
  have inD : ∀ k, Ds lv k → D k := fun k hk => (HC0.out.dd k).2 (.inr (.inr (.inr ⟨lv, hl8, hk⟩)))
  have hb46' : b4 < b6 := hb46
  have h65 := hm5.heap (fun e => by have := HND.out b6 (inD b6 e); omega) H64.out
  have hmD : Mod D w4 w5 := hm5.mono (fun k _ hk => inD k hk)
  have h45 := hmD.heap (fun e => by have := HND.out b4 e; omega) (HP4.out.heap (fun h => h) H4.out)
  have hfo := cforget_ok hC5 HXM.out (by omega) hb HM.out HM2.out hl
  unfold tdV at hfo
  have HFo := Lib.hid hfo; have HG5 := Lib.hid hg5; have HMD := Lib.hid hmD; have H65 := Lib.hid h65; have H45 := Lib.hid h45
  have hnm : ∀ k, (k = bm ∨ k = bb) → D k := fun k hk => by
    rcases hk with rfl | rfl
    · exact (HC0.out.dd k).2 (.inr (.inl rfl))
    · exact (HC0.out.dd k).2 (.inr (.inr (.inl rfl)))
  have HNM := Lib.hid hnm
  clear hC5 hg5 inD hm5 hw5 hmD hfo h45 hnm HRe c0 c9 c10 hcl
  have h65_0 := cell_of_row _ _ 0 _ _ _ h65; have h65_1 := cell_of_row _ _ 1 _ _ _ h65; have h65_2 := cell_of_row _ _ 2 _ _ _ h65; have h65_f := (fun j => frozen_of_row _ _ j _ _ h65); have h65_l := lt_of_block h65; simp at h65_0 h65_1 h65_2; have H_h65 := Lib.hid h65; clear h65
  go_upto_region 6 with (go_at_call 61; refine Calls.mono HFo.out ?_; rintro e w6 ⟨rfl, ⟨Dm', Db', hC6⟩, hm6⟩)
  have h66 := hm6.heap (fun e => by have := HND.out b6 (HNM.out b6 e); omega) H65.out
  have h46 := hm6.heap (fun e => by have := HND.out b4 (HNM.out b4 e); omega) H45.out
  have HC6 := Lib.hid hC6; have HM6 := Lib.hid hm6; have H46 := Lib.hid h46
  have hsz : w.heap.size ≤ w4.heap.size := (HAL.out.trans HP4.out).size
  have HSZ := Lib.hid hsz
  clear h65_0 h65_1 h65_2 h65_f h65_l
  clear H_h65 hC6 hm6 hsz
  have h66_0 := cell_of_row _ _ 0 _ _ _ h66; have h66_1 := cell_of_row _ _ 1 _ _ _ h66; have h66_2 := cell_of_row _ _ 2 _ _ _ h66; have h66_f := (fun j => frozen_of_row _ _ j _ _ h66); have h66_l := lt_of_block h66; simp at h66_0 h66_1 h66_2; have H_h66 := Lib.hid h66; clear h66
  have h46_0 := cell_of_row _ _ 0 _ _ _ h46; have h46_1 := cell_of_row _ _ 1 _ _ _ h46; have h46_2 := cell_of_row _ _ 2 _ _ _ h46; have h46_f := (fun j => frozen_of_row _ _ j _ _ h46); have h46_l := lt_of_block h46; simp at h46_0 h46_1 h46_2; have H_h46 := Lib.hid h46; clear h46
  go_wp2
  have hmf : Mod (fun k => k = b4) w6 (((w6.setCell ⟨b4, 0, none⟩ (.int .u32 x.slot)).setCell ⟨b4, 1, none⟩ (.int .u64 x.dl)).setCell ⟨b4, 2, none⟩ (.int .u64 x.birth)) :=
    (((Mod.refl (fun k => k = b4) w6).setCell (p := ⟨b4, 0, none⟩) (fun _ => rfl) _).setCell (p := ⟨b4, 1, none⟩) (fun _ => rfl) _).setCell (p := ⟨b4, 2, none⟩) (fun _ => rfl) _
  have hD4 : ∀ k, D4 k → k ≠ b4 := fun k hk e => by
    subst e
    rcases HG5.out k hk with c | c
    · have := HND.out k c; omega
    · have := HP4.out.size; have := lt_of_block H4.out; omega
  have hB4 : b4 = w.heap.size := HB4.out.symm
  refine bodyPost_ret (v := .tuple #[.agg #[.int .u32 x.slot, .int .u64 x.dl, .int .u64 x.birth], .int .i64 0]) (by simp [results, Tryz.results47, go_sem, h46_0, h46_1, h46_2, h46_l]) rfl ⟨rfl, ⟨D4, _, _, _, HC6.out.frame hmf (fun k hk e => hD4 k hk e), fun k hk => ?_⟩, ?_⟩
  · rcases HG5.out k hk with c | c
    · exact .inl c
    · exact .inr (Nat.le_trans HSZ.out c)
  · exact (((HAL.out.trans HP4.out).mono (fun _ _ h => h.elim) : Mod D w w4).trans (HMD.out.trans (HM6.out.mono (fun k _ hk => HNM.out k hk)))).then hmf (fun k hk e => by exfalso; omega)
end
end Go.Proofs.YtlalpenfgkfkpaaGreatDoor

/- cascade: Cancel of a slot that is not there; Now, Len. Conditions: the cascade lies in memory. -/
namespace Go.Proofs.YtlalpenfgkfkpaaGreatDoor
open Go.RowKit
set_option maxRecDepth 100000
section
variable {w w' : World} {D : Nat → Prop} {p now : Nat} {ws : List Nat} {bm bb : Nat} {Ds : Nat → Nat → Prop} {Dm Db : DataW Unit} {M : List Td} {Lss : List (List (List Nat))}
set_option maxHeartbeats 1000000 in
theorem ccancel_no (h : CasMem w D p now ws bm bb Ds Dm Db M Lss) {s : Nat} (h32 : s ≤ 4294967295) {er : Int} (he : getT M s = (zTd, er)) (h0 : er ≠ 0) :
    Calls Tryz.prog 47 #[lkP p, .int .u32 s] w fun e w' => e = .returned (.tuple #[tdV zTd, .int .i64 er]) ∧ Pure w w' := by
  have hal : Pure w (w.alloc (.cells #[.int .u32 0, .int .u64 0, .int .u64 0] 45)) := (Mod.refl _ w).alloc _
  have h4 := heap_new (w := w) (o := .cells #[.int .u32 0, .int .u64 0, .int .u64 0] 45 (0, 0)) rfl
  have hget := cget_ok (h.pure hal) (s := s) h32
  rw [he] at hget
  have HGe := Lib.hid hget
  have HAL := Lib.hid hal
  have e0 : (er == 0) = false := by simpa using h0
  clear h hal hget he h0
  unfold tdV at HGe ⊢
  dsimp only at HGe
  go_enter Tryz.func47, Tryz.ntmps47
  go_upto_region 1 with fail
  generalize w.alloc (.cells #[.int .u32 0, .int .u64 0, .int .u64 0] 45) = W1 at *
  obtain ⟨b4, hb4⟩ : ∃ b4, w.heap.size = b4 := ⟨_, rfl⟩
  rw [hb4] at h4 ⊢
  have hb4' : w.heap.size ≤ b4 := by omega
  have H4 := Lib.hid h4
  clear hb4 h4
  go_upto_region 2 with (go_at_call 66; refine Calls.mono HGe.out ?_; rintro e w2 ⟨rfl, hp2⟩)
  have hal2 : Pure w2 (w2.alloc (.cells #[.int .u32 0, .int .u64 0, .int .u64 0] 45)) := (Mod.refl _ w2).alloc _
  have h6 := heap_new (w := w2) (o := .cells #[.int .u32 0, .int .u64 0, .int .u64 0] 45 (0, 0)) rfl
  have h42 := (hp2.trans hal2).heap (fun h => h) H4.out
  have HPP := Lib.hid (HAL.out.trans (hp2.trans hal2))
  clear hal2 hp2 HGe
  generalize w2.alloc (.cells #[.int .u32 0, .int .u64 0, .int .u64 0] 45) = W3 at *
  generalize w2.heap.size = b6 at *
  have h6_0 := cell_of_row _ _ 0 _ _ _ h6; have h6_1 := cell_of_row _ _ 1 _ _ _ h6; have h6_2 := cell_of_row _ _ 2 _ _ _ h6; have h6_f := (fun j => frozen_of_row _ _ j _ _ h6); have h6_l := lt_of_block h6; simp at h6_0 h6_1 h6_2; have H_h6 := Lib.hid h6; clear h6
  have h42_0 := cell_of_row _ _ 0 _ _ _ h42; have h42_1 := cell_of_row _ _ 1 _ _ _ h42; have h42_2 := cell_of_row _ _ 2 _ _ _ h42; have h42_f := (fun j => frozen_of_row _ _ j _ _ h42); have h42_l := lt_of_block h42; simp at h42_0 h42_1 h42_2; have H_h42 := Lib.hid h42; clear h42
  go_wp2
  have hpp := HPP.out
  refine bodyPost_ret (v := .tuple #[.agg #[.int .u32 0, .int .u64 0, .int .u64 0], .int .i64 er]) (by simp [results, Tryz.results47, go_sem, h42_0, h42_1, h42_2, h42_l]) rfl ⟨rfl, ?_⟩
  (repeat' (first | (with_reducible exact Mod.refl _ _) | (with_reducible refine Mod.alloc ?_ _) | (with_reducible refine Mod.drew ?_) | (with_reducible refine Mod.drewN ?_ _) | (with_reducible refine Mod.setCell ?_ ?_ _) | (refine Mod.then ?_ (by with_reducible assumption) ?_)))
  (all_goals (intros; first | (exfalso; assumption) | omega | (simp at *; done) | (simp at *; omega)))
theorem cnow_ok (h : CasMem w D p now ws bm bb Ds Dm Db M Lss) : Calls Tryz.prog 31 #[lkP p] w fun e w' => e = .returned (.int .u64 now) ∧ w = w' := by
  have HCk := Lib.hid (ccheck_ok h.box (s := 0) (by omega))
  obtain ⟨c0, c9, c10, _, _⟩ := h.box.cells
  clear h
  go_enter Tryz.func31, Tryz.ntmps31
  go_wp2_with (go_at_call 46; refine Calls.mono HCk.out ?_; rintro e w' ⟨rfl, rfl⟩)
  go_ret
  exact ⟨rfl, rfl⟩
theorem clen_ok (h : CasMem w D p now ws bm bb Ds Dm Db M Lss) : Calls Tryz.prog 54 #[lkP p] w fun e w' => e = .returned (.int .i64 M.length) ∧ w = w' := by
  have HCk := Lib.hid (ccheck_ok h.box (s := 0) (by omega))
  obtain ⟨c0, c9, c10, _, _⟩ := h.box.cells
  have hlen := fun ty => h.what.own.len Tryz.underlying56 ty
  rw [h.what.size] at hlen
  clear h
  go_enter Tryz.func54, Tryz.ntmps54
  go_wp2_with (go_at_call 46; refine Calls.mono HCk.out ?_; rintro e w' ⟨rfl, rfl⟩)
  go_ret
  exact ⟨rfl, rfl⟩
end
end Go.Proofs.YtlalpenfgkfkpaaGreatDoor

/- cascade: at. Conditions: the cascade lies in memory. -/
namespace Go.Proofs.YtlalpenfgkfkpaaGreatDoor
open Go.RowKit
set_option maxRecDepth 100000
/-- The error of a slot and a deadline. -/
def atE (now s dl : Nat) : Int := if s < 4194304 then (if dl = 18446744073709551615 then 2 else if dl ≤ now then 3 else 0) else 2
section
variable {w w' : World} {p now bm bb : Nat} {ws : List Nat}
theorem cat_any (h : CasBox w p now ws bm bb) {s dl : Nat} (h32 : s ≤ 4294967295) (hd : dl ≤ 18446744073709551615) : Calls Tryz.prog 68 #[lkP p, .int .u32 s, .int .u64 dl] w fun e w' => e = .returned (.int .i64 (atE now s dl)) ∧ w = w' := by
  have HCk := Lib.hid (ccheck_any h h32)
  obtain ⟨c0, _, _, _, _⟩ := h.cells
  clear h
  unfold slotE at HCk
  unfold atE
  by_cases hs : s < 4194304
  · rw [if_pos hs] at HCk ⊢
    by_cases hn : dl = 18446744073709551615
    · rw [if_pos hn]
      have e1 : ((dl : Int) == 18446744073709551615) = true := by simp; omega
      clear hn
      go_enter Tryz.func68, Tryz.ntmps68
      go_wp2_with (go_at_call 46; refine Calls.mono HCk.out ?_; rintro e w' ⟨rfl, rfl⟩)
      go_ret
      exact ⟨rfl, rfl⟩
    · rw [if_neg hn]
      have e1 : ((dl : Int) == 18446744073709551615) = false := by simp; omega
      clear hn
      by_cases hl : dl ≤ now
      · rw [if_pos hl]
        have d1 : decide ((dl : Int) ≤ (now : Int)) = true := decide_eq_true (by omega)
        have d2 : decide (dl ≤ now) = true := decide_eq_true hl
        go_enter Tryz.func68, Tryz.ntmps68
        go_wp2_with (go_at_call 46; refine Calls.mono HCk.out ?_; rintro e w' ⟨rfl, rfl⟩)
        go_ret
        exact ⟨rfl, rfl⟩
      · rw [if_neg hl]
        have d1 : decide ((dl : Int) ≤ (now : Int)) = false := decide_eq_false (by omega)
        have d2 : decide (dl ≤ now) = false := decide_eq_false hl
        go_enter Tryz.func68, Tryz.ntmps68
        go_wp2_with (go_at_call 46; refine Calls.mono HCk.out ?_; rintro e w' ⟨rfl, rfl⟩)
        go_ret
        exact ⟨rfl, rfl⟩
  · rw [if_neg hs] at HCk ⊢
    go_enter Tryz.func68, Tryz.ntmps68
    go_wp2_with (go_at_call 46; refine Calls.mono HCk.out ?_; rintro e w' ⟨rfl, rfl⟩)
    go_ret
    exact ⟨rfl, rfl⟩
end
end Go.Proofs.YtlalpenfgkfkpaaGreatDoor
