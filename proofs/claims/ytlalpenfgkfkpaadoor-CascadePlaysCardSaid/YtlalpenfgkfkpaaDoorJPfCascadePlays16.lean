/- Lemmas and contracts of functions, strung together out of 1 texts. No condition. -/
import Derived.Test.YtlalpenfgkfkpaaDoorJPfCascadePlays15
import Derived.Test.YtlalpenfgkfkpaaDoorJPfCascadePlays3
/- law20.CascadePlays: it returns true. Condition: the table of math/bits lies in memory, the acts are read. -/
namespace Go.Proofs.YtlalpenfgkfkpaaDoor
open Go.RowKit Go.Shelf
set_option maxRecDepth 100000
section
variable {w0 w wr w5 w6 : World} {D D' : Nat → Prop} {p p' now now' n c n' c' b9 : Nat} {a a' : Option Addr} {L L' : List Td}
/-- Behind a step, its wheel in a new block. -/
structure StX (w0 wr wx : World) (a : Option Addr) (n c : Nat) (D : Nat → Prop) (p' b9 now' : Nat) (a' : Option Addr) (n' c' : Nat) (D' : Nat → Prop) (L' : List Td) : Prop where
  st : StI w0 wx p' now' a' n' c' D' L'
  gr : grewD D D' wr
  kp : Kept wr a n c a' n' c'
  mo : Mod D wr wx
  hp : wx.heap[b9]? = some (.cells #[.int .u64 now', .slice a' n' c'] 45 (0, 0))
  nd : ¬ D' b9
  ge : wr.heap.size ≤ b9
theorem StX.last (h5 : Pure wr w5) (hst : StI w0 w6 p' now' a' n' c' D' L') (hg : grewD D D' w5) (hk : Kept w5 a n c a' n' c') (hm : Mod D w5 w6) (hlt : ∀ k, D k → k < wr.heap.size) :
    StX w0 wr (w6.alloc (.cells #[.int .u64 now', .slice a' n' c'] 45)) a n c D p' w6.heap.size now' a' n' c' D' L' := by
  have pa := (Mod.refl (fun _ => False) w6).alloc (.cells #[.int .u64 now', .slice a' n' c'] 45)
  have s1 := h5.size; have s2 := hm.size
  exact ⟨hst.pure pa, fun k hk => by rcases hg k hk with e | e; (· exact .inl e); (· exact .inr (by omega)), hk.mono s1, ((Mod.of_pure h5).trans hm).trans (Mod.of_pure pa), heap_new rfl, fun hd => by have := hst.ks.lt hd; omega, by omega⟩
theorem StX.first (h5 : Pure wr w5) (h9 : w5.heap[b9]? = some (.cells #[.int .u64 0, .slice none 0 0] 45 (0, 0))) (hge : wr.heap.size ≤ b9) (hst : StI w0 w6 p' now' a' n' c' D' L') (hg : grewD D D' w5) (hk : Kept w5 a n c a' n' c') (hm : Mod D w5 w6) (hlt : ∀ k, D k → k < wr.heap.size) (hra : ∀ g, rdBlock (.slice a n c) = some g → g < wr.heap.size) (hw0 : w0.heap.size ≤ wr.heap.size) (h00 : 0 < wr.heap.size) :
    StX w0 wr ((w6.setCell ⟨b9, 0, none⟩ (.int .u64 now')).setCell ⟨b9, 1, none⟩ (.slice a' n' c')) a n c D p' b9 now' a' n' c' D' L' := by
  have s1 := h5.size; have s2 := hm.size
  have hb := lt_of_block h9
  have nd : ¬ D' b9 := fun hd => by
    rcases hg b9 hd with e | e
    · have := hlt _ e; omega
    · omega
  have nd0 : ¬ D b9 := fun hd => by have := hlt _ hd; omega
  have hms := Mod.set2 (w := w6) b9 0 1 (.int .u64 now') (.slice a' n' c')
  refine ⟨⟨⟨hst.ks.t.frame hms (fun k hk e => by subst e; exact nd hk) (fun e => by omega), hst.ks.ge, hst.ks.pu.then hms (fun k hk e => by omega)⟩, hst.rd.frame hms (fun g hg' e => ?_), hst.off⟩, fun k hk => by rcases hg k hk with e | e; (· exact .inl e); (· exact .inr (by omega)), hk.mono s1, ((Mod.of_pure h5).trans hm).then hms (fun k hk e => by omega), heap_set12 (hm.heap nd0 h9), nd, hge⟩
  rcases hk.rd hg' with e' | e'
  · have := hra g e'; omega
  · omega
end
set_option maxHeartbeats 4000000 in
theorem CascadePlays_true (w : World) (hT : TabW w) (now : Nat) (hnow : now < 18446744073709551616) (a : Option Addr) (c : Nat) (es : List Act20) (hr : ReadAt w (.slice a es.length c) 4 (es.flatMap actC)) (hok : ∀ t ∈ es, ActOk t) (hl63 : es.length ≤ 9223372036854775807) :
    Calls Tryd.prog 6 #[.int .u64 now, .slice a es.length c] w fun e w' => e = .returned (.bool true) ∧ Pure w w' := by
  have HKn := Lib.hid (fun (W : World) (hW : Pure w W) => known20_ok W (hT.pure hW))
  have HT0 := Lib.hid hT.lt
  have HNw := Lib.hid (fun (W : World) (hW : Pure w W) => KnS.new (hT.pure hW) hnow)
  obtain ⟨n, hn⟩ : ∃ n, es.length = n := ⟨_, rfl⟩
  rw [hn] at hr hl63 ⊢
  have HFw := Lib.hid (few20_ok hr hn)
  have HR := Lib.hid hr; have HN := Lib.hid hn; have HOK := Lib.hid hok
  clear hr hn hok
  go_enter Tryd.func6, Tryd.ntmps6
  go_upto_region 1 with fail
  go_cut [13] (fun v wx => ∃ f : Bool, v = .bool f ∧ Pure w wx)
  case first =>
    go_wp2_with (go_at_call 29; refine Calls.mono HFw.out ?_; rintro e w2 ⟨⟨f, rfl⟩, hp2⟩)
    go_meet
    exact ⟨!f, rfl, hp2⟩
  case rest =>
    obtain ⟨f, rfl, hpf⟩ := hcut
    obtain ⟨wF, hwF⟩ : ∃ x, x = wc := ⟨_, rfl⟩
    subst hwF
    have HPf := Lib.hid hpf
    clear hpf HFw
    cases f with
    | true =>
      go_wp2_with (go_at_call 10; refine Calls.mono (HKn.out _ HPf.out) ?_; rintro e w2 ⟨rfl, hp2⟩)
      go_ret
      exact ⟨rfl, HPf.out.trans hp2⟩
    | false =>
      go_upto_region 5 with (go_at_call 11; refine Calls.mono (HNw.out _ HPf.out) ?_; rintro e w1 ⟨p, D, rfl, hs⟩; have HS := Lib.hid hs; clear hs)
      have hal : Pure w1 (w1.alloc (.cells #[.int .u64 now, .slice none 0 0] 45)) := (Mod.refl _ w1).alloc _
      have hbx := heap_new (w := w1) (o := .cells #[.int .u64 now, .slice none 0 0] 45 (0, 0)) rfl
      obtain ⟨b, hb⟩ : ∃ b, w1.heap.size = b := ⟨_, rfl⟩
      rw [hb] at hbx ⊢
      generalize w1.alloc (.cells #[.int .u64 now, .slice none 0 0] 45) = W1 at *
      have hwc := HPf.out.size
      have hj0 : JmI wF W1 p now b none 0 0 D [] := ⟨HS.out.pure hal, ⟨ReadAt.nil _ _, rfl, Nat.le_refl _, fun _ => rfl⟩, fun g hg => (by cases hg), hbx, fun hd => by have := HS.out.lt hd; omega, by have := HS.out.pu.size; omega, by have := HT0.out; omega⟩
      have his := is_ok (s := 0) hj0.ks.t hj0.rd (by omega)
      unfold whV at his
      have HIs := Lib.hid his
      obtain ⟨x0, x1⟩ := whbox hbx
      have HJ0 := Lib.hid hj0
      clear hal hbx hb hj0 HNw HS his
      go_upto_region 8 with (go_at_call 23; refine Calls.mono HIs.out ?_; rintro e w2 ⟨rfl, hp2⟩; have HJ1 := Lib.hid (HJ0.out.pure hp2); clear hp2)
      clear x0 x1 HIs HJ0
      go_loopw [5, 7] (fun v5 v7 wr => ∃ (i p nw : Nat) (an : Option Addr) (nn cn : Nat) (D : Nat → Prop) (L : List Td), v7 = .int .i64 (i : Nat) ∧ i ≤ n ∧ v5 = lkP p ∧ JmI wF wr p nw b an nn cn D L) (fun _ v7 _ => n - (intOf v7).toNat)
      case atStart => exact ⟨0, p, now, none, 0, 0, D, [], rfl, Nat.zero_le _, rfl, HJ1.out⟩
      case round =>
        clear HJ1
        obtain ⟨i, p, nw, an, nn, cn, D1, L, rfl, hi, rfl, hI⟩ := hrel
        have HI := Lib.hid hI
        clear hI
        by_cases hlt : i < n
        · have hlt' : (i : Int) < (n : Int) := by omega
          have i0 : (0 : Int) ≤ (i : Int) := by omega
          have wi : IntKind.i64.wrap ((i : Int) + 1) = (i : Int) + 1 := IntWalk.i64_in _ (by omega)
          obtain ⟨t, ht⟩ : ∃ t, es[i]? = some t := ⟨_, List.getElem?_eq_getElem (by rw [HN.out]; exact hlt)⟩
          have hto := HOK.out t (List.mem_of_getElem? ht)
          obtain ⟨ad, had, z0, z1, z2, z3⟩ := act_read (HR.out.frame (HPf.out.trans HI.out.ks.pu) (fun _ _ h => h)) ht
          subst had
          have hadl : ad.block < wF.heap.size := by
            have h1 : rdBlock (.slice (some ad) n c) = some ad.block := by simp [rdBlock]; omega
            have := HR.out.lt (by decide) h1
            omega
          have hlW : ∀ k, D1 k → k < wr.heap.size := fun k hk => HI.out.ks.lt hk
          have nad : ¬ D1 ad.block := fun hd => by have := HI.out.ks.ge _ hd; omega
          obtain ⟨x0, x1⟩ := whbox HI.out.box
          have hx : wr.cell? ⟨b, 0, none⟩ = some (.int .u64 nw) ∧ wr.cell? ⟨b, 1, none⟩ = some (.slice an nn cn) ∧ wr.cell? (ad.add (i * 4)) = some (.int .i64 t.what) ∧ wr.cell? ⟨(ad.add (i * 4)).block, (ad.add (i * 4)).off + 1, none⟩ = some (.int .u32 t.slot) ∧ wr.cell? ⟨(ad.add (i * 4)).block, (ad.add (i * 4)).off + 2, none⟩ = some (.int .u64 t.birth) ∧ wr.cell? ⟨(ad.add (i * 4)).block, (ad.add (i * 4)).off + 3, none⟩ = some (.int .u64 t.time) := ⟨x0, x1, z0, z1, z2, z3⟩
          have hkm : ∀ u, Mod (fun k => D1 k ∨ wr.heap.size ≤ k) wr u → u.cell? ⟨b, 0, none⟩ = some (.int .u64 nw) ∧ u.cell? ⟨b, 1, none⟩ = some (.slice an nn cn) ∧ u.cell? (ad.add (i * 4)) = some (.int .i64 t.what) ∧ u.cell? ⟨(ad.add (i * 4)).block, (ad.add (i * 4)).off + 1, none⟩ = some (.int .u32 t.slot) ∧ u.cell? ⟨(ad.add (i * 4)).block, (ad.add (i * 4)).off + 2, none⟩ = some (.int .u64 t.birth) ∧ u.cell? ⟨(ad.add (i * 4)).block, (ad.add (i * 4)).off + 3, none⟩ = some (.int .u64 t.time) := fun u hm => by
            have nb : ¬ (D1 b ∨ wr.heap.size ≤ b) := fun e => by
              rcases e with e | e
              · exact HI.out.nb e
              · have := lt_of_block HI.out.box; omega
            have na : ¬ (D1 ad.block ∨ wr.heap.size ≤ ad.block) := fun e => by
              rcases e with e | e
              · exact nad e
              · have := HI.out.ks.pu.size; omega
            have na' : ¬ (D1 (ad.add (i * 4)).block ∨ wr.heap.size ≤ (ad.add (i * 4)).block) := by rw [addr_block]; exact na
            exact ⟨hm.cell nb x0, hm.cell nb x1, hm.cell na' z0, hm.cell na' z1, hm.cell na' z2, hm.cell na' z3⟩
          have hst := fun (W : World) (hp : Pure wr W) => step_ok (HI.out.st.pure hp) hto
          unfold whV actV at hst
          have HX := Lib.hid hx; have HKm := Lib.hid hkm; have HSt := Lib.hid hst; have HTO := Lib.hid hto; have HLW := Lib.hid hlW
          have HT := Lib.hid ht
          clear ht hto z0 z1 z2 z3 x0 x1 hx hkm hst hadl nad hlW
          go_upto_region 10 with fail
          go_cut [8, 9, 10] (fun v8 v9 v10 wx => ∃ (p' b9 nw' : Nat) (a' : Option Addr) (n' c' : Nat) (D' : Nat → Prop) (L' : List Td), v8 = lkP p' ∧ v9 = .pointer (some ⟨b9, 0, none⟩) ∧ v10 = .bool true ∧ StX wF wr wx an nn cn D1 p' b9 nw' a' n' c' D' L')
          case first =>
            refine wp_region_held_drew (S := fun u => u.cell? ⟨b, 0, none⟩ = some (.int .u64 nw) ∧ u.cell? ⟨b, 1, none⟩ = some (.slice an nn cn) ∧ u.cell? (ad.add (i * 4)) = some (.int .i64 t.what) ∧ u.cell? ⟨(ad.add (i * 4)).block, (ad.add (i * 4)).off + 1, none⟩ = some (.int .u32 t.slot) ∧ u.cell? ⟨(ad.add (i * 4)).block, (ad.add (i * 4)).off + 2, none⟩ = some (.int .u64 t.birth) ∧ u.cell? ⟨(ad.add (i * 4)).block, (ad.add (i * 4)).off + 3, none⟩ = some (.int .u64 t.time)) (by kernel_rfl) HX.out (fun hHeld => ?_)
            ((refine wpAnyH_take (i := 0) (v := ?_) rfl (by kernel_rfl) (by kernel_rfl) (by kernel_rfl) (fun _ _ _ h => h) (Yields.yieldsIf (Or.inl ⟨by rfl, ?_⟩)) hHeld ?_; rotate_left 1; focus (intro w; go_simp; try with_reducible rfl)); try simp only [Act.put, List.getElem_toArray, List.getElem_cons_zero, List.getElem_cons_succ, List.setIfInBounds_toArray, List.set_cons_zero, List.set_cons_succ])
            ((refine wpAnyH_take (i := 1) (v := ?_) rfl (by kernel_rfl) (by kernel_rfl) (by kernel_rfl) (fun _ _ _ h => h) (Or.inl ⟨by rfl, ?_⟩) hHeld ?_; rotate_left 1; focus (intro w hS; obtain ⟨s0, s1, s2, s3, s4, s5⟩ := hS; go_simp; try with_reducible rfl)); try simp only [Act.put, List.getElem_toArray, List.getElem_cons_zero, List.getElem_cons_succ, List.setIfInBounds_toArray, List.set_cons_zero, List.set_cons_succ])
            ((refine wpAnyH_take (i := 2) (v := ?_) rfl (by kernel_rfl) (by kernel_rfl) (by kernel_rfl) (fun _ _ _ h => h) (Yields.yieldsIf (Or.inl ⟨by rfl, ?_⟩)) hHeld ?_; rotate_left 1; focus (intro w; go_simp; try with_reducible rfl)); try simp only [Act.put, List.getElem_toArray, List.getElem_cons_zero, List.getElem_cons_succ, List.setIfInBounds_toArray, List.set_cons_zero, List.set_cons_succ])
            ((refine wpAnyH_take (i := 3) (v := ?_) rfl (by kernel_rfl) (by kernel_rfl) (by kernel_rfl) (fun _ _ _ h => h) (Yields.yieldsIf (Or.inl ⟨by rfl, ?_⟩)) hHeld ?_; rotate_left 1; focus (intro w; go_simp; try with_reducible rfl)); try simp only [Act.put, List.getElem_toArray, List.getElem_cons_zero, List.getElem_cons_succ, List.setIfInBounds_toArray, List.set_cons_zero, List.set_cons_succ])
            ((refine wpAnyH_take (i := 4) (v := ?_) rfl (by kernel_rfl) (by kernel_rfl) (by kernel_rfl) (fun _ _ _ h => h) (Yields.yieldsIf (Or.inl ⟨by rfl, ?_⟩)) hHeld ?_; rotate_left 1; focus (intro w; go_simp; try with_reducible rfl)); try simp only [Act.put, List.getElem_toArray, List.getElem_cons_zero, List.getElem_cons_succ, List.setIfInBounds_toArray, List.set_cons_zero, List.set_cons_succ])
            ((refine wpAnyH_take (i := 5) (v := ?_) rfl (by kernel_rfl) (by kernel_rfl) (by kernel_rfl) (fun _ _ _ h => h) (Or.inl ⟨by rfl, ?_⟩) hHeld ?_; rotate_left 1; focus (intro w hS; obtain ⟨s0, s1, s2, s3, s4, s5⟩ := hS; go_simp; try with_reducible rfl)); try simp only [Act.put, List.getElem_toArray, List.getElem_cons_zero, List.getElem_cons_succ, List.setIfInBounds_toArray, List.set_cons_zero, List.set_cons_succ])
            have hdr : Pure wr wr.drew := (Mod.refl _ _).drew
            have HDr := Lib.hid hdr
            refine wpAnyH_ready (rs := [6, 11]) (by kernel_rfl) (by simp) ?_
            refine AllReadyH.cons rfl (fun K hK => ?_) (AllReadyH.cons rfl (fun K hK => ?_) AllReadyH.nil)
            · go_simp
              refine Calls.mono (HSt.out _ hdr) ?_
              rintro e u6 ⟨p', nw', a', n', c', D', L', rfl, hst, hg, hk, hm⟩
              unfold whV
              have hm' : Mod D1 wr u6 := (Mod.of_pure hdr).trans hm
              have HM := Lib.hid (hm'.mono (S' := fun k => D1 k ∨ wr.heap.size ≤ k) (fun _ _ h => .inl h))
              have HStX := Lib.hid (StX.last (wr := wr) hdr hst hg hk hm HLW.out)
              clear hm hm' hst hg hk
              refine hK.out _ _ (HKm.out _ HM.out) (fun hHeld => ?_)
              clear hK K
              (try simp only [Act.put, List.getElem_toArray, List.getElem_cons_zero, List.getElem_cons_succ, List.setIfInBounds_toArray, List.set_cons_zero, List.set_cons_succ])
              ((refine wpAnyH_take (i := 7) (v := ?_) rfl (by kernel_rfl) (by kernel_rfl) (by kernel_rfl) (fun _ _ _ h => h) (Yields.yieldsIf (Or.inl ⟨by rfl, ?_⟩)) hHeld ?_; rotate_left 1; focus (intro w; go_simp; try with_reducible rfl)); try simp only [Act.put, List.getElem_toArray, List.getElem_cons_zero, List.getElem_cons_succ, List.setIfInBounds_toArray, List.set_cons_zero, List.set_cons_succ])
              ((refine wpAnyH_take (i := 8) (v := ?_) rfl (by kernel_rfl) (by kernel_rfl) (by kernel_rfl) (fun _ _ _ h => h) (Yields.yieldsIf (Or.inl ⟨by rfl, ?_⟩)) hHeld ?_; rotate_left 1; focus (intro w; go_simp; try with_reducible rfl)); try simp only [Act.put, List.getElem_toArray, List.getElem_cons_zero, List.getElem_cons_succ, List.setIfInBounds_toArray, List.set_cons_zero, List.set_cons_succ])
              ((refine wpAnyH_take (i := 9) (v := ?_) rfl (by kernel_rfl) (by kernel_rfl) (by kernel_rfl) (fun _ _ _ h => h) (Yields.yieldsIf (Or.inl ⟨by rfl, ?_⟩)) hHeld ?_; rotate_left 1; focus (intro w; go_simp; try with_reducible rfl)); try simp only [Act.put, List.getElem_toArray, List.getElem_cons_zero, List.getElem_cons_succ, List.setIfInBounds_toArray, List.set_cons_zero, List.set_cons_succ])
              ((refine wpAnyH_take (i := 10) (v := ?_) rfl (by kernel_rfl) (by kernel_rfl) (by kernel_rfl) (fun _ _ _ h => h) (Yields.yieldsIf (Or.inl ⟨by rfl, ?_⟩)) hHeld ?_; rotate_left 1; focus (intro w; go_simp; try with_reducible rfl)); try simp only [Act.put, List.getElem_toArray, List.getElem_cons_zero, List.getElem_cons_succ, List.setIfInBounds_toArray, List.set_cons_zero, List.set_cons_succ])
              have hz := heap_new (w := u6) (o := .cells #[.int .u64 0, .slice none 0 0] 45 (0, 0)) rfl
              have hka := HKm.out _ (HM.out.trans (Mod.of_pure ((Mod.refl _ u6).alloc (.cells #[.int .u64 0, .slice none 0 0] 45))))
              have hkb := HKm.out _ (HM.out.trans (Mod.of_pure ((Mod.refl _ u6).alloc (.cells #[.int .u64 nw', .slice a' n' c'] 45))))
              have HKb := Lib.hid hkb
              refine wpAnyH_ready (rs := [11]) (by kernel_rfl) (by simp) ?_
              refine AllReadyH.cons rfl (fun K hK => ?_) AllReadyH.nil
              go_simp
              refine hK.out _ _ hka (fun hHeld => ?_)
              clear hK K hka hkb
              (try simp only [Act.put, List.getElem_toArray, List.getElem_cons_zero, List.getElem_cons_succ, List.setIfInBounds_toArray, List.set_cons_zero, List.set_cons_succ])
              obtain ⟨b9, hb9⟩ : ∃ b, u6.heap.size = b := ⟨_, rfl⟩
              rw [hb9] at hz HStX ⊢
              have hz_0 := cell_of_row _ _ 0 _ _ _ hz; have hz_1 := cell_of_row _ _ 1 _ _ _ hz; have hz_f := (fun j => frozen_of_row _ _ j _ _ hz); have hz_l := lt_of_block hz; simp at hz_0 hz_1; have H_hz := Lib.hid hz; clear hz
              ((refine wpAnyH_take (i := 12) (v := ?_) rfl (by kernel_rfl) (by kernel_rfl) (by kernel_rfl) (fun _ _ _ h => h) (Yields.yieldsIf (Or.inl ⟨by rfl, ?_⟩)) hHeld ?_; rotate_left 1; focus (intro w; go_simp; try with_reducible rfl)); try simp only [Act.put, List.getElem_toArray, List.getElem_cons_zero, List.getElem_cons_succ, List.setIfInBounds_toArray, List.set_cons_zero, List.set_cons_succ])
              ((refine wpAnyH_ready (rs := [13]) (by kernel_rfl) (by simp) ?_; refine AllReadyH.cons rfl (fun K hK => ?_) AllReadyH.nil; go_simp; skip; refine hK.out _ _ ?_ (fun hHeld => ?_); (· exact HKb.out); clear hK K); try simp only [Act.put, List.getElem_toArray, List.getElem_cons_zero, List.getElem_cons_succ, List.setIfInBounds_toArray, List.set_cons_zero, List.set_cons_succ])
              ((refine wpAnyH_take (i := 14) (v := ?_) rfl (by kernel_rfl) (by kernel_rfl) (by kernel_rfl) (fun _ _ _ h => h) (Yields.yieldsIf (Or.inl ⟨by rfl, ?_⟩)) hHeld ?_; rotate_left 1; focus (intro w; go_simp; try with_reducible rfl)); try simp only [Act.put, List.getElem_toArray, List.getElem_cons_zero, List.getElem_cons_succ, List.setIfInBounds_toArray, List.set_cons_zero, List.set_cons_succ])
              refine wpAnyH_done (by kernel_rfl) ?_ _
              (try go_wp2)
              go_meet
              exact ⟨p', b9, nw', a', n', c', D', L', rfl, rfl, rfl, HStX.out⟩
            · go_simp
              have r3 := hdr.alloc (.cells #[.int .u64 0, .slice none 0 0] 45)
              have hz := heap_new (w := wr.drew) (o := .cells #[.int .u64 0, .slice none 0 0] 45 (0, 0)) rfl
              replace hz : (wr.drew.alloc (.cells #[.int .u64 0, .slice none 0 0] 45)).heap[wr.heap.size]? = some (.cells #[.int .u64 0, .slice none 0 0] 45 (0, 0)) := hz
              have HR3 := Lib.hid r3; have HZ := Lib.hid hz
              refine hK.out _ _ (HKm.out _ (Mod.of_pure r3)) (fun hHeld => ?_)
              clear hK K hz r3
              (try simp only [Act.put, List.getElem_toArray, List.getElem_cons_zero, List.getElem_cons_succ, List.setIfInBounds_toArray, List.set_cons_zero, List.set_cons_succ])
              refine wpAnyH_ready (rs := [6]) (by kernel_rfl) (by simp) ?_
              refine AllReadyH.cons rfl (fun K hK => ?_) AllReadyH.nil
              go_simp
              refine Calls.mono (HSt.out _ HR3.out) ?_
              rintro e u6 ⟨p', nw', a', n', c', D', L', rfl, hst, hg, hk, hm⟩
              unfold whV
              have hm' : Mod D1 wr u6 := (Mod.of_pure HR3.out).trans hm
              have hz6 := hm.heap (fun hd => by have := HLW.out _ hd; omega) HZ.out
              obtain ⟨b9, hb9⟩ : ∃ b, wr.heap.size = b := ⟨_, rfl⟩
              have HM := Lib.hid (hm'.mono (S' := fun k => D1 k ∨ wr.heap.size ≤ k) (fun _ _ h => .inl h))
              have HStX := Lib.hid (StX.first (wr := wr) HR3.out HZ.out (Nat.le_refl _) hst hg hk hm HLW.out (fun g hg => HI.out.rd.lt hg) HI.out.ks.pu.size (by have := HT0.out; have := HPf.out.size; have := HI.out.ks.pu.size; omega))
              have HKb := Lib.hid (HKm.out _ (HM.out.trans ((Mod.set2 wr.heap.size 0 1 (.int .u64 nw') (.slice a' n' c')).mono (fun k _ hk => .inr (by omega)))))
              rw [hb9] at hz6 HStX HKb ⊢
              clear hm hm' hst hg hk
              refine hK.out _ _ (HKm.out _ HM.out) (fun hHeld => ?_)
              clear hK K
              (try simp only [Act.put, List.getElem_toArray, List.getElem_cons_zero, List.getElem_cons_succ, List.setIfInBounds_toArray, List.set_cons_zero, List.set_cons_succ])
              ((refine wpAnyH_take (i := 7) (v := ?_) rfl (by kernel_rfl) (by kernel_rfl) (by kernel_rfl) (fun _ _ _ h => h) (Yields.yieldsIf (Or.inl ⟨by rfl, ?_⟩)) hHeld ?_; rotate_left 1; focus (intro w; go_simp; try with_reducible rfl)); try simp only [Act.put, List.getElem_toArray, List.getElem_cons_zero, List.getElem_cons_succ, List.setIfInBounds_toArray, List.set_cons_zero, List.set_cons_succ])
              ((refine wpAnyH_take (i := 8) (v := ?_) rfl (by kernel_rfl) (by kernel_rfl) (by kernel_rfl) (fun _ _ _ h => h) (Yields.yieldsIf (Or.inl ⟨by rfl, ?_⟩)) hHeld ?_; rotate_left 1; focus (intro w; go_simp; try with_reducible rfl)); try simp only [Act.put, List.getElem_toArray, List.getElem_cons_zero, List.getElem_cons_succ, List.setIfInBounds_toArray, List.set_cons_zero, List.set_cons_succ])
              ((refine wpAnyH_take (i := 9) (v := ?_) rfl (by kernel_rfl) (by kernel_rfl) (by kernel_rfl) (fun _ _ _ h => h) (Yields.yieldsIf (Or.inl ⟨by rfl, ?_⟩)) hHeld ?_; rotate_left 1; focus (intro w; go_simp; try with_reducible rfl)); try simp only [Act.put, List.getElem_toArray, List.getElem_cons_zero, List.getElem_cons_succ, List.setIfInBounds_toArray, List.set_cons_zero, List.set_cons_succ])
              ((refine wpAnyH_take (i := 10) (v := ?_) rfl (by kernel_rfl) (by kernel_rfl) (by kernel_rfl) (fun _ _ _ h => h) (Yields.yieldsIf (Or.inl ⟨by rfl, ?_⟩)) hHeld ?_; rotate_left 1; focus (intro w; go_simp; try with_reducible rfl)); try simp only [Act.put, List.getElem_toArray, List.getElem_cons_zero, List.getElem_cons_succ, List.setIfInBounds_toArray, List.set_cons_zero, List.set_cons_succ])
              have hz6_0 := cell_of_row _ _ 0 _ _ _ hz6; have hz6_1 := cell_of_row _ _ 1 _ _ _ hz6; have hz6_f := (fun j => frozen_of_row _ _ j _ _ hz6); have hz6_l := lt_of_block hz6; simp at hz6_0 hz6_1; have H_hz6 := Lib.hid hz6; clear hz6
              ((refine wpAnyH_take (i := 12) (v := ?_) rfl (by kernel_rfl) (by kernel_rfl) (by kernel_rfl) (fun _ _ _ h => h) (Yields.yieldsIf (Or.inl ⟨by rfl, ?_⟩)) hHeld ?_; rotate_left 1; focus (intro w; go_simp; try with_reducible rfl)); try simp only [Act.put, List.getElem_toArray, List.getElem_cons_zero, List.getElem_cons_succ, List.setIfInBounds_toArray, List.set_cons_zero, List.set_cons_succ])
              ((refine wpAnyH_ready (rs := [13]) (by kernel_rfl) (by simp) ?_; refine AllReadyH.cons rfl (fun K hK => ?_) AllReadyH.nil; go_simp; skip; refine hK.out _ _ ?_ (fun hHeld => ?_); (· exact HKb.out); clear hK K); try simp only [Act.put, List.getElem_toArray, List.getElem_cons_zero, List.getElem_cons_succ, List.setIfInBounds_toArray, List.set_cons_zero, List.set_cons_succ])
              ((refine wpAnyH_take (i := 14) (v := ?_) rfl (by kernel_rfl) (by kernel_rfl) (by kernel_rfl) (fun _ _ _ h => h) (Yields.yieldsIf (Or.inl ⟨by rfl, ?_⟩)) hHeld ?_; rotate_left 1; focus (intro w; go_simp; try with_reducible rfl)); try simp only [Act.put, List.getElem_toArray, List.getElem_cons_zero, List.getElem_cons_succ, List.setIfInBounds_toArray, List.set_cons_zero, List.set_cons_succ])
              refine wpAnyH_done (by kernel_rfl) ?_ _
              (try go_wp2)
              go_meet
              exact ⟨p', b9, nw', a', n', c', D', L', rfl, rfl, rfl, HStX.out⟩
          case rest =>
            obtain ⟨p', b9, nw', a', n', c', D', L', rfl, rfl, rfl, hS⟩ := hcut
            have hbl := lt_of_block HI.out.box
            have hge9 := hS.ge
            have nbb : b ≠ b9 := by omega
            have hs12 := HKm.out wc (hS.mo.mono (fun _ _ h => .inl h))
            obtain ⟨v0, v1⟩ := whbox hS.hp
            have his := is_ok (s := t.slot) hS.st.ks.t hS.st.rd HTO.out.s
            unfold whV at his
            have HIs := Lib.hid his; have HS := Lib.hid hS; have HNB := Lib.hid nbb
            have hx9 : ∀ u, Pure wc u → u.cell? ⟨b9, 0, none⟩ = some (.int .u64 nw') ∧ u.cell? ⟨b9, 1, none⟩ = some (.slice a' n' c') ∧ u.cell? ⟨(ad.add (i * 4)).block, (ad.add (i * 4)).off + 1, none⟩ = some (.int .u32 t.slot) := fun u hp =>
              ⟨hp.cell (fun h => h) v0, hp.cell (fun h => h) v1, hp.cell (fun h => h) hs12.2.2.2.1⟩
            have HX9 := Lib.hid hx9
            clear hbl hge9 nbb hs12 his hS hx9 v0 v1 HX HKm HSt
            go_upto_region 11 with fail
            refine wp_region_held_drew (S := fun u => u.cell? ⟨b9, 0, none⟩ = some (.int .u64 nw') ∧ u.cell? ⟨b9, 1, none⟩ = some (.slice a' n' c') ∧ u.cell? ⟨(ad.add (i * 4)).block, (ad.add (i * 4)).off + 1, none⟩ = some (.int .u32 t.slot)) (by kernel_rfl) (HX9.out wc (Mod.refl _ _)) (fun hHeld => ?_)
            ((refine wpAnyH_take (i := 0) (v := ?_) rfl (by kernel_rfl) (by kernel_rfl) (by kernel_rfl) (fun _ _ _ h => h) (Yields.yieldsIf (Or.inl ⟨by rfl, ?_⟩)) hHeld ?_; rotate_left 1; focus (intro w; go_simp; try with_reducible rfl)); try simp only [Act.put, List.getElem_toArray, List.getElem_cons_zero, List.getElem_cons_succ, List.setIfInBounds_toArray, List.set_cons_zero, List.set_cons_succ])
            ((refine wpAnyH_take (i := 1) (v := ?_) rfl (by kernel_rfl) (by kernel_rfl) (by kernel_rfl) (fun _ _ _ h => h) (Yields.yieldsIf (Or.inl ⟨by rfl, ?_⟩)) hHeld ?_; rotate_left 1; focus (intro w; go_simp; try with_reducible rfl)); try simp only [Act.put, List.getElem_toArray, List.getElem_cons_zero, List.getElem_cons_succ, List.setIfInBounds_toArray, List.set_cons_zero, List.set_cons_succ])
            ((refine wpAnyH_take (i := 2) (v := ?_) rfl (by kernel_rfl) (by kernel_rfl) (by kernel_rfl) (fun _ _ _ h => h) (Yields.yieldsIf (Or.inl ⟨by rfl, ?_⟩)) hHeld ?_; rotate_left 1; focus (intro w; go_simp; try with_reducible rfl)); try simp only [Act.put, List.getElem_toArray, List.getElem_cons_zero, List.getElem_cons_succ, List.setIfInBounds_toArray, List.set_cons_zero, List.set_cons_succ])
            ((refine wpAnyH_take (i := 3) (v := ?_) rfl (by kernel_rfl) (by kernel_rfl) (by kernel_rfl) (fun _ _ _ h => h) (Yields.yieldsIf (Or.inl ⟨by rfl, ?_⟩)) hHeld ?_; rotate_left 1; focus (intro w; go_simp; try with_reducible rfl)); try simp only [Act.put, List.getElem_toArray, List.getElem_cons_zero, List.getElem_cons_succ, List.setIfInBounds_toArray, List.set_cons_zero, List.set_cons_succ])
            ((refine wpAnyH_take (i := 4) (v := ?_) rfl (by kernel_rfl) (by kernel_rfl) (by kernel_rfl) (fun _ _ _ h => h) (Yields.yieldsIf (Or.inl ⟨by rfl, ?_⟩)) hHeld ?_; rotate_left 1; focus (intro w; go_simp; try with_reducible rfl)); try simp only [Act.put, List.getElem_toArray, List.getElem_cons_zero, List.getElem_cons_succ, List.setIfInBounds_toArray, List.set_cons_zero, List.set_cons_succ])
            ((refine wpAnyH_take (i := 5) (v := ?_) rfl (by kernel_rfl) (by kernel_rfl) (by kernel_rfl) (fun _ _ _ h => h) (Yields.yieldsIf (Or.inl ⟨by rfl, ?_⟩)) hHeld ?_; rotate_left 1; focus (intro w; go_simp; try with_reducible rfl)); try simp only [Act.put, List.getElem_toArray, List.getElem_cons_zero, List.getElem_cons_succ, List.setIfInBounds_toArray, List.set_cons_zero, List.set_cons_succ])
            ((refine wpAnyH_take (i := 6) (v := ?_) rfl (by kernel_rfl) (by kernel_rfl) (by kernel_rfl) (fun _ _ _ h => h) (Yields.yieldsIf (Or.inl ⟨by rfl, ?_⟩)) hHeld ?_; rotate_left 1; focus (intro w; go_simp; try with_reducible rfl)); try simp only [Act.put, List.getElem_toArray, List.getElem_cons_zero, List.getElem_cons_succ, List.setIfInBounds_toArray, List.set_cons_zero, List.set_cons_succ])
            ((refine wpAnyH_take (i := 7) (v := ?_) rfl (by kernel_rfl) (by kernel_rfl) (by kernel_rfl) (fun _ _ _ h => h) (Yields.yieldsIf (Or.inl ⟨by rfl, ?_⟩)) hHeld ?_; rotate_left 1; focus (intro w; go_simp; try with_reducible rfl)); try simp only [Act.put, List.getElem_toArray, List.getElem_cons_zero, List.getElem_cons_succ, List.setIfInBounds_toArray, List.set_cons_zero, List.set_cons_succ])
            ((refine wpAnyH_take (i := 8) (v := ?_) rfl (by kernel_rfl) (by kernel_rfl) (by kernel_rfl) (fun _ _ _ h => h) (Or.inl ⟨by rfl, ?_⟩) hHeld ?_; rotate_left 1; focus (intro w hS; obtain ⟨s0, s1, s2⟩ := hS; go_simp; try with_reducible rfl)); try simp only [Act.put, List.getElem_toArray, List.getElem_cons_zero, List.getElem_cons_succ, List.setIfInBounds_toArray, List.set_cons_zero, List.set_cons_succ])
            ((refine wpAnyH_take (i := 9) (v := ?_) rfl (by kernel_rfl) (by kernel_rfl) (by kernel_rfl) (fun _ _ _ h => h) (Yields.yieldsIf (Or.inl ⟨by rfl, ?_⟩)) hHeld ?_; rotate_left 1; focus (intro w; go_simp; try with_reducible rfl)); try simp only [Act.put, List.getElem_toArray, List.getElem_cons_zero, List.getElem_cons_succ, List.setIfInBounds_toArray, List.set_cons_zero, List.set_cons_succ])
            ((refine wpAnyH_take (i := 10) (v := ?_) rfl (by kernel_rfl) (by kernel_rfl) (by kernel_rfl) (fun _ _ _ h => h) (Yields.yieldsIf (Or.inl ⟨by rfl, ?_⟩)) hHeld ?_; rotate_left 1; focus (intro w; go_simp; try with_reducible rfl)); try simp only [Act.put, List.getElem_toArray, List.getElem_cons_zero, List.getElem_cons_succ, List.setIfInBounds_toArray, List.set_cons_zero, List.set_cons_succ])
            ((refine wpAnyH_take (i := 11) (v := ?_) rfl (by kernel_rfl) (by kernel_rfl) (by kernel_rfl) (fun _ _ _ h => h) (Yields.yieldsIf (Or.inl ⟨by rfl, ?_⟩)) hHeld ?_; rotate_left 1; focus (intro w; go_simp; try with_reducible rfl)); try simp only [Act.put, List.getElem_toArray, List.getElem_cons_zero, List.getElem_cons_succ, List.setIfInBounds_toArray, List.set_cons_zero, List.set_cons_succ])
            ((refine wpAnyH_take (i := 12) (v := ?_) rfl (by kernel_rfl) (by kernel_rfl) (by kernel_rfl) (fun _ _ _ h => h) (Yields.yieldsIf (Or.inl ⟨by rfl, ?_⟩)) hHeld ?_; rotate_left 1; focus (intro w; go_simp; try with_reducible rfl)); try simp only [Act.put, List.getElem_toArray, List.getElem_cons_zero, List.getElem_cons_succ, List.setIfInBounds_toArray, List.set_cons_zero, List.set_cons_succ])
            ((refine wpAnyH_take (i := 13) (v := ?_) rfl (by kernel_rfl) (by kernel_rfl) (by kernel_rfl) (fun _ _ _ h => h) (Or.inl ⟨by rfl, ?_⟩) hHeld ?_; rotate_left 1; focus (intro w hS; obtain ⟨s0, s1, s2⟩ := hS; go_simp; try with_reducible rfl)); try simp only [Act.put, List.getElem_toArray, List.getElem_cons_zero, List.getElem_cons_succ, List.setIfInBounds_toArray, List.set_cons_zero, List.set_cons_succ])
            have hdr : Pure wc wc.drew := (Mod.refl _ _).drew
            have his := is_ok (s := t.slot) (HS.out.st.ks.t.pure hdr) (HS.out.st.rd.pure hdr) HTO.out.s
            unfold whV at his
            have HIs2 := Lib.hid his; have HDR := Lib.hid hdr
            clear his hdr HIs
            ((refine wpAnyH_ready (rs := [14]) (by kernel_rfl) (by simp) ?_; refine AllReadyH.cons rfl (fun K hK => ?_) AllReadyH.nil; go_simp; refine Calls.mono HIs2.out ?_; rintro e u9 ⟨rfl, hq9⟩; refine hK.out _ _ ?_ (fun hHeld => ?_); (· exact HX9.out _ (HDR.out.trans hq9)); clear hK K); try simp only [Act.put, List.getElem_toArray, List.getElem_cons_zero, List.getElem_cons_succ, List.setIfInBounds_toArray, List.set_cons_zero, List.set_cons_succ])
            ((refine wpAnyH_take (i := 15) (v := ?_) rfl (by kernel_rfl) (by kernel_rfl) (by kernel_rfl) (fun _ _ _ h => h) (Yields.yieldsIf (Or.inl ⟨by rfl, ?_⟩)) hHeld ?_; rotate_left 1; focus (intro w; go_simp; try with_reducible rfl)); try simp only [Act.put, List.getElem_toArray, List.getElem_cons_zero, List.getElem_cons_succ, List.setIfInBounds_toArray, List.set_cons_zero, List.set_cons_succ])
            ((refine wpAnyH_take (i := 16) (v := ?_) rfl (by kernel_rfl) (by kernel_rfl) (by kernel_rfl) (fun _ _ _ h => h) (Yields.yieldsIf (Or.inl ⟨by rfl, ?_⟩)) hHeld ?_; rotate_left 1; focus (intro w; go_simp; try with_reducible rfl)); try simp only [Act.put, List.getElem_toArray, List.getElem_cons_zero, List.getElem_cons_succ, List.setIfInBounds_toArray, List.set_cons_zero, List.set_cons_succ])
            refine wpAnyH_done (by kernel_rfl) ?_ _
            clear hHeld
            have hp9 := HDR.out.trans hq9
            have h99 := hp9.heap (fun h => h) HS.out.hp
            have h0b := hp9.heap (fun h => h) (HS.out.mo.heap HI.out.nb HI.out.box)
            have hJ := HI.out.stepped (Mod.refl _ _) HS.out.st HS.out.gr HS.out.kp HS.out.mo hp9
            have HJ := Lib.hid hJ
            have nbb := HNB.out
            clear hq9 hp9 hJ HX9
            have h99_0 := cell_of_row _ _ 0 _ _ _ h99; have h99_1 := cell_of_row _ _ 1 _ _ _ h99; have h99_f := (fun j => frozen_of_row _ _ j _ _ h99); have h99_l := lt_of_block h99; simp at h99_0 h99_1; have H_h99 := Lib.hid h99; clear h99
            have h0b_0 := cell_of_row _ _ 0 _ _ _ h0b; have h0b_1 := cell_of_row _ _ 1 _ _ _ h0b; have h0b_f := (fun j => frozen_of_row _ _ j _ _ h0b); have h0b_l := lt_of_block h0b; simp at h0b_0 h0b_1; have H_h0b := Lib.hid h0b; clear h0b
            go_upto_region 13 with fail
            go_region
            all_goals
              go_wp2
              go_roundw
              case rel => exact ⟨i + 1, p', nw', a', n', c', D', L', by go_num, hlt, rfl, by first | exact HJ.out | exact HJ.out.pure (Mod.refl _ _).drew⟩
              case measure => simp [intOf]; omega
        · have hge : ¬ (i : Int) < (n : Int) := by omega
          have hpu := HPf.out.trans HI.out.ks.pu
          have HPu := Lib.hid hpu
          clear hpu
          go_wp2_with (go_at_call 10; refine Calls.mono (HKn.out _ HPu.out) ?_; rintro e w9 ⟨rfl, hp9⟩)
          go_ret
          exact ⟨rfl, HPu.out.trans hp9⟩
end Go.Proofs.YtlalpenfgkfkpaaDoor
