/- Lemmas and contracts of functions, strung together out of 1 texts. No condition. -/
import Derived.Test.YtlalpenfgkfkpaaDoorJPfDueNumbers11
import Derived.Test.YtlalpenfgkfkpaaDoorJPfDueNumbers9
/- law21.DueNumbers: it returns true. Conditions: the table of math/bits lies in memory, the times are read. -/
namespace Go.Proofs.YtlalpenfgkfkpaaDoor
open Go.RowKit Go.Shelf
set_option maxRecDepth 100000
abbrev t64v (l : List Nat) : List Value := l.map (fun x : Nat => (.int .u64 x : Value))
theorem t64_read {W : World} {a : Option Addr} {n c : Nat} {xs : List Nat} (h : ReadAt W (.slice a n c) 1 (t64v xs)) {j y : Nat} (hy : xs[j]? = some y) : ∃ ad, a = some ad ∧ W.cell? (ad.add j) = some (.int .u64 y) := by
  obtain ⟨a', n', c', e, hl, _, h0, hc⟩ := h
  injection e with e1 e2 e3
  subst e1 e2 e3
  cases a with
  | none =>
    have := h0 rfl
    subst this
    have : xs = [] := by simpa [t64v] using hl
    subst this
    cases hy
  | some ad => exact ⟨ad, rfl, hc ad rfl j _ (by unfold t64v; rw [List.getElem?_map, hy]; rfl)⟩
/-- Another slot, nothing else. -/
def reS (f : Nat → Nat) (x : Td) : Td := ⟨f x.slot, x.dl, x.birth⟩
section
variable {w0 w w' : World} {D Db : Nat → Prop} {p pb now tt k many yy i dl : Nat} {M M' : List Td} {x y : Td} {f : Nat → Nat}
theorem reS_put : putL (M.map (reS f)) (reS f x) = (putL M x).map (reS f) := by
  unfold putL
  rw [List.map_append, List.map_cons, List.takeWhile_map, List.dropWhile_map] <;> rfl
theorem reS_due : dueE tt (M.map (reS f)) = (dueE tt M).map (reS f) ∧ restE tt (M.map (reS f)) = (restE tt M).map (reS f) := by
  unfold dueE restE
  constructor
  · rw [List.takeWhile_map]; rfl
  · rw [List.dropWhile_map]; rfl
def fN (many yy s : Nat) : Nat := many - 1 - s + yy
def biN (i : Nat) : Nat := 7 * i % 41 + 1
/-- What is so of all that were set. -/
structure NuL (i : Nat) (M : List Td) : Prop where
  lt : ∀ x ∈ M, x.slot < i
  bi : ∀ x ∈ M, x.birth = biN x.slot
theorem biN_inj {a b : Nat} (ha : a < 41) (hb : b < 41) (h : biN a = biN b) : a = b := by
  unfold biN at h
  omega
theorem NuL.set (h : NuL i M) (hi : i < many) (h40 : many ≤ 40) (hy : yy ≤ 4000) (hd : dl ≤ 18446744073709551615) : setR now M i dl (biN i) = (if dl ≤ now ∧ dl ≠ 18446744073709551615 then 3 else 0) ∧ NuL (i + 1) (setL now M i dl (biN i)) ∧
    setR now (M.map (reS (fN many yy))) (fN many yy i) dl (biN i) = setR now M i dl (biN i) ∧ setL now (M.map (reS (fN many yy))) (fN many yy i) dl (biN i) = (setL now M i dl (biN i)).map (reS (fN many yy)) := by
  have b1 : busyB M i (biN i) = false := by
    cases hb : busyB M i (biN i) with
    | false => rfl
    | true =>
      obtain ⟨y, hy, e⟩ := busyB_iff.1 hb
      have h1 := h.lt y hy
      have h2 := h.bi y hy
      rcases e with ⟨e1, _⟩ | ⟨_, e2⟩
      · omega
      · have := biN_inj (by omega) (by omega) (h2.symm.trans e2)
        omega
  have b2 : busyB (M.map (reS (fN many yy))) (fN many yy i) (biN i) = false := by
    cases hb : busyB (M.map (reS (fN many yy))) (fN many yy i) (biN i) with
    | false => rfl
    | true =>
      obtain ⟨y', hy', e⟩ := busyB_iff.1 hb
      obtain ⟨y, hy, rfl⟩ := List.mem_map.1 hy'
      have h1 := h.lt y hy
      have h2 := h.bi y hy
      rcases e with ⟨e1, _⟩ | ⟨_, e2⟩
      · have e1' : fN many yy y.slot = fN many yy i := e1
        unfold fN at e1'
        omega
      · have e2' : y.birth = biN i := e2
        have := biN_inj (by omega) (by omega) (h2.symm.trans e2')
        omega
  have c1 : hasB M i = false := by
    cases hb : hasB M i with
    | false => rfl
    | true => obtain ⟨y, hy, e⟩ := hasB_iff.1 hb; have := h.lt y hy; omega
  have c2 : hasB (M.map (reS (fN many yy))) (fN many yy i) = false := by
    cases hb : hasB (M.map (reS (fN many yy))) (fN many yy i) with
    | false => rfl
    | true =>
      obtain ⟨y', hy', e⟩ := hasB_iff.1 hb
      obtain ⟨y, hy, rfl⟩ := List.mem_map.1 hy'
      have h1 := h.lt y hy
      have e1' : fN many yy y.slot = fN many yy i := e
      unfold fN at e1'
      omega
  have hf : fN many yy i < 4194304 := by unfold fN; omega
  have hb0 : biN i ≠ 0 := by unfold biN; omega
  have r1 : setR now M i dl (biN i) = (if dl ≤ now ∧ dl ≠ 18446744073709551615 then 3 else 0) := by
    unfold setR
    rw [if_pos ⟨by omega, hb0⟩, b1]
    rfl
  have r2 : setR now (M.map (reS (fN many yy))) (fN many yy i) dl (biN i) = (if dl ≤ now ∧ dl ≠ 18446744073709551615 then 3 else 0) := by
    unfold setR
    rw [if_pos ⟨hf, hb0⟩, b2]
    rfl
  have o1 : outB M i = M := by unfold outB; rw [c1]; rfl
  have o2 : outB (M.map (reS (fN many yy))) (fN many yy i) = M.map (reS (fN many yy)) := by unfold outB; rw [c2]; rfl
  refine ⟨r1, ?_, r2.trans r1.symm, ?_⟩
  · unfold setL
    rw [r1, o1]
    have up : NuL (i + 1) M := ⟨fun x hx => by have := h.lt x hx; omega, h.bi⟩
    by_cases c : dl ≤ now ∧ dl ≠ 18446744073709551615
    · rw [if_pos c, if_neg (by decide)]
      exact up
    · rw [if_neg c, if_pos rfl]
      refine ⟨fun x hx => ?_, fun x hx => ?_⟩
      · rcases putL_mem.1 hx with rfl | hx
        · show i < i + 1; omega
        · exact up.lt x hx
      · rcases putL_mem.1 hx with rfl | hx
        · rfl
        · exact up.bi x hx
  · unfold setL
    rw [r1, r2, o1, o2]
    by_cases c : dl ≤ now ∧ dl ≠ 18446744073709551615
    · rw [if_pos c, if_neg (by decide), if_neg (by decide)]
    · rw [if_neg c, if_pos rfl, if_pos rfl]
      exact reS_put (x := ⟨i, dl, biN i⟩)
/-- Two deadlines that were made since, apart from each other: the same but for the slots. -/
structure Kn2 (w0 w : World) (D : Nat → Prop) (p : Nat) (Db : Nat → Prop) (pb now : Nat) (M : List Td) (f : Nat → Nat) : Prop where
  a : KnD w0 w D p now M
  b : KnD w0 w Db pb now (M.map (reS f))
  ap : ∀ k, D k → ¬ Db k
theorem Kn2.pure (h : Kn2 w0 w D p Db pb now M f) (hp : Pure w w') : Kn2 w0 w' D p Db pb now M f := ⟨h.a.pure hp, h.b.pure hp, h.ap⟩
theorem KnD.beside {M' : List Td} (h : KnD w0 w D p now M) (hb : KnD w0 w Db pb tt M') (ap : ∀ k, D k → ¬ Db k) (hm : Mod Db w w') : KnD w0 w' D p now M :=
  ⟨h.t.frame hm ap hb.t.off, h.ge, h.pu.then hm (fun k hk e => by have := hb.ge k e; omega)⟩
theorem KnD.setR_ (h : KnD w0 w D p now M) {s b : Nat} (h32 : s ≤ 4294967295) (hd : dl ≤ 18446744073709551615) (hb : b ≤ 18446744073709551615) {r : Int} {L' : List Td} (hr : setR now M s dl b = r) (hL : setL now M s dl b = L') :
    Calls Tryd.prog 34 #[lkP p, .int .u32 s, .int .u64 dl, .int .u64 b] w fun e w' => e = .returned (.int .i64 r) ∧ Mod D w w' ∧ ∃ D', KnD w0 w' D' p now L' ∧ grewD D D' w := by
  refine (h.t.at_.set h32 hd hb).mono ?_
  rintro e w' ⟨rfl, ⟨D', hc, hg⟩, hm⟩
  rw [hL] at hc
  exact ⟨by rw [hr], hm, D', h.step hc hg hm, hg⟩
theorem apart_l {D' : Nat → Prop} (h : ∀ k, D k → ¬ Db k) (hg : grewD D D' w) (hl : ∀ k, Db k → k < w.heap.size) : ∀ k, D' k → ¬ Db k := fun k hk hb => by
  rcases hg k hk with e | e
  · exact h k e hb
  · have := hl k hb; omega
theorem apart_r {D' : Nat → Prop} (h : ∀ k, D k → ¬ Db k) (hg : grewD Db D' w) (hl : ∀ k, D k → k < w.heap.size) : ∀ k, D k → ¬ D' k := fun k hk hb => by
  rcases hg k hb with e | e
  · exact h k hk e
  · have := hl k hk; omega
theorem KnD.expireR2 (h : KnD w0 w D p now M) {t0 : Nat} (ht0 : t0 ≤ 18446744073709551615) {now' : Nat} {E : List Td} {n : Nat} (hN : max now t0 = now') (hE : dueE now' M = E) (hL : restE now' M = M') (hn : E.length = n) :
    Calls Tryd.prog 37 #[lkP p, .int .u64 t0] w fun e w' => ∃ a c, e = .returned (.slice a n c) ∧ TdRow w' a c E ∧ (∀ g, (Value.slice a n c).ownBlock = some g → w.heap.size ≤ g) ∧ Mod D w w' ∧ ∃ D', KnD w0 w' D' p now' M' ∧ grewD D D' w ∧ ∀ g, (Value.slice a n c).ownBlock = some g → ¬ D' g := by
  refine (h.t.at_.expire h.t.tab h.t.off ht0).mono ?_
  rintro e w' ⟨a, c, rfl, hr, ⟨D', hc, hg, ho⟩, hm⟩
  rw [hN, hE] at hr ho
  rw [hN, hL] at hc
  rw [hn] at ho
  exact ⟨a, c, by rw [hN, hE, hn], hr, fun g hg => (ho g hg).2, hm, D', h.step hc hg hm, hg, fun g hg => (ho g hg).1⟩
end
set_option maxHeartbeats 8000000 in
theorem DueNumbers_true (w : World) (hT : TabW w) (now : Nat) (hnow : now < 18446744073709551616) (a : Option Addr) (c : Nat) (gs : List Nat) (hr : ReadAt w (.slice a gs.length c) 1 (t64v gs)) (hg : ∀ z ∈ gs, z < 18446744073709551616) (hl63 : gs.length ≤ 9223372036854775807)
    (yy : Nat) (hyy : yy < 65536) (a3 : Option Addr) (c3 : Nat) (ts : List Nat) (hr3 : ReadAt w (.slice a3 ts.length c3) 1 (t64v ts)) (hg3 : ∀ z ∈ ts, z < 18446744073709551616) (hl3 : ts.length ≤ 9223372036854775807) :
    Calls Tryd.prog 9 #[.int .u64 now, .slice a gs.length c, .int .u16 yy, .slice a3 ts.length c3] w fun e w' => e = .returned (.bool true) ∧ Pure w w' := by
  have HKn := Lib.hid (fun (W : World) (hW : Pure w W) => known21_ok W (hT.pure hW))
  have HKn0 := Lib.hid (HKn.out w (Mod.refl _ _))
  have HNw := Lib.hid (fun (W : World) (hW : Pure w W) => DueT.new (hT.pure hW) hnow)
  obtain ⟨n, hn⟩ : ∃ n, gs.length = n := ⟨_, rfl⟩
  obtain ⟨nt, hnt⟩ : ∃ nt, ts.length = nt := ⟨_, rfl⟩
  rw [hn] at hr hl63 ⊢
  rw [hnt] at hr3 hl3 ⊢
  have HR := Lib.hid hr; have HG := Lib.hid hg; have HN := Lib.hid hn
  have HR3 := Lib.hid hr3; have HG3 := Lib.hid hg3; have HN3 := Lib.hid hnt
  clear hr hg hn hr3 hg3 hnt hT
  by_cases h1 : 40 < n
  · have h1' : (40 : Int) < (n : Int) := by omega
    go_enter Tryd.func9, Tryd.ntmps9
    go_wp2_with (go_at_call 32; refine Calls.mono HKn0.out ?_; rintro e w2 ⟨rfl, hp2⟩)
    go_ret
    exact ⟨rfl, hp2⟩
  · have h1' : ¬ (40 : Int) < (n : Int) := by omega
    by_cases h2 : 4000 < yy
    · have h2' : (4000 : Int) < (yy : Int) := by omega
      go_enter Tryd.func9, Tryd.ntmps9
      go_wp2_with (go_at_call 32; refine Calls.mono HKn0.out ?_; rintro e w2 ⟨rfl, hp2⟩)
      go_ret
      exact ⟨rfl, hp2⟩
    · have h2' : ¬ (4000 : Int) < (yy : Int) := by omega
      by_cases h3 : 10 < nt
      · have h3' : (10 : Int) < (nt : Int) := by omega
        go_enter Tryd.func9, Tryd.ntmps9
        go_wp2_with (go_at_call 32; refine Calls.mono HKn0.out ?_; rintro e w2 ⟨rfl, hp2⟩)
        go_ret
        exact ⟨rfl, hp2⟩
      · have h3' : ¬ (10 : Int) < (nt : Int) := by omega
        have wn : IntKind.u32.wrap (n : Int) = (n : Int) := u32_of n (by omega)
        have T1 : True := trivial
        go_enter Tryd.func9, Tryd.ntmps9
        go_upto_region 8 with (first
          | (go_at_call 33; clear T1; refine Calls.mono (HNw.out _ (Mod.refl _ _)) ?_; rintro e w1 ⟨pa, Da, rfl, ta, hpa, hfa⟩)
          | (go_at_call 33; refine Calls.mono (HNw.out _ hpa) ?_; rintro e w2 ⟨pb, Db, rfl, tb, hpb, hfb⟩))
        have hK : Kn2 w w2 Da pa Db pb now [] (fN n yy) := ⟨⟨ta.pure hpb, hfa, hpa.trans hpb⟩, ⟨tb, fun k hk => Nat.le_trans hpa.size (hfb k hk), hpa.trans hpb⟩, fun k hk hb => by have := ta.at_.lt hk; have := hfb k hb; omega⟩
        have HK0 := Lib.hid hK
        have HU := Lib.hid (fun k (hk : k ≤ 4294967295) => u32_of k (by omega))
        have hn40 : n ≤ 40 := by omega
        have hy4 : yy ≤ 4000 := by omega
        clear ta hpa hfa tb hpb hfb hK HNw h1 h2 h3 h1' h2' h3' wn HKn0
        go_loopw [12] (fun v12 wr => ∃ (i : Nat) (D Db : Nat → Prop) (M : List Td), v12 = .int .u32 (i : Nat) ∧ i ≤ n ∧ Kn2 w wr D pa Db pb now M (fN n yy) ∧ NuL i M) (fun v12 _ => n - (intOf v12).toNat)
        case atStart => exact ⟨0, Da, Db, [], rfl, Nat.zero_le _, HK0.out, (fun x hx => by cases hx), (fun x hx => by cases hx)⟩
        case round =>
          clear HK0
          obtain ⟨i, D, Db, M, rfl, hi, hK, hL⟩ := hrel
          have HK := Lib.hid hK; have HL := Lib.hid hL
          clear hK hL
          by_cases hlt : i < n
          · have hlt' : (i : Int) < (n : Int) := by omega
            have i0 : (0 : Int) ≤ (i : Int) := by omega
            obtain ⟨d, hd⟩ : ∃ d, gs[i]? = some d := ⟨_, List.getElem?_eq_getElem (by rw [HN.out]; exact hlt)⟩
            have hd64 := HG.out d (List.mem_of_getElem? hd)
            obtain ⟨ad, had, z0⟩ := t64_read (HR.out.frame HK.out.a.pu (fun _ _ h => h)) hd
            subst had
            have HADL : Hid ((ad.add i).block < w.heap.size) := Lib.hid (by have e1 := HR.out.lt (by decide) (g := ad.block) (show (if n = 0 then none else some ad.block) = some ad.block by rw [if_neg (by omega)]); have e2 : (ad.add i).block = ad.block := (by unfold Addr.add; split <;> rfl); rw [e2]; exact e1)
            clear hd
            go_upto_block 1 with fail
            go_cut [13] from 44 to 76 (fun _ wx => ∃ (D Db : Nat → Prop) (M : List Td), Kn2 w wx D pa Db pb now M (fN n yy) ∧ NuL (i + 1) M)
            case rest =>
              obtain ⟨D2, Db2, M2, hK2, hL2⟩ := hcut
              have HK2 := Lib.hid hK2; have HL2 := Lib.hid hL2
              clear hK2 hL2
              have hi1 : i + 1 ≤ n := hlt
              go_wp2
              go_roundw
              case rel => exact ⟨i + 1, D2, Db2, M2, by go_num, hi1, HK2.out, HL2.out⟩
              case measure => simp [intOf]; omega
            case first =>
              have hbi : ((biN i : Nat) : Int) = 7 * (i : Int) % 41 + 1 := by unfold biN; omega
              have hfn : ((fN n yy i : Nat) : Int) = (n : Int) - 1 - (i : Int) + (yy : Int) := by unfold fN; omega
              have hbn : biN i ≤ 41 := by unfold biN; omega
              have hfb : fN n yy i ≤ 4294967295 := by unfold fN; omega
              obtain ⟨s1, s2, s3, s4⟩ := HL.out.set (now := now) (dl := d) hlt hn40 hy4 (by omega)
              obtain ⟨r, hr⟩ : ∃ r, setR now M i d (biN i) = r := ⟨_, rfl⟩
              obtain ⟨M2, hM2⟩ : ∃ M2, setL now M i d (biN i) = M2 := ⟨_, rfl⟩
              rw [hr] at s3
              rw [hM2] at s2 s4
              have hsa := fun (W : World) (hW : Pure wr W) => (HK.out.a.pure hW).setR_ (s := i) (dl := d) (b := biN i) (by omega) (by omega) (by omega) hr hM2
              have hsb := fun (W : World) (Dq : Nat → Prop) (hb : KnD w W Dq pb now (M.map (reS (fN n yy)))) => hb.setR_ (s := fN n yy i) (dl := d) (b := biN i) hfb (by omega) (by omega) s3 s4
              rw [hbi] at hsa hsb
              rw [hfn] at hsb
              have HSa := Lib.hid hsa; have HSb := Lib.hid hsb; have HS2 := Lib.hid s2
              clear hsa hsb s1 s2 s3 s4 hr hM2 hbi hfn hbn hfb
              have ws1 : IntKind.u32.wrap ((n : Int) - 1) = (n : Int) - 1 := by have := u32_of (n - 1) (by omega); rw [show ((n - 1 : Nat) : Int) = (n : Int) - 1 by omega] at this; exact this
              have ws2 : IntKind.u32.wrap ((n : Int) - 1 - (i : Int)) = (n : Int) - 1 - (i : Int) := by have := u32_of (n - 1 - i) (by omega); rw [show ((n - 1 - i : Nat) : Int) = (n : Int) - 1 - (i : Int) by omega] at this; exact this
              have ws3 : IntKind.u32.wrap (yy : Int) = (yy : Int) := u32_of yy (by omega)
              have ws4 : IntKind.u32.wrap ((n : Int) - 1 - (i : Int) + (yy : Int)) = (n : Int) - 1 - (i : Int) + (yy : Int) := by have := u32_of (n - 1 - i + yy) (by omega); rw [show ((n - 1 - i + yy : Nat) : Int) = (n : Int) - 1 - (i : Int) + (yy : Int) by omega] at this; exact this
              have hz0d : World.cell? wr.drew (ad.add i) = some (.int .u64 d) := z0
              go_upto_region 11 with fail
              refine wp_region_held_drew (S := fun u => u.cell? (ad.add i) = some (.int .u64 d)) (by kernel_rfl) z0 (fun hHeld => ?_)
              ((refine wpAnyH_take (i := 0) (v := ?_) rfl (by kernel_rfl) (by kernel_rfl) (by kernel_rfl) (fun _ _ _ h => h) (Yields.yieldsIf (Or.inl ⟨by rfl, ?_⟩)) hHeld ?_; rotate_left 1; focus (intro w; go_simp; try with_reducible rfl)); try simp only [Act.put, List.getElem_toArray, List.getElem_cons_zero, List.getElem_cons_succ, List.setIfInBounds_toArray, List.set_cons_zero, List.set_cons_succ])
              ((refine wpAnyH_take (i := 1) (v := ?_) rfl (by kernel_rfl) (by kernel_rfl) (by kernel_rfl) (fun _ _ _ h => h) (Yields.yieldsIf (Or.inl ⟨by rfl, ?_⟩)) hHeld ?_; rotate_left 1; focus (intro w; go_simp; try with_reducible rfl)); try simp only [Act.put, List.getElem_toArray, List.getElem_cons_zero, List.getElem_cons_succ, List.setIfInBounds_toArray, List.set_cons_zero, List.set_cons_succ])
              ((refine wpAnyH_take (i := 2) (v := ?_) rfl (by kernel_rfl) (by kernel_rfl) (by kernel_rfl) (fun _ _ _ h => h) (Yields.yieldsIf (Or.inl ⟨by rfl, ?_⟩)) hHeld ?_; rotate_left 1; focus (intro w; go_simp; try with_reducible rfl)); try simp only [Act.put, List.getElem_toArray, List.getElem_cons_zero, List.getElem_cons_succ, List.setIfInBounds_toArray, List.set_cons_zero, List.set_cons_succ])
              ((refine wpAnyH_take (i := 3) (v := ?_) rfl (by kernel_rfl) (by kernel_rfl) (by kernel_rfl) (fun _ _ _ h => h) (Yields.yieldsIf (Or.inl ⟨by rfl, ?_⟩)) hHeld ?_; rotate_left 1; focus (intro w; go_simp; try with_reducible rfl)); try simp only [Act.put, List.getElem_toArray, List.getElem_cons_zero, List.getElem_cons_succ, List.setIfInBounds_toArray, List.set_cons_zero, List.set_cons_succ])
              ((refine wpAnyH_take (i := 4) (v := ?_) rfl (by kernel_rfl) (by kernel_rfl) (by kernel_rfl) (fun _ _ _ h => h) (Yields.yieldsIf (Or.inl ⟨by rfl, ?_⟩)) hHeld ?_; rotate_left 1; focus (intro w; go_simp; try with_reducible rfl)); try simp only [Act.put, List.getElem_toArray, List.getElem_cons_zero, List.getElem_cons_succ, List.setIfInBounds_toArray, List.set_cons_zero, List.set_cons_succ])
              ((refine wpAnyH_take (i := 5) (v := ?_) rfl (by kernel_rfl) (by kernel_rfl) (by kernel_rfl) (fun _ _ _ h => h) (Or.inl ⟨by rfl, ?_⟩) hHeld ?_; rotate_left 1; focus (intro w hS; obtain s0 := hS; go_simp; try with_reducible rfl)); try simp only [Act.put, List.getElem_toArray, List.getElem_cons_zero, List.getElem_cons_succ, List.setIfInBounds_toArray, List.set_cons_zero, List.set_cons_succ])
              ((refine wpAnyH_take (i := 6) (v := ?_) rfl (by kernel_rfl) (by kernel_rfl) (by kernel_rfl) (fun _ _ _ h => h) (Yields.yieldsIf (Or.inl ⟨by rfl, ?_⟩)) hHeld ?_; rotate_left 1; focus (intro w; go_simp; try with_reducible rfl)); try simp only [Act.put, List.getElem_toArray, List.getElem_cons_zero, List.getElem_cons_succ, List.setIfInBounds_toArray, List.set_cons_zero, List.set_cons_succ])
              ((refine wpAnyH_take (i := 8) (v := ?_) rfl (by kernel_rfl) (by kernel_rfl) (by kernel_rfl) (fun _ _ _ h => h) (Yields.yieldsIf (Or.inl ⟨by rfl, ?_⟩)) hHeld ?_; rotate_left 1; focus (intro w; go_simp; try with_reducible rfl)); try simp only [Act.put, List.getElem_toArray, List.getElem_cons_zero, List.getElem_cons_succ, List.setIfInBounds_toArray, List.set_cons_zero, List.set_cons_succ])
              ((refine wpAnyH_take (i := 9) (v := ?_) rfl (by kernel_rfl) (by kernel_rfl) (by kernel_rfl) (fun _ _ _ h => h) (Yields.yieldsIf (Or.inl ⟨by rfl, ?_⟩)) hHeld ?_; rotate_left 1; focus (intro w; go_simp; try with_reducible rfl)); try simp only [Act.put, List.getElem_toArray, List.getElem_cons_zero, List.getElem_cons_succ, List.setIfInBounds_toArray, List.set_cons_zero, List.set_cons_succ])
              ((refine wpAnyH_take (i := 10) (v := ?_) rfl (by kernel_rfl) (by kernel_rfl) (by kernel_rfl) (fun _ _ _ h => h) (Yields.yieldsIf (Or.inl ⟨by rfl, ?_⟩)) hHeld ?_; rotate_left 1; focus (intro w; go_simp; try with_reducible rfl)); try simp only [Act.put, List.getElem_toArray, List.getElem_cons_zero, List.getElem_cons_succ, List.setIfInBounds_toArray, List.set_cons_zero, List.set_cons_succ])
              ((refine wpAnyH_take (i := 11) (v := ?_) rfl (by kernel_rfl) (by kernel_rfl) (by kernel_rfl) (fun _ _ _ h => h) (Yields.yieldsIf (Or.inl ⟨by rfl, ?_⟩)) hHeld ?_; rotate_left 1; focus (intro w; go_simp; try with_reducible rfl)); try simp only [Act.put, List.getElem_toArray, List.getElem_cons_zero, List.getElem_cons_succ, List.setIfInBounds_toArray, List.set_cons_zero, List.set_cons_succ])
              ((refine wpAnyH_take (i := 12) (v := ?_) rfl (by kernel_rfl) (by kernel_rfl) (by kernel_rfl) (fun _ _ _ h => h) (Yields.yieldsIf (Or.inl ⟨by rfl, ?_⟩)) hHeld ?_; rotate_left 1; focus (intro w; go_simp; try with_reducible rfl)); try simp only [Act.put, List.getElem_toArray, List.getElem_cons_zero, List.getElem_cons_succ, List.setIfInBounds_toArray, List.set_cons_zero, List.set_cons_succ])
              ((refine wpAnyH_take (i := 13) (v := ?_) rfl (by kernel_rfl) (by kernel_rfl) (by kernel_rfl) (fun _ _ _ h => h) (Yields.yieldsIf (Or.inl ⟨by rfl, ?_⟩)) hHeld ?_; rotate_left 1; focus (intro w; go_simp; try with_reducible rfl)); try simp only [Act.put, List.getElem_toArray, List.getElem_cons_zero, List.getElem_cons_succ, List.setIfInBounds_toArray, List.set_cons_zero, List.set_cons_succ])
              ((refine wpAnyH_take (i := 14) (v := ?_) rfl (by kernel_rfl) (by kernel_rfl) (by kernel_rfl) (fun _ _ _ h => h) (Yields.yieldsIf (Or.inl ⟨by rfl, ?_⟩)) hHeld ?_; rotate_left 1; focus (intro w; go_simp; try with_reducible rfl)); try simp only [Act.put, List.getElem_toArray, List.getElem_cons_zero, List.getElem_cons_succ, List.setIfInBounds_toArray, List.set_cons_zero, List.set_cons_succ])
              ((refine wpAnyH_take (i := 15) (v := ?_) rfl (by kernel_rfl) (by kernel_rfl) (by kernel_rfl) (fun _ _ _ h => h) (Yields.yieldsIf (Or.inl ⟨by rfl, ?_⟩)) hHeld ?_; rotate_left 1; focus (intro w; go_simp; try with_reducible rfl)); try simp only [Act.put, List.getElem_toArray, List.getElem_cons_zero, List.getElem_cons_succ, List.setIfInBounds_toArray, List.set_cons_zero, List.set_cons_succ])
              ((refine wpAnyH_take (i := 16) (v := ?_) rfl (by kernel_rfl) (by kernel_rfl) (by kernel_rfl) (fun _ _ _ h => h) (Yields.yieldsIf (Or.inl ⟨by rfl, ?_⟩)) hHeld ?_; rotate_left 1; focus (intro w; go_simp; try with_reducible rfl)); try simp only [Act.put, List.getElem_toArray, List.getElem_cons_zero, List.getElem_cons_succ, List.setIfInBounds_toArray, List.set_cons_zero, List.set_cons_succ])
              ((refine wpAnyH_take (i := 17) (v := ?_) rfl (by kernel_rfl) (by kernel_rfl) (by kernel_rfl) (fun _ _ _ h => h) (Yields.yieldsIf (Or.inl ⟨by rfl, ?_⟩)) hHeld ?_; rotate_left 1; focus (intro w; go_simp; try with_reducible rfl)); try simp only [Act.put, List.getElem_toArray, List.getElem_cons_zero, List.getElem_cons_succ, List.setIfInBounds_toArray, List.set_cons_zero, List.set_cons_succ])
              ((refine wpAnyH_take (i := 18) (v := ?_) rfl (by kernel_rfl) (by kernel_rfl) (by kernel_rfl) (fun _ _ _ h => h) (Yields.yieldsIf (Or.inl ⟨by rfl, ?_⟩)) hHeld ?_; rotate_left 1; focus (intro w; go_simp; try with_reducible rfl)); try simp only [Act.put, List.getElem_toArray, List.getElem_cons_zero, List.getElem_cons_succ, List.setIfInBounds_toArray, List.set_cons_zero, List.set_cons_succ])
              ((refine wpAnyH_take (i := 19) (v := ?_) rfl (by kernel_rfl) (by kernel_rfl) (by kernel_rfl) (fun _ _ _ h => h) (Or.inl ⟨by rfl, ?_⟩) hHeld ?_; rotate_left 1; focus (intro w hS; obtain s0 := hS; go_simp; try with_reducible rfl)); try simp only [Act.put, List.getElem_toArray, List.getElem_cons_zero, List.getElem_cons_succ, List.setIfInBounds_toArray, List.set_cons_zero, List.set_cons_succ])
              ((refine wpAnyH_take (i := 20) (v := ?_) rfl (by kernel_rfl) (by kernel_rfl) (by kernel_rfl) (fun _ _ _ h => h) (Yields.yieldsIf (Or.inl ⟨by rfl, ?_⟩)) hHeld ?_; rotate_left 1; focus (intro w; go_simp; try with_reducible rfl)); try simp only [Act.put, List.getElem_toArray, List.getElem_cons_zero, List.getElem_cons_succ, List.setIfInBounds_toArray, List.set_cons_zero, List.set_cons_succ])
              ((refine wpAnyH_ready (rs := [7]) (by kernel_rfl) (by simp) ?_; refine AllReadyH.cons rfl (fun K hK => ?_) AllReadyH.nil; go_simp; refine Calls.mono (HSa.out _ (Mod.refl _ _).drew) ?_; rintro e3 w3 ⟨rfl, hm3, D3, hk3, hg3⟩; refine hK.out _ _ ?_ (fun hHeld => ?_); (· exact (hm3.cell (a := ad.add i) (fun e => by have := HK.out.a.ge _ e; have := HADL.out; omega) hz0d)); clear hK K); try simp only [Act.put, List.getElem_toArray, List.getElem_cons_zero, List.getElem_cons_succ, List.setIfInBounds_toArray, List.set_cons_zero, List.set_cons_succ])
              have hcell3 : w3.cell? (ad.add i) = some (.int .u64 d) := hm3.cell (a := ad.add i) (fun e => by have := HK.out.a.ge _ e; have := HADL.out; omega) hz0d
              have hp1 : Mod D wr w3 := Mod.of_drew hm3
              have hb1 : KnD w w3 Db pb now (M.map (reS (fN n yy))) := HK.out.b.beside HK.out.a (fun k hb ha => HK.out.ap k ha hb) hp1
              have hbl := fun k (hk : Db k) => HK.out.b.t.at_.lt hk
              have hap : ∀ k, D3 k → ¬ Db k := apart_l HK.out.ap hg3 hbl
              ((refine wpAnyH_ready (rs := [21]) (by kernel_rfl) (by simp) ?_; refine AllReadyH.cons rfl (fun K hK => ?_) AllReadyH.nil; go_simp; refine Calls.mono (HSb.out _ _ hb1) ?_; rintro e5 w5 ⟨rfl, hm5, D5, hk5, hg5⟩; refine hK.out _ _ ?_ (fun hHeld => ?_); (· exact (hm5.cell (a := ad.add i) (fun e => by have := hb1.ge _ e; have := HADL.out; omega) hcell3)); clear hK K); try simp only [Act.put, List.getElem_toArray, List.getElem_cons_zero, List.getElem_cons_succ, List.setIfInBounds_toArray, List.set_cons_zero, List.set_cons_succ])
              ((refine wpAnyH_take (i := 22) (v := ?_) rfl (by kernel_rfl) (by kernel_rfl) (by kernel_rfl) (fun _ _ _ h => h) (Yields.yieldsIf (Or.inl ⟨by rfl, ?_⟩)) hHeld ?_; rotate_left 1; focus (intro w; go_simp; try with_reducible rfl)); try simp only [Act.put, List.getElem_toArray, List.getElem_cons_zero, List.getElem_cons_succ, List.setIfInBounds_toArray, List.set_cons_zero, List.set_cons_succ])
              refine wpAnyH_done (by kernel_rfl) ?_ _
              clear hHeld
              have ha5 : KnD w w5 D3 pa now M2 := hk3.beside hb1 hap hm5
              have hap5 := apart_r hap hg5 (fun k hk => hk3.t.at_.lt hk)
              have hK5 : Kn2 w w5 D3 pa D5 pb now M2 (fN n yy) := ⟨ha5, hk5, hap5⟩
              have HK5 := Lib.hid hK5
              clear hm3 hk3 hg3 hp1 hb1 hbl hap hm5 hk5 hg5 ha5 hap5 hK5
              go_wp2
              go_meet
              exact ⟨D3, D5, M2, HK5.out, HS2.out⟩
          · have e : i = n := by omega
            subst e
            have HY := HU
            go_upto_region 14 with fail
            go_loopw [14] (fun v14 wr => ∃ (j : Nat) (D Db : Nat → Prop) (nw : Nat) (M : List Td), v14 = .int .i64 (j : Nat) ∧ j ≤ nt ∧ Kn2 w wr D pa Db pb nw M (fN i yy) ∧ NuL i M) (fun v14 _ => nt - (intOf v14).toNat)
            case atStart => exact ⟨0, D, Db, now, M, rfl, Nat.zero_le _, HK.out, HL.out⟩
            case round =>
              clear HK HL
              obtain ⟨j, D, Db, nw, M, rfl, hj, hK, hL⟩ := hrel
              have HK := Lib.hid hK; have HL := Lib.hid hL
              clear hK hL
              by_cases hlt2 : j < nt
              · have hlt2' : (j : Int) < (nt : Int) := by omega
                have j0 : (0 : Int) ≤ (j : Int) := by omega
                have wj : IntKind.i64.wrap ((j : Int) + 1) = (j : Int) + 1 := IntWalk.i64_in _ (by omega)
                obtain ⟨d, hd⟩ : ∃ d, ts[j]? = some d := ⟨_, List.getElem?_eq_getElem (by rw [HN3.out]; exact hlt2)⟩
                have hd64 := HG3.out d (List.mem_of_getElem? hd)
                obtain ⟨ad, had, z0⟩ := t64_read (HR3.out.frame HK.out.a.pu (fun _ _ h => h)) hd
                subst had
                have HADL : Hid ((ad.add j).block < w.heap.size) := Lib.hid (by have e1 := HR3.out.lt (by decide) (g := ad.block) (show (if nt = 0 then none else some ad.block) = some ad.block by rw [if_neg (by omega)]); have e2 : (ad.add j).block = ad.block := (by unfold Addr.add; split <;> rfl); rw [e2]; exact e1)
                clear hd
                go_upto_block 3 with fail
                go_cut [15, 16, 17] from 77 to 148 (fun _ _ _ wx => ∃ (D Db : Nat → Prop) (nw : Nat) (M : List Td), Kn2 w wx D pa Db pb nw M (fN i yy) ∧ NuL i M)
                case rest =>
                  obtain ⟨D2, Db2, nw2, M2, hK2, hL2⟩ := hcut
                  have HK2 := Lib.hid hK2; have HL2 := Lib.hid hL2
                  clear hK2 hL2
                  go_wp2
                  go_roundw
                  case rel => exact ⟨j + 1, D2, Db2, nw2, M2, by go_num, hlt2, HK2.out, HL2.out⟩
                  case measure => simp [intOf]; omega
                case first =>
                  obtain ⟨tt, htt⟩ : ∃ tt, max nw d = tt := ⟨_, rfl⟩
                  obtain ⟨E, hE⟩ : ∃ E, dueE tt M = E := ⟨_, rfl⟩
                  obtain ⟨R, hR⟩ : ∃ R, restE tt M = R := ⟨_, rfl⟩
                  obtain ⟨q1, q2⟩ := reS_due (tt := tt) (M := M) (f := fN i yy)
                  rw [hE] at q1
                  rw [hR] at q2
                  obtain ⟨e, he⟩ : ∃ e, E.length = e := ⟨_, rfl⟩
                  have hsp : E ++ R = M := by rw [← hE, ← hR]; exact List.takeWhile_append_dropWhile
                  have hLE : ∀ x ∈ E, x.slot < i := fun x hx => HL.out.lt x (by rw [← hsp]; exact List.mem_append_left _ hx)
                  have hLR : NuL i R := ⟨fun x hx => HL.out.lt x (by rw [← hsp]; exact List.mem_append_right _ hx), fun x hx => HL.out.bi x (by rw [← hsp]; exact List.mem_append_right _ hx)⟩
                  have hec : e ≤ 4194304 := by have := HK.out.a.t.at_.law.count; rw [← hsp, List.length_append, he] at this; omega
                  have hsa := fun (W : World) (hW : Pure wr W) => (HK.out.a.pure hW).expireR2 (t0 := d) (by omega) htt hE hR he
                  have hsb := fun (W : World) (Dq : Nat → Prop) (hb : KnD w W Dq pb nw (M.map (reS (fN i yy)))) => hb.expireR2 (t0 := d) (by omega) htt q1 q2 (n := e) (by rw [List.length_map, he])
                  have HSa := Lib.hid hsa; have HSb := Lib.hid hsb; have HLE := Lib.hid hLE; have HLR := Lib.hid hLR; have HEl := Lib.hid he
                  have hz0d : World.cell? wr.drew (ad.add j) = some (.int .u64 d) := z0
                  clear htt hE hR q1 q2 he hsp hLE hLR hsa hsb
                  go_upto_region 16 with fail
                  refine wp_region_held_drew (S := fun u => u.cell? (ad.add j) = some (.int .u64 d)) (by kernel_rfl) z0 (fun hHeld => ?_)
                  ((refine wpAnyH_take (i := 0) (v := ?_) rfl (by kernel_rfl) (by kernel_rfl) (by kernel_rfl) (fun _ _ _ h => h) (Yields.yieldsIf (Or.inl ⟨by rfl, ?_⟩)) hHeld ?_; rotate_left 1; focus (intro w; go_simp; try with_reducible rfl)); try simp only [Act.put, List.getElem_toArray, List.getElem_cons_zero, List.getElem_cons_succ, List.setIfInBounds_toArray, List.set_cons_zero, List.set_cons_succ])
                  ((refine wpAnyH_take (i := 1) (v := ?_) rfl (by kernel_rfl) (by kernel_rfl) (by kernel_rfl) (fun _ _ _ h => h) (Yields.yieldsIf (Or.inl ⟨by rfl, ?_⟩)) hHeld ?_; rotate_left 1; focus (intro w; go_simp; try with_reducible rfl)); try simp only [Act.put, List.getElem_toArray, List.getElem_cons_zero, List.getElem_cons_succ, List.setIfInBounds_toArray, List.set_cons_zero, List.set_cons_succ])
                  ((refine wpAnyH_take (i := 2) (v := ?_) rfl (by kernel_rfl) (by kernel_rfl) (by kernel_rfl) (fun _ _ _ h => h) (Yields.yieldsIf (Or.inl ⟨by rfl, ?_⟩)) hHeld ?_; rotate_left 1; focus (intro w; go_simp; try with_reducible rfl)); try simp only [Act.put, List.getElem_toArray, List.getElem_cons_zero, List.getElem_cons_succ, List.setIfInBounds_toArray, List.set_cons_zero, List.set_cons_succ])
                  ((refine wpAnyH_take (i := 3) (v := ?_) rfl (by kernel_rfl) (by kernel_rfl) (by kernel_rfl) (fun _ _ _ h => h) (Yields.yieldsIf (Or.inl ⟨by rfl, ?_⟩)) hHeld ?_; rotate_left 1; focus (intro w; go_simp; try with_reducible rfl)); try simp only [Act.put, List.getElem_toArray, List.getElem_cons_zero, List.getElem_cons_succ, List.setIfInBounds_toArray, List.set_cons_zero, List.set_cons_succ])
                  ((refine wpAnyH_take (i := 4) (v := ?_) rfl (by kernel_rfl) (by kernel_rfl) (by kernel_rfl) (fun _ _ _ h => h) (Or.inl ⟨by rfl, ?_⟩) hHeld ?_; rotate_left 1; focus (intro w hS; obtain s0 := hS; go_simp; try with_reducible rfl)); try simp only [Act.put, List.getElem_toArray, List.getElem_cons_zero, List.getElem_cons_succ, List.setIfInBounds_toArray, List.set_cons_zero, List.set_cons_succ])
                  ((refine wpAnyH_take (i := 6) (v := ?_) rfl (by kernel_rfl) (by kernel_rfl) (by kernel_rfl) (fun _ _ _ h => h) (Yields.yieldsIf (Or.inl ⟨by rfl, ?_⟩)) hHeld ?_; rotate_left 1; focus (intro w; go_simp; try with_reducible rfl)); try simp only [Act.put, List.getElem_toArray, List.getElem_cons_zero, List.getElem_cons_succ, List.setIfInBounds_toArray, List.set_cons_zero, List.set_cons_succ])
                  ((refine wpAnyH_take (i := 7) (v := ?_) rfl (by kernel_rfl) (by kernel_rfl) (by kernel_rfl) (fun _ _ _ h => h) (Yields.yieldsIf (Or.inl ⟨by rfl, ?_⟩)) hHeld ?_; rotate_left 1; focus (intro w; go_simp; try with_reducible rfl)); try simp only [Act.put, List.getElem_toArray, List.getElem_cons_zero, List.getElem_cons_succ, List.setIfInBounds_toArray, List.set_cons_zero, List.set_cons_succ])
                  ((refine wpAnyH_take (i := 8) (v := ?_) rfl (by kernel_rfl) (by kernel_rfl) (by kernel_rfl) (fun _ _ _ h => h) (Yields.yieldsIf (Or.inl ⟨by rfl, ?_⟩)) hHeld ?_; rotate_left 1; focus (intro w; go_simp; try with_reducible rfl)); try simp only [Act.put, List.getElem_toArray, List.getElem_cons_zero, List.getElem_cons_succ, List.setIfInBounds_toArray, List.set_cons_zero, List.set_cons_succ])
                  ((refine wpAnyH_take (i := 9) (v := ?_) rfl (by kernel_rfl) (by kernel_rfl) (by kernel_rfl) (fun _ _ _ h => h) (Yields.yieldsIf (Or.inl ⟨by rfl, ?_⟩)) hHeld ?_; rotate_left 1; focus (intro w; go_simp; try with_reducible rfl)); try simp only [Act.put, List.getElem_toArray, List.getElem_cons_zero, List.getElem_cons_succ, List.setIfInBounds_toArray, List.set_cons_zero, List.set_cons_succ])
                  ((refine wpAnyH_take (i := 10) (v := ?_) rfl (by kernel_rfl) (by kernel_rfl) (by kernel_rfl) (fun _ _ _ h => h) (Or.inl ⟨by rfl, ?_⟩) hHeld ?_; rotate_left 1; focus (intro w hS; obtain s0 := hS; go_simp; try with_reducible rfl)); try simp only [Act.put, List.getElem_toArray, List.getElem_cons_zero, List.getElem_cons_succ, List.setIfInBounds_toArray, List.set_cons_zero, List.set_cons_succ])
                  ((refine wpAnyH_ready (rs := [5]) (by kernel_rfl) (by simp) ?_; refine AllReadyH.cons rfl (fun K hK => ?_) AllReadyH.nil; go_simp; refine Calls.mono (HSa.out _ (Mod.refl _ _).drew) ?_; rintro e3 w3 ⟨a3', c3', rfl, hr3, hf3, hm3, D3, hk3, hg3, ho3⟩; refine hK.out _ _ ?_ (fun hHeld => ?_); (· exact (hm3.cell (a := ad.add j) (fun e => by have := HK.out.a.ge _ e; have := HADL.out; omega) hz0d)); clear hK K); try simp only [Act.put, List.getElem_toArray, List.getElem_cons_zero, List.getElem_cons_succ, List.setIfInBounds_toArray, List.set_cons_zero, List.set_cons_succ])
                  have hcell3 : w3.cell? (ad.add j) = some (.int .u64 d) := hm3.cell (a := ad.add j) (fun e => by have := HK.out.a.ge _ e; have := HADL.out; omega) hz0d
                  have hp1 : Mod D wr w3 := Mod.of_drew hm3
                  have hb1 : KnD w w3 Db pb nw (M.map (reS (fN i yy))) := HK.out.b.beside HK.out.a (fun k hb ha => HK.out.ap k ha hb) hp1
                  have hbl := fun k (hk : Db k) => HK.out.b.t.at_.lt hk
                  have hap : ∀ k, D3 k → ¬ Db k := apart_l HK.out.ap hg3 hbl
                  ((refine wpAnyH_ready (rs := [11]) (by kernel_rfl) (by simp) ?_; refine AllReadyH.cons rfl (fun K hK => ?_) AllReadyH.nil; go_simp; refine Calls.mono (HSb.out _ _ hb1) ?_; rintro e5 w5 ⟨a5, c5, rfl, hr5, hf5, hm5, D5, hk5, hg5, ho5⟩; refine hK.out _ _ ?_ (fun hHeld => ?_); (· exact (hm5.cell (a := ad.add j) (fun e => by have := hb1.ge _ e; have := HADL.out; omega) hcell3)); clear hK K); try simp only [Act.put, List.getElem_toArray, List.getElem_cons_zero, List.getElem_cons_succ, List.setIfInBounds_toArray, List.set_cons_zero, List.set_cons_succ])
                  ((refine wpAnyH_take (i := 12) (v := ?_) rfl (by kernel_rfl) (by kernel_rfl) (by kernel_rfl) (fun _ _ _ h => h) (Yields.yieldsIf (Or.inl ⟨by rfl, ?_⟩)) hHeld ?_; rotate_left 1; focus (intro w; go_simp; try with_reducible rfl)); try simp only [Act.put, List.getElem_toArray, List.getElem_cons_zero, List.getElem_cons_succ, List.setIfInBounds_toArray, List.set_cons_zero, List.set_cons_succ])
                  ((refine wpAnyH_take (i := 13) (v := ?_) rfl (by kernel_rfl) (by kernel_rfl) (by kernel_rfl) (fun _ _ _ h => h) (Yields.yieldsIf (Or.inl ⟨by rfl, ?_⟩)) hHeld ?_; rotate_left 1; focus (intro w; go_simp; try with_reducible rfl)); try simp only [Act.put, List.getElem_toArray, List.getElem_cons_zero, List.getElem_cons_succ, List.setIfInBounds_toArray, List.set_cons_zero, List.set_cons_succ])
                  refine wpAnyH_done (by kernel_rfl) ?_ _
                  clear hHeld
                  have ha5 : KnD w w5 D3 pa tt R := hk3.beside hb1 hap hm5
                  have hap5 := apart_r hap hg5 (fun k hk => hk3.t.at_.lt hk)
                  have hK5 : Kn2 w w5 D3 pa D5 pb tt R (fN i yy) := ⟨ha5, hk5, hap5⟩
                  have hr35 : TdRow w5 a3' c3' E := owns_mod hr3 hm5 (fun g hg hk => by
                    have e1 := hf3 g (by rw [← HEl.out]; exact hg)
                    have e2 := hbl g hk
                    have e3 : wr.heap.size ≤ g := e1
                    omega)
                  have hX := RdL.of_row hr35
                  have hY := RdL.of_row hr5
                  rw [HEl.out] at hX
                  rw [List.length_map, HEl.out] at hY
                  have HX := Lib.hid hX.rd; have HYr := Lib.hid hY.rd; have HK5 := Lib.hid hK5
                  clear hm3 hk3 hg3 hp1 hb1 hbl hap hm5 hk5 hg5 ha5 hap5 hK5 hr35 hr3 hr5 hf3 hf5 hX hY hcell3 ho3 ho5 z0 hz0d HSa HSb
                  go_upto_region 20 with fail
                  go_loopw [17] (fun v17 wr => ∃ k : Nat, v17 = .int .i64 (k : Nat) ∧ k ≤ e ∧ Pure w5 wr) (fun v17 _ => e - (intOf v17).toNat)
                  case atStart => exact ⟨0, rfl, Nat.zero_le _, Mod.refl _ _⟩
                  case round =>
                    obtain ⟨k, rfl, hk, hpk⟩ := hrel
                    by_cases hlt3 : k < e
                    · have hlt3' : (k : Int) < (e : Int) := by omega
                      have k0 : (0 : Int) ≤ (k : Int) := by omega
                      have dke : decide (k < e) = true := decide_eq_true hlt3
                      have wk : IntKind.i64.wrap ((k : Int) + 1) = (k : Int) + 1 := IntWalk.i64_in _ (by omega)
                      obtain ⟨x, hx⟩ : ∃ x, E[k]? = some x := ⟨_, List.getElem?_eq_getElem (by rw [HEl.out]; exact hlt3)⟩
                      have hxn := HLE.out x (List.mem_of_getElem? hx)
                      obtain ⟨a1, had, x0, x1, x2⟩ := td_read (HX.out.frame hpk (fun _ _ h => h)) hx
                      subst had
                      have hy : (E.map (reS (fN i yy)))[k]? = some (reS (fN i yy) x) := by rw [List.getElem?_map, hx]; rfl
                      obtain ⟨a2, had, y0, y1, y2⟩ := td_read (HYr.out.frame hpk (fun _ _ h => h)) hy
                      subst had
                      unfold reS at y0 y1 y2
                      dsimp only at y0 y1 y2
                      obtain ⟨sx, hsx⟩ : ∃ sx, x.slot = sx := ⟨_, rfl⟩
                      rw [hsx] at x0 y0 hxn
                      have hfn : ((fN i yy sx : Nat) : Int) = (i : Int) - 1 - (sx : Int) + (yy : Int) := by unfold fN; omega
                      rw [hfn] at y0
                      have ws1 : IntKind.u32.wrap ((i : Int) - 1) = (i : Int) - 1 := by have := u32_of (i - 1) (by omega); rw [show ((i - 1 : Nat) : Int) = (i : Int) - 1 by omega] at this; exact this
                      have ws2 : IntKind.u32.wrap ((i : Int) - 1 - (sx : Int)) = (i : Int) - 1 - (sx : Int) := by have := u32_of (i - 1 - sx) (by omega); rw [show ((i - 1 - sx : Nat) : Int) = (i : Int) - 1 - (sx : Int) by omega] at this; exact this
                      have ws3 : IntKind.u32.wrap (yy : Int) = (yy : Int) := u32_of yy (by omega)
                      have ws4 : IntKind.u32.wrap ((i : Int) - 1 - (sx : Int) + (yy : Int)) = (i : Int) - 1 - (sx : Int) + (yy : Int) := by have := u32_of (i - 1 - sx + yy) (by omega); rw [show ((i - 1 - sx + yy : Nat) : Int) = (i : Int) - 1 - (sx : Int) + (yy : Int) by omega] at this; exact this
                      have HPK := Lib.hid hpk
                      clear hx hy hsx hfn hpk
                      go_upto_region 22 with fail
                      refine wp_region_held_drew (S := fun u => (u.cell? (a1.add (k * 3)) = some (.int .u32 sx) ∧ u.cell? ⟨(a1.add (k * 3)).block, (a1.add (k * 3)).off + 1, none⟩ = some (.int .u64 x.dl) ∧ u.cell? ⟨(a1.add (k * 3)).block, (a1.add (k * 3)).off + 2, none⟩ = some (.int .u64 x.birth)) ∧ u.cell? (a2.add (k * 3)) = some (.int .u32 ((i : Int) - 1 - (sx : Int) + (yy : Int))) ∧ u.cell? ⟨(a2.add (k * 3)).block, (a2.add (k * 3)).off + 1, none⟩ = some (.int .u64 x.dl) ∧ u.cell? ⟨(a2.add (k * 3)).block, (a2.add (k * 3)).off + 2, none⟩ = some (.int .u64 x.birth)) (by kernel_rfl) ⟨⟨x0, x1, x2⟩, y0, y1, y2⟩ (fun hHeld => ?_)
                      ((refine wpAnyH_take (i := 0) (v := ?_) rfl (by kernel_rfl) (by kernel_rfl) (by kernel_rfl) (fun _ _ _ h => h) (Yields.yieldsIf (Or.inl ⟨by rfl, ?_⟩)) hHeld ?_; rotate_left 1; focus (intro w; go_simp; try with_reducible rfl)); try simp only [Act.put, List.getElem_toArray, List.getElem_cons_zero, List.getElem_cons_succ, List.setIfInBounds_toArray, List.set_cons_zero, List.set_cons_succ])
                      ((refine wpAnyH_take (i := 1) (v := ?_) rfl (by kernel_rfl) (by kernel_rfl) (by kernel_rfl) (fun _ _ _ h => h) (Yields.yieldsIf (Or.inl ⟨by rfl, ?_⟩)) hHeld ?_; rotate_left 1; focus (intro w; go_simp; try with_reducible rfl)); try simp only [Act.put, List.getElem_toArray, List.getElem_cons_zero, List.getElem_cons_succ, List.setIfInBounds_toArray, List.set_cons_zero, List.set_cons_succ])
                      ((refine wpAnyH_take (i := 2) (v := ?_) rfl (by kernel_rfl) (by kernel_rfl) (by kernel_rfl) (fun _ _ _ h => h) (Yields.yieldsIf (Or.inl ⟨by rfl, ?_⟩)) hHeld ?_; rotate_left 1; focus (intro w; go_simp; try with_reducible rfl)); try simp only [Act.put, List.getElem_toArray, List.getElem_cons_zero, List.getElem_cons_succ, List.setIfInBounds_toArray, List.set_cons_zero, List.set_cons_succ])
                      ((refine wpAnyH_take (i := 3) (v := ?_) rfl (by kernel_rfl) (by kernel_rfl) (by kernel_rfl) (fun _ _ _ h => h) (Yields.yieldsIf (Or.inl ⟨by rfl, ?_⟩)) hHeld ?_; rotate_left 1; focus (intro w; go_simp; try with_reducible rfl)); try simp only [Act.put, List.getElem_toArray, List.getElem_cons_zero, List.getElem_cons_succ, List.setIfInBounds_toArray, List.set_cons_zero, List.set_cons_succ])
                      ((refine wpAnyH_take (i := 4) (v := ?_) rfl (by kernel_rfl) (by kernel_rfl) (by kernel_rfl) (fun _ _ _ h => h) (Or.inl ⟨by rfl, ?_⟩) hHeld ?_; rotate_left 1; focus (intro w hS; obtain ⟨⟨sa, sb, sc⟩, sd, se, sf⟩ := hS; go_simp; try with_reducible rfl)); try simp only [Act.put, List.getElem_toArray, List.getElem_cons_zero, List.getElem_cons_succ, List.setIfInBounds_toArray, List.set_cons_zero, List.set_cons_succ])
                      ((refine wpAnyH_take (i := 5) (v := ?_) rfl (by kernel_rfl) (by kernel_rfl) (by kernel_rfl) (fun _ _ _ h => h) (Yields.yieldsIf (Or.inl ⟨by rfl, ?_⟩)) hHeld ?_; rotate_left 1; focus (intro w; go_simp; try with_reducible rfl)); try simp only [Act.put, List.getElem_toArray, List.getElem_cons_zero, List.getElem_cons_succ, List.setIfInBounds_toArray, List.set_cons_zero, List.set_cons_succ])
                      ((refine wpAnyH_take (i := 6) (v := ?_) rfl (by kernel_rfl) (by kernel_rfl) (by kernel_rfl) (fun _ _ _ h => h) (Yields.yieldsIf (Or.inl ⟨by rfl, ?_⟩)) hHeld ?_; rotate_left 1; focus (intro w; go_simp; try with_reducible rfl)); try simp only [Act.put, List.getElem_toArray, List.getElem_cons_zero, List.getElem_cons_succ, List.setIfInBounds_toArray, List.set_cons_zero, List.set_cons_succ])
                      ((refine wpAnyH_take (i := 7) (v := ?_) rfl (by kernel_rfl) (by kernel_rfl) (by kernel_rfl) (fun _ _ _ h => h) (Yields.yieldsIf (Or.inl ⟨by rfl, ?_⟩)) hHeld ?_; rotate_left 1; focus (intro w; go_simp; try with_reducible rfl)); try simp only [Act.put, List.getElem_toArray, List.getElem_cons_zero, List.getElem_cons_succ, List.setIfInBounds_toArray, List.set_cons_zero, List.set_cons_succ])
                      ((refine wpAnyH_take (i := 8) (v := ?_) rfl (by kernel_rfl) (by kernel_rfl) (by kernel_rfl) (fun _ _ _ h => h) (Yields.yieldsIf (Or.inl ⟨by rfl, ?_⟩)) hHeld ?_; rotate_left 1; focus (intro w; go_simp; try with_reducible rfl)); try simp only [Act.put, List.getElem_toArray, List.getElem_cons_zero, List.getElem_cons_succ, List.setIfInBounds_toArray, List.set_cons_zero, List.set_cons_succ])
                      ((refine wpAnyH_take (i := 9) (v := ?_) rfl (by kernel_rfl) (by kernel_rfl) (by kernel_rfl) (fun _ _ _ h => h) (Or.inl ⟨by rfl, ?_⟩) hHeld ?_; rotate_left 1; focus (intro w hS; obtain ⟨⟨sa, sb, sc⟩, sd, se, sf⟩ := hS; go_simp; try with_reducible rfl)); try simp only [Act.put, List.getElem_toArray, List.getElem_cons_zero, List.getElem_cons_succ, List.setIfInBounds_toArray, List.set_cons_zero, List.set_cons_succ])
                      ((refine wpAnyH_take (i := 10) (v := ?_) rfl (by kernel_rfl) (by kernel_rfl) (by kernel_rfl) (fun _ _ _ h => h) (Yields.yieldsIf (Or.inl ⟨by rfl, ?_⟩)) hHeld ?_; rotate_left 1; focus (intro w; go_simp; try with_reducible rfl)); try simp only [Act.put, List.getElem_toArray, List.getElem_cons_zero, List.getElem_cons_succ, List.setIfInBounds_toArray, List.set_cons_zero, List.set_cons_succ])
                      ((refine wpAnyH_take (i := 11) (v := ?_) rfl (by kernel_rfl) (by kernel_rfl) (by kernel_rfl) (fun _ _ _ h => h) (Yields.yieldsIf (Or.inl ⟨by rfl, ?_⟩)) hHeld ?_; rotate_left 1; focus (intro w; go_simp; try with_reducible rfl)); try simp only [Act.put, List.getElem_toArray, List.getElem_cons_zero, List.getElem_cons_succ, List.setIfInBounds_toArray, List.set_cons_zero, List.set_cons_succ])
                      ((refine wpAnyH_take (i := 12) (v := ?_) rfl (by kernel_rfl) (by kernel_rfl) (by kernel_rfl) (fun _ _ _ h => h) (Yields.yieldsIf (Or.inl ⟨by rfl, ?_⟩)) hHeld ?_; rotate_left 1; focus (intro w; go_simp; try with_reducible rfl)); try simp only [Act.put, List.getElem_toArray, List.getElem_cons_zero, List.getElem_cons_succ, List.setIfInBounds_toArray, List.set_cons_zero, List.set_cons_succ])
                      ((refine wpAnyH_take (i := 13) (v := ?_) rfl (by kernel_rfl) (by kernel_rfl) (by kernel_rfl) (fun _ _ _ h => h) (Yields.yieldsIf (Or.inl ⟨by rfl, ?_⟩)) hHeld ?_; rotate_left 1; focus (intro w; go_simp; try with_reducible rfl)); try simp only [Act.put, List.getElem_toArray, List.getElem_cons_zero, List.getElem_cons_succ, List.setIfInBounds_toArray, List.set_cons_zero, List.set_cons_succ])
                      ((refine wpAnyH_take (i := 14) (v := ?_) rfl (by kernel_rfl) (by kernel_rfl) (by kernel_rfl) (fun _ _ _ h => h) (Yields.yieldsIf (Or.inl ⟨by rfl, ?_⟩)) hHeld ?_; rotate_left 1; focus (intro w; go_simp; try with_reducible rfl)); try simp only [Act.put, List.getElem_toArray, List.getElem_cons_zero, List.getElem_cons_succ, List.setIfInBounds_toArray, List.set_cons_zero, List.set_cons_succ])
                      ((refine wpAnyH_take (i := 15) (v := ?_) rfl (by kernel_rfl) (by kernel_rfl) (by kernel_rfl) (fun _ _ _ h => h) (Yields.yieldsIf (Or.inl ⟨by rfl, ?_⟩)) hHeld ?_; rotate_left 1; focus (intro w; go_simp; try with_reducible rfl)); try simp only [Act.put, List.getElem_toArray, List.getElem_cons_zero, List.getElem_cons_succ, List.setIfInBounds_toArray, List.set_cons_zero, List.set_cons_succ])
                      ((refine wpAnyH_take (i := 16) (v := ?_) rfl (by kernel_rfl) (by kernel_rfl) (by kernel_rfl) (fun _ _ _ h => h) (Or.inl ⟨by rfl, ?_⟩) hHeld ?_; rotate_left 1; focus (intro w hS; obtain ⟨⟨sa, sb, sc⟩, sd, se, sf⟩ := hS; go_simp; try with_reducible rfl)); try simp only [Act.put, List.getElem_toArray, List.getElem_cons_zero, List.getElem_cons_succ, List.setIfInBounds_toArray, List.set_cons_zero, List.set_cons_succ])
                      ((refine wpAnyH_take (i := 17) (v := ?_) rfl (by kernel_rfl) (by kernel_rfl) (by kernel_rfl) (fun _ _ _ h => h) (Yields.yieldsIf (Or.inl ⟨by rfl, ?_⟩)) hHeld ?_; rotate_left 1; focus (intro w; go_simp; try with_reducible rfl)); try simp only [Act.put, List.getElem_toArray, List.getElem_cons_zero, List.getElem_cons_succ, List.setIfInBounds_toArray, List.set_cons_zero, List.set_cons_succ])
                      ((refine wpAnyH_take (i := 18) (v := ?_) rfl (by kernel_rfl) (by kernel_rfl) (by kernel_rfl) (fun _ _ _ h => h) (Yields.yieldsIf (Or.inl ⟨by rfl, ?_⟩)) hHeld ?_; rotate_left 1; focus (intro w; go_simp; try with_reducible rfl)); try simp only [Act.put, List.getElem_toArray, List.getElem_cons_zero, List.getElem_cons_succ, List.setIfInBounds_toArray, List.set_cons_zero, List.set_cons_succ])
                      ((refine wpAnyH_take (i := 19) (v := ?_) rfl (by kernel_rfl) (by kernel_rfl) (by kernel_rfl) (fun _ _ _ h => h) (Yields.yieldsIf (Or.inl ⟨by rfl, ?_⟩)) hHeld ?_; rotate_left 1; focus (intro w; go_simp; try with_reducible rfl)); try simp only [Act.put, List.getElem_toArray, List.getElem_cons_zero, List.getElem_cons_succ, List.setIfInBounds_toArray, List.set_cons_zero, List.set_cons_succ])
                      ((refine wpAnyH_take (i := 20) (v := ?_) rfl (by kernel_rfl) (by kernel_rfl) (by kernel_rfl) (fun _ _ _ h => h) (Yields.yieldsIf (Or.inl ⟨by rfl, ?_⟩)) hHeld ?_; rotate_left 1; focus (intro w; go_simp; try with_reducible rfl)); try simp only [Act.put, List.getElem_toArray, List.getElem_cons_zero, List.getElem_cons_succ, List.setIfInBounds_toArray, List.set_cons_zero, List.set_cons_succ])
                      ((refine wpAnyH_take (i := 21) (v := ?_) rfl (by kernel_rfl) (by kernel_rfl) (by kernel_rfl) (fun _ _ _ h => h) (Or.inl ⟨by rfl, ?_⟩) hHeld ?_; rotate_left 1; focus (intro w hS; obtain ⟨⟨sa, sb, sc⟩, sd, se, sf⟩ := hS; go_simp; try with_reducible rfl)); try simp only [Act.put, List.getElem_toArray, List.getElem_cons_zero, List.getElem_cons_succ, List.setIfInBounds_toArray, List.set_cons_zero, List.set_cons_succ])
                      ((refine wpAnyH_take (i := 22) (v := ?_) rfl (by kernel_rfl) (by kernel_rfl) (by kernel_rfl) (fun _ _ _ h => h) (Yields.yieldsIf (Or.inl ⟨by rfl, ?_⟩)) hHeld ?_; rotate_left 1; focus (intro w; go_simp; try with_reducible rfl)); try simp only [Act.put, List.getElem_toArray, List.getElem_cons_zero, List.getElem_cons_succ, List.setIfInBounds_toArray, List.set_cons_zero, List.set_cons_succ])
                      ((refine wpAnyH_take (i := 23) (v := ?_) rfl (by kernel_rfl) (by kernel_rfl) (by kernel_rfl) (fun _ _ _ h => h) (Yields.yieldsIf (Or.inl ⟨by rfl, ?_⟩)) hHeld ?_; rotate_left 1; focus (intro w; go_simp; try with_reducible rfl)); try simp only [Act.put, List.getElem_toArray, List.getElem_cons_zero, List.getElem_cons_succ, List.setIfInBounds_toArray, List.set_cons_zero, List.set_cons_succ])
                      ((refine wpAnyH_take (i := 24) (v := ?_) rfl (by kernel_rfl) (by kernel_rfl) (by kernel_rfl) (fun _ _ _ h => h) (Yields.yieldsIf (Or.inl ⟨by rfl, ?_⟩)) hHeld ?_; rotate_left 1; focus (intro w; go_simp; try with_reducible rfl)); try simp only [Act.put, List.getElem_toArray, List.getElem_cons_zero, List.getElem_cons_succ, List.setIfInBounds_toArray, List.set_cons_zero, List.set_cons_succ])
                      ((refine wpAnyH_take (i := 25) (v := ?_) rfl (by kernel_rfl) (by kernel_rfl) (by kernel_rfl) (fun _ _ _ h => h) (Yields.yieldsIf (Or.inl ⟨by rfl, ?_⟩)) hHeld ?_; rotate_left 1; focus (intro w; go_simp; try with_reducible rfl)); try simp only [Act.put, List.getElem_toArray, List.getElem_cons_zero, List.getElem_cons_succ, List.setIfInBounds_toArray, List.set_cons_zero, List.set_cons_succ])
                      ((refine wpAnyH_take (i := 26) (v := ?_) rfl (by kernel_rfl) (by kernel_rfl) (by kernel_rfl) (fun _ _ _ h => h) (Yields.yieldsIf (Or.inl ⟨by rfl, ?_⟩)) hHeld ?_; rotate_left 1; focus (intro w; go_simp; try with_reducible rfl)); try simp only [Act.put, List.getElem_toArray, List.getElem_cons_zero, List.getElem_cons_succ, List.setIfInBounds_toArray, List.set_cons_zero, List.set_cons_succ])
                      ((refine wpAnyH_take (i := 27) (v := ?_) rfl (by kernel_rfl) (by kernel_rfl) (by kernel_rfl) (fun _ _ _ h => h) (Yields.yieldsIf (Or.inl ⟨by rfl, ?_⟩)) hHeld ?_; rotate_left 1; focus (intro w; go_simp; try with_reducible rfl)); try simp only [Act.put, List.getElem_toArray, List.getElem_cons_zero, List.getElem_cons_succ, List.setIfInBounds_toArray, List.set_cons_zero, List.set_cons_succ])
                      ((refine wpAnyH_take (i := 28) (v := ?_) rfl (by kernel_rfl) (by kernel_rfl) (by kernel_rfl) (fun _ _ _ h => h) (Yields.yieldsIf (Or.inl ⟨by rfl, ?_⟩)) hHeld ?_; rotate_left 1; focus (intro w; go_simp; try with_reducible rfl)); try simp only [Act.put, List.getElem_toArray, List.getElem_cons_zero, List.getElem_cons_succ, List.setIfInBounds_toArray, List.set_cons_zero, List.set_cons_succ])
                      ((refine wpAnyH_take (i := 29) (v := ?_) rfl (by kernel_rfl) (by kernel_rfl) (by kernel_rfl) (fun _ _ _ h => h) (Or.inl ⟨by rfl, ?_⟩) hHeld ?_; rotate_left 1; focus (intro w hS; obtain ⟨⟨sa, sb, sc⟩, sd, se, sf⟩ := hS; go_simp; try with_reducible rfl)); try simp only [Act.put, List.getElem_toArray, List.getElem_cons_zero, List.getElem_cons_succ, List.setIfInBounds_toArray, List.set_cons_zero, List.set_cons_succ])
                      ((refine wpAnyH_take (i := 30) (v := ?_) rfl (by kernel_rfl) (by kernel_rfl) (by kernel_rfl) (fun _ _ _ h => h) (Yields.yieldsIf (Or.inl ⟨by rfl, ?_⟩)) hHeld ?_; rotate_left 1; focus (intro w; go_simp; try with_reducible rfl)); try simp only [Act.put, List.getElem_toArray, List.getElem_cons_zero, List.getElem_cons_succ, List.setIfInBounds_toArray, List.set_cons_zero, List.set_cons_succ])
                      ((refine wpAnyH_take (i := 31) (v := ?_) rfl (by kernel_rfl) (by kernel_rfl) (by kernel_rfl) (fun _ _ _ h => h) (Yields.yieldsIf (Or.inl ⟨by rfl, ?_⟩)) hHeld ?_; rotate_left 1; focus (intro w; go_simp; try with_reducible rfl)); try simp only [Act.put, List.getElem_toArray, List.getElem_cons_zero, List.getElem_cons_succ, List.setIfInBounds_toArray, List.set_cons_zero, List.set_cons_succ])
                      ((refine wpAnyH_take (i := 32) (v := ?_) rfl (by kernel_rfl) (by kernel_rfl) (by kernel_rfl) (fun _ _ _ h => h) (Yields.yieldsIf (Or.inl ⟨by rfl, ?_⟩)) hHeld ?_; rotate_left 1; focus (intro w; go_simp; try with_reducible rfl)); try simp only [Act.put, List.getElem_toArray, List.getElem_cons_zero, List.getElem_cons_succ, List.setIfInBounds_toArray, List.set_cons_zero, List.set_cons_succ])
                      ((refine wpAnyH_take (i := 33) (v := ?_) rfl (by kernel_rfl) (by kernel_rfl) (by kernel_rfl) (fun _ _ _ h => h) (Yields.yieldsIf (Or.inl ⟨by rfl, ?_⟩)) hHeld ?_; rotate_left 1; focus (intro w; go_simp; try with_reducible rfl)); try simp only [Act.put, List.getElem_toArray, List.getElem_cons_zero, List.getElem_cons_succ, List.setIfInBounds_toArray, List.set_cons_zero, List.set_cons_succ])
                      ((refine wpAnyH_take (i := 34) (v := ?_) rfl (by kernel_rfl) (by kernel_rfl) (by kernel_rfl) (fun _ _ _ h => h) (Yields.yieldsIf (Or.inl ⟨by rfl, ?_⟩)) hHeld ?_; rotate_left 1; focus (intro w; go_simp; try with_reducible rfl)); try simp only [Act.put, List.getElem_toArray, List.getElem_cons_zero, List.getElem_cons_succ, List.setIfInBounds_toArray, List.set_cons_zero, List.set_cons_succ])
                      ((refine wpAnyH_take (i := 35) (v := ?_) rfl (by kernel_rfl) (by kernel_rfl) (by kernel_rfl) (fun _ _ _ h => h) (Yields.yieldsIf (Or.inl ⟨by rfl, ?_⟩)) hHeld ?_; rotate_left 1; focus (intro w; go_simp; try with_reducible rfl)); try simp only [Act.put, List.getElem_toArray, List.getElem_cons_zero, List.getElem_cons_succ, List.setIfInBounds_toArray, List.set_cons_zero, List.set_cons_succ])
                      ((refine wpAnyH_take (i := 36) (v := ?_) rfl (by kernel_rfl) (by kernel_rfl) (by kernel_rfl) (fun _ _ _ h => h) (Or.inl ⟨by rfl, ?_⟩) hHeld ?_; rotate_left 1; focus (intro w hS; obtain ⟨⟨sa, sb, sc⟩, sd, se, sf⟩ := hS; go_simp; try with_reducible rfl)); try simp only [Act.put, List.getElem_toArray, List.getElem_cons_zero, List.getElem_cons_succ, List.setIfInBounds_toArray, List.set_cons_zero, List.set_cons_succ])
                      ((refine wpAnyH_take (i := 37) (v := ?_) rfl (by kernel_rfl) (by kernel_rfl) (by kernel_rfl) (fun _ _ _ h => h) (Yields.yieldsIf (Or.inl ⟨by rfl, ?_⟩)) hHeld ?_; rotate_left 1; focus (intro w; go_simp; try with_reducible rfl)); try simp only [Act.put, List.getElem_toArray, List.getElem_cons_zero, List.getElem_cons_succ, List.setIfInBounds_toArray, List.set_cons_zero, List.set_cons_succ])
                      ((refine wpAnyH_take (i := 38) (v := ?_) rfl (by kernel_rfl) (by kernel_rfl) (by kernel_rfl) (fun _ _ _ h => h) (Yields.yieldsIf (Or.inl ⟨by rfl, ?_⟩)) hHeld ?_; rotate_left 1; focus (intro w; go_simp; try with_reducible rfl)); try simp only [Act.put, List.getElem_toArray, List.getElem_cons_zero, List.getElem_cons_succ, List.setIfInBounds_toArray, List.set_cons_zero, List.set_cons_succ])
                      ((refine wpAnyH_take (i := 39) (v := ?_) rfl (by kernel_rfl) (by kernel_rfl) (by kernel_rfl) (fun _ _ _ h => h) (Yields.yieldsIf (Or.inl ⟨by rfl, ?_⟩)) hHeld ?_; rotate_left 1; focus (intro w; go_simp; try with_reducible rfl)); try simp only [Act.put, List.getElem_toArray, List.getElem_cons_zero, List.getElem_cons_succ, List.setIfInBounds_toArray, List.set_cons_zero, List.set_cons_succ])
                      ((refine wpAnyH_take (i := 40) (v := ?_) rfl (by kernel_rfl) (by kernel_rfl) (by kernel_rfl) (fun _ _ _ h => h) (Yields.yieldsIf (Or.inl ⟨by rfl, ?_⟩)) hHeld ?_; rotate_left 1; focus (intro w; go_simp; try with_reducible rfl)); try simp only [Act.put, List.getElem_toArray, List.getElem_cons_zero, List.getElem_cons_succ, List.setIfInBounds_toArray, List.set_cons_zero, List.set_cons_succ])
                      ((refine wpAnyH_take (i := 41) (v := ?_) rfl (by kernel_rfl) (by kernel_rfl) (by kernel_rfl) (fun _ _ _ h => h) (Yields.yieldsIf (Or.inl ⟨by rfl, ?_⟩)) hHeld ?_; rotate_left 1; focus (intro w; go_simp; try with_reducible rfl)); try simp only [Act.put, List.getElem_toArray, List.getElem_cons_zero, List.getElem_cons_succ, List.setIfInBounds_toArray, List.set_cons_zero, List.set_cons_succ])
                      ((refine wpAnyH_take (i := 42) (v := ?_) rfl (by kernel_rfl) (by kernel_rfl) (by kernel_rfl) (fun _ _ _ h => h) (Yields.yieldsIf (Or.inl ⟨by rfl, ?_⟩)) hHeld ?_; rotate_left 1; focus (intro w; go_simp; try with_reducible rfl)); try simp only [Act.put, List.getElem_toArray, List.getElem_cons_zero, List.getElem_cons_succ, List.setIfInBounds_toArray, List.set_cons_zero, List.set_cons_succ])
                      refine wpAnyH_done (by kernel_rfl) ?_ _
                      clear hHeld
                      go_wp2
                      go_roundw
                      case rel => exact ⟨k + 1, by go_num, hlt3, HPK.out.drew⟩
                      case measure => simp [intOf]; omega
                    · have hge : ¬ (k : Int) < (e : Int) := by omega
                      have dke : decide (k < e) = false := decide_eq_false hlt3
                      have HPK := Lib.hid hpk
                      clear hpk
                      go_wp2
                      go_meet
                      exact ⟨D3, D5, tt, R, HK5.out.pure HPK.out, HLR.out⟩
              · have e : j = nt := by omega
                subst e
                have HPU := Lib.hid HK.out.a.pu
                go_wp2_with (go_at_call 32; refine Calls.mono (HKn.out _ HPU.out) ?_; rintro e w2 ⟨rfl, hp2⟩)
                have hpp := HPU.out.trans hp2
                exact bodyPost_ret (v := .bool true) (by simp [results, Tryd.results9, go_sem]) rfl ⟨rfl, hpp⟩
end Go.Proofs.YtlalpenfgkfkpaaDoor
