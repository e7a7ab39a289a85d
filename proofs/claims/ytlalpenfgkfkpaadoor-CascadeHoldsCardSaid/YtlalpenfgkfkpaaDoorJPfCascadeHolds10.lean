/- Lemmas and contracts of functions, strung together out of 1 texts. No condition. -/
import Derived.Test.YtlalpenfgkfkpaaDoorJPfCascadeHolds9
import Derived.Test.YtlalpenfgkfkpaaDoorJPfCascadeHolds8
import Derived.Test.YtlalpenfgkfkpaaDoorJPfCascadeHolds3
/- law20.CascadeHolds: it returns true. Condition: the table of math/bits lies in memory. -/
namespace Go.Proofs.YtlalpenfgkfkpaaDoor
open Go.RowKit
set_option maxRecDepth 100000
abbrev u64v (l : List Nat) : List Value := l.map (fun x : Nat => (.int .u64 x : Value))
theorem u64_read {W : World} {a : Option Addr} {n c : Nat} {xs : List Nat} (h : ReadAt W (.slice a n c) 1 (u64v xs)) {j y : Nat} (hy : xs[j]? = some y) : ∃ ad, a = some ad ∧ W.cell? (ad.add j) = some (.int .u64 y) := by
  obtain ⟨a', n', c', e, hl, _, h0, hc⟩ := h
  injection e with e1 e2 e3
  subst e1 e2 e3
  have hj := (List.getElem?_eq_some_iff.1 hy).1
  cases a with
  | none =>
    have := h0 rfl
    subst this
    have : xs = [] := by simpa [u64v] using hl
    subst this
    cases hy
  | some ad => exact ⟨ad, rfl, hc ad rfl j _ (by unfold u64v; rw [List.getElem?_map, hy]; rfl)⟩
theorem wpList_append_read_g {P : Program} (w : World) {ops : Array Oper} {rest : List Oper} {o : Oper} {a : Act} {Q : Exit → Act → World → Prop} (hw : Region.wanted o (yielded ops a.tmps) = true) (s x : Operand) (t : TypeId)
    (ho : o.op = .call { callee := .builtin .append, args := #[s, x], argTypes := #[t, t] })
    (e : TypeId) (i : TypeInfo) (z : Value) (k bytes : Nat) (ht : P.underlying t = some (.slice e)) (hi : P.info? e = some i) (hz : i.zero = some z)
    (hsize : i.size = k) (hby : i.bytes = bytes) (hzs : z.cells.size = k) (hsz : 0 < k)
    (v : Value) (n : Nat) (xs : List Value) (hs : a.eval s = v) (hown : w.ownsRow 0 e k v n xs) (xv : Value) (ys : List Value) (m : Nat) (hxv : a.eval x = xv) (hx : ReadAt w xv k ys) (hm : ys.length = m * k)
    (h63 : n + m ≤ maxLen) (hbytes : (n + m) * bytes ≤ 140737488355328)
    (h : ∀ a' c' w', w'.ownsRow 0 e k (.slice a' (n + m) c') (n + m) (xs ++ ys) → w.grownBy w' v.ownBlock → ((Value.slice a' (n + m) c').ownBlock = v.ownBlock ∨ (Value.slice a' (n + m) c').ownBlock = some w.heap.size) → wpList P ops Q rest (a.put o.dst (.slice a' (n + m) c')) w') : wpList P ops Q (o :: rest) a w :=
  wpList_step fun _ hK => by
    rw [if_pos hw]
    exact wp_append_read w s x t ho e i z k bytes ht hi hz hsize hby hzs hsz v n xs hs hown xv ys m hxv hx hm h63 hbytes fun a' c' w' h2 h3 h4 => hK _ _ (h a' c' w' h2 h3 h4)
theorem rd_take {w : World} {a : Option Addr} {n c j : Nat} {L : List Td} (h : ReadAt w (.slice a n c) 3 (L.flatMap tdC)) (hj : j ≤ n) : ReadAt w (.slice a j c) 3 ((L.take j).flatMap tdC) := by
  obtain ⟨a', n', c', e, hl, h1, h0, hc⟩ := h
  injection e with e1 e2 e3
  subst e1 e2 e3
  have hln : L.length = n := by rw [flat_length tdC 3 (fun _ => rfl)] at hl; omega
  refine ⟨a, j, c, rfl, by rw [flat_length tdC 3 (fun _ => rfl), List.length_take]; omega, tdC_one _, fun e => by have := h0 e; omega, fun ad ha i u hu => hc ad ha i u ?_⟩
  rw [← List.take_append_drop j L, List.flatMap_append]
  have hi := (List.getElem?_eq_some_iff.1 hu).1
  rw [List.getElem?_append_left hi]
  exact hu
section
variable {w0 w w' : World} {D : Nat → Prop} {p now tt : Nat} {L : List Td}
theorem KnS.schedM (h : KnS w0 w D p now L) {x : Td} {r : Int} {L' : List Td} (hr : schR now L x = r) (hL : schL now L x = L') (h32 : x.slot ≤ 4294967295) (hd : x.dl ≤ 18446744073709551615) (hb : x.birth ≤ 18446744073709551615) :
    Calls Tryd.prog 13 #[lkP p, tdV x] w fun e w' => e = .returned (.int .i64 r) ∧ ∃ D', KnS w0 w' D' p now L' ∧ grewD D D' w ∧ Mod D w w' := by
  refine (h.t.at_.sched h32 hd hb (by have := h.t.at_.count; unfold maxLen; omega)).mono ?_
  rintro e w' ⟨rfl, ⟨D', hc, hg⟩, hm⟩
  rw [hL] at hc
  exact ⟨by rw [hr], D', h.step (h.t.next hc hg hm) hg hm, hg, hm⟩
theorem KnS.advM (h : KnS w0 w D p now L) (ht : tt < 18446744073709551616) :
    Calls Tryd.prog 16 #[lkP p, .int .u64 tt] w fun e w' => ∃ a c, e = .returned (.tuple #[.slice a (aOut now tt L).length c, .int .i64 (aErr now tt)]) ∧ TdRow w' a c (aOut now tt L) ∧ (∃ D', KnS w0 w' D' p (aNow now tt) (aRest now tt L) ∧ grewD D D' w ∧ ∀ g, (Value.slice a (aOut now tt L).length c).ownBlock = some g → ¬ D' g ∧ w.heap.size ≤ g) ∧ Mod D w w' := by
  refine (h.t.at_.advAny h.t.tab h.t.off ht).mono ?_
  rintro e w' ⟨a, c, rfl, hr, ⟨D', hc, hg, hf⟩, hm⟩
  exact ⟨a, c, rfl, hr, ⟨D', h.step (h.t.next hc hg hm) hg hm, hg, hf⟩, hm⟩
end
/-- The slots that are taken, in the first loop. -/
structure HoI (w wr : World) (p now i : Nat) (a : Option Addr) (c : Nat) (tk : List Td) (D : Nat → Prop) (L : List Td) : Prop where
  ks : KnS w wr D p now L
  tak : Tak now i tk L
  row : TdRow wr a c tk
  off : ∀ g, (Value.slice a tk.length c).ownBlock = some g → ¬ D g ∧ w.heap.size ≤ g
/-- Behind the copy: the first cascade, the second one, and what was taken. -/
structure HoM (w wr : World) (p p2 now : Nat) (at_ : Option Addr) (ct : Nat) (tk : List Td) (D D2 : Nat → Prop) (L L2 : List Td) (now2 : Nat) : Prop where
  c : KnS w wr D p now L
  d : KnS w wr D2 p2 now2 L2
  row : TdRow wr at_ ct tk
  off : ∀ g, (Value.slice at_ tk.length ct).ownBlock = some g → ¬ D g ∧ ¬ D2 g
  apart : ∀ k, D k → ¬ D2 k
theorem HoM.new {w wr w2 : World} {p now i : Nat} {a : Option Addr} {c : Nat} {tk L : List Td} {D D2 : Nat → Prop} {p2 : Nat} (h : HoI w wr p now i a c tk D L) (hc : CasAt w2 D2 p2 now L) (hp : Pure wr w2) (hf : ∀ k, D2 k → wr.heap.size ≤ k) (h0 : 0 < w.heap.size) : HoM w w2 p p2 now a c tk D D2 L L now := by
  have hs := h.ks.pu.size
  refine ⟨h.ks.pure hp, ⟨⟨hc, h.ks.t.tab.pure hp, fun e => by have := hf 0 e; omega⟩, fun k hk => by have := hf k hk; omega, h.ks.pu.trans hp⟩, owns_mod h.row hp (fun _ _ h => h), fun g hg => ⟨(h.off g hg).1, fun e => by have := hf g e; have := owns_lt h.row hg; omega⟩, fun k hk e => by have := hf k e; have := h.ks.lt hk; omega⟩
/-- A list that lies beside them. -/
def Bes (wr : World) (D D2 : Nat → Prop) (a : Option Addr) (c : Nat) (l : List Td) : Prop := TdRow wr a c l ∧ ∀ g, (Value.slice a l.length c).ownBlock = some g → ¬ D g ∧ ¬ D2 g
/-- An advance of the first one. -/
theorem HoM.adv1 {w wr w3 : World} {p now now2 : Nat} {a : Option Addr} {c : Nat} {tk L L2 : List Td} {D D2 D' : Nat → Prop} {p2 : Nat} (h : HoM w wr p p2 now a c tk D D2 L L2 now2) {now' : Nat} {L' l : List Td} {a3 : Option Addr} {c3 : Nat}
    (hr : TdRow w3 a3 c3 l) (hk : KnS w w3 D' p now' L') (hg : grewD D D' wr) (hf : ∀ g, (Value.slice a3 l.length c3).ownBlock = some g → ¬ D' g ∧ wr.heap.size ≤ g) (hm : Mod D wr w3) : HoM w w3 p p2 now' a c tk D' D2 L' L2 now2 ∧ Bes w3 D' D2 a3 c3 l ∧ ∀ b cb lb, Bes wr D D2 b cb lb → Bes w3 D' D2 b cb lb := by
  have grow : ∀ g, g < wr.heap.size → ¬ D g → ¬ D' g := fun g hl hn e => by
    rcases hg g e with k | k
    · exact hn k
    · omega
  have d2 : ∀ k, D2 k → k < wr.heap.size := fun k hk => h.d.lt hk
  have d0 : ∀ k, D k → w.heap.size ≤ k := h.c.ge
  refine ⟨⟨hk, ⟨h.d.t.frame hm (fun k hk e => h.apart k e hk) (fun e => h.c.t.off e), h.d.ge, h.d.pu.then hm (fun k hk e => by have := d0 k e; omega)⟩, owns_mod h.row hm (fun g hg => (h.off g hg).1), fun g hg => ⟨grow g (owns_lt h.row hg) (h.off g hg).1, (h.off g hg).2⟩, fun k hk e => ?_⟩, ⟨hr, fun g hg => ⟨(hf g hg).1, fun e => by have := (hf g hg).2; have := d2 g e; omega⟩⟩, fun b cb lb hb => ⟨owns_mod hb.1 hm (fun g hg => (hb.2 g hg).1), fun g hg => ⟨grow g (owns_lt hb.1 hg) (hb.2 g hg).1, (hb.2 g hg).2⟩⟩⟩
  rcases hg k hk with k' | k'
  · exact h.apart k k' e
  · have := d2 k e; omega
set_option maxHeartbeats 4000000 in
theorem CascadeHolds_true (w : World) (hT : TabW w) (now : Nat) (hnow : now < 18446744073709551616) (a : Option Addr) (c : Nat) (gs : List Nat) (hr : ReadAt w (.slice a gs.length c) 1 (u64v gs)) (hg : ∀ z ∈ gs, z < 18446744073709551616) (hl63 : gs.length ≤ 9223372036854775807) (one : Nat) (h1 : one < 18446744073709551616) (two : Nat) (h2 : two < 18446744073709551616) :
    Calls Tryd.prog 3 #[.int .u64 now, .slice a gs.length c, .int .u64 one, .int .u64 two] w fun e w' => e = .returned (.bool true) ∧ Pure w w' := by
  have HKn := Lib.hid (fun (W : World) (hW : Pure w W) => known20_ok W (hT.pure hW))
  have HT0 := Lib.hid hT.lt
  have HKn0 := Lib.hid (HKn.out w (Mod.refl _ _))
  have HNw := Lib.hid (KnS.new hT hnow)
  obtain ⟨n, hn⟩ : ∃ n, gs.length = n := ⟨_, rfl⟩
  rw [hn] at hr hl63 ⊢
  have HR := Lib.hid hr; have HG := Lib.hid hg; have HN := Lib.hid hn
  clear hr hg hn
  by_cases hbad : n > 60 ∨ one < now ∨ two < one
  · have HBad := Lib.hid hbad
    clear hbad
    go_enter Tryd.func3, Tryd.ntmps3
    rcases HBad.out with hb | hb | hb
    · have hb' : (60 : Int) < (n : Int) := by omega
      go_wp2_with (go_at_call 10; refine Calls.mono HKn0.out ?_; rintro e w2 ⟨rfl, hp2⟩)
      go_ret
      exact ⟨rfl, hp2⟩
    · by_cases h60 : n > 60
      · have hb' : (60 : Int) < (n : Int) := by omega
        go_wp2_with (go_at_call 10; refine Calls.mono HKn0.out ?_; rintro e w2 ⟨rfl, hp2⟩)
        go_ret
        exact ⟨rfl, hp2⟩
      · have hb' : ¬ (60 : Int) < (n : Int) := by omega
        have hb2 : (one : Int) < (now : Int) := by omega
        go_wp2_with (go_at_call 10; refine Calls.mono HKn0.out ?_; rintro e w2 ⟨rfl, hp2⟩)
        go_ret
        exact ⟨rfl, hp2⟩
    · have hb2 : (two : Int) < (one : Int) := by omega
      by_cases h60 : n > 60
      · have hb' : (60 : Int) < (n : Int) := by omega
        go_wp2_with (go_at_call 10; refine Calls.mono HKn0.out ?_; rintro e w2 ⟨rfl, hp2⟩)
        go_ret
        exact ⟨rfl, hp2⟩
      · have hb' : ¬ (60 : Int) < (n : Int) := by omega
        by_cases hb3 : (one : Int) < (now : Int)
        · go_wp2_with (go_at_call 10; refine Calls.mono HKn0.out ?_; rintro e w2 ⟨rfl, hp2⟩)
          go_ret
          exact ⟨rfl, hp2⟩
        · go_wp2_with (go_at_call 10; refine Calls.mono HKn0.out ?_; rintro e w2 ⟨rfl, hp2⟩)
          go_ret
          exact ⟨rfl, hp2⟩
  · rw [not_or, not_or] at hbad
    obtain ⟨hb1, hb2, hb3⟩ := hbad
    have hc1 : ¬ (60 : Int) < (n : Int) := by omega
    have hc2 : ¬ (one : Int) < (now : Int) := by omega
    have hc3 : ¬ (two : Int) < (one : Int) := by omega
    obtain ⟨j0, hj, jz0, jz1, jz2⟩ := info_parts info_td
    go_enter Tryd.func3, Tryd.ntmps3
    go_upto_region 8 with (go_at_call 11; refine Calls.mono HNw.out ?_; rintro e w1 ⟨p, D, rfl, hs⟩; have HS := Lib.hid hs; clear hs)
    clear HNw HKn0 hc1 hc2 hc3
    go_loopw [10, 11] (fun v10 v11 wr => ∃ (i : Nat) (at_ : Option Addr) (ct : Nat) (tk : List Td) (D : Nat → Prop) (L : List Td), v11 = .int .i64 (i : Nat) ∧ i ≤ n ∧ v10 = .slice at_ tk.length ct ∧ HoI w wr p now i at_ ct tk D L) (fun _ v11 _ => n - (intOf v11).toNat)
    case atStart => exact ⟨0, none, 0, [], D, [], rfl, Nat.zero_le _, rfl, HS.out, Tak.new now, World.ownsRow_nil _ _ _ _, fun g hg => by cases hg⟩
    case round =>
      obtain ⟨i, at_, ct, tk, D1, L, rfl, hi, rfl, hI⟩ := hrel
      have HI := Lib.hid hI
      clear hI HS
      by_cases hlt : i < n
      · have hlt' : (i : Int) < (n : Int) := by omega
        have i0 : (0 : Int) ≤ (i : Int) := by omega
        obtain ⟨bi, hbi⟩ : ∃ b : Nat, i + 1 = b := ⟨_, rfl⟩
        have hbI : (i : Int) + 1 = (bi : Int) := by omega
        have wi : IntKind.i64.wrap (bi : Int) = (bi : Int) := IntWalk.i64_in _ (by omega)
        have wu : IntKind.u32.wrap (i : Int) = (i : Int) := by simp [IntKind.wrap, IntKind.signed, IntKind.bits]; omega
        have wv : IntKind.u64.wrap (bi : Int) = (bi : Int) := by simp [IntKind.wrap, IntKind.signed, IntKind.bits]; omega
        obtain ⟨d, hd⟩ : ∃ d, gs[i]? = some d := ⟨_, List.getElem?_eq_getElem (by rw [HN.out]; exact hlt)⟩
        obtain ⟨ad, had, z0⟩ := u64_read (HR.out.frame HI.out.ks.pu (fun _ _ h => h)) hd
        have hd64 := HG.out d (List.mem_of_getElem? hd)
        have htm := timed_ok i d bi
        unfold tdV at htm
        dsimp only at htm
        have HTm := Lib.hid htm
        -- BEG r1
        as_aux_lemma =>
          subst had
          clear hd htm
          go_upto_region 11 with (go_at_call 12; refine Calls.mono (HTm.out _) ?_; rintro e w2 ⟨rfl, hp2⟩)
          have p3 : Pure wr (w2.alloc (.cells #[.int .u32 i, .int .u64 d, .int .u64 bi] 31)) := hp2.alloc _
          have h12 := heap_new (w := w2) (o := .cells #[.int .u32 i, .int .u64 d, .int .u64 bi] 31 (0, 0)) rfl
          generalize w2.alloc (.cells #[.int .u32 i, .int .u64 d, .int .u64 bi] 31) = W3 at *
          obtain ⟨b12, hb12⟩ : ∃ b, w2.heap.size = b := ⟨_, rfl⟩
          rw [hb12] at h12 ⊢
          have hb12w : w.heap.size ≤ b12 := by have := HI.out.ks.pu.size; have := hp2.size; omega
          have hb12n : ∀ k, D1 k → k < b12 := fun k hk => by have := HI.out.ks.lt hk; have := hp2.size; omega
          have hks3 := HI.out.ks.pure p3
          have HSZ : Hid (wr.heap.size ≤ b12) := Lib.hid (by have := hp2.size; omega)
          have HB12 := Lib.hid (And.intro hb12w hb12n)
          have HP3 := Lib.hid p3; have H12 := Lib.hid h12; have HK3 := Lib.hid hks3
          clear hb12 hp2 p3 hb12w hb12n hks3 z0
          have h12_0 := cell_of_row _ _ 0 _ _ _ h12; have h12_1 := cell_of_row _ _ 1 _ _ _ h12; have h12_2 := cell_of_row _ _ 2 _ _ _ h12; have h12_f := (fun j => frozen_of_row _ _ j _ _ h12); have h12_l := lt_of_block h12; simp at h12_0 h12_1 h12_2; have H_h12 := Lib.hid h12; clear h12
          have hsc := fun (W : World) (hW : Pure W3 W) => (HK3.out.pure hW).schedM (x := ⟨i, d, bi⟩) rfl rfl (by show i ≤ _; omega) (by show d ≤ _; omega) (by show bi ≤ _; omega)
          unfold tdV at hsc
          dsimp only at hsc
          have hnx := HI.out.tak.next (d := d) (by omega)
          rw [hbi] at hnx
          have HSc := Lib.hid hsc
          clear hsc
          rcases hnx with ⟨hr0, htk⟩ | ⟨hr0, htk⟩
          · rw [hr0] at HSc
            have HTk := Lib.hid htk
            clear hr0 htk
            go_upto_region 12 with (go_at_call 13; refine Calls.mono (HSc.out _ (by first | exact Mod.refl _ _ | exact (Mod.refl _ _).drew)) ?_; rintro e w4 ⟨rfl, D4, hs4, hg4, hm4⟩)
            have hm4' : Mod D1 W3 w4 := by first | exact hm4 | exact Mod.of_drew hm4
            have hg4' : ∀ k, D4 k → D1 k ∨ b12 < k := fun k hk => by
              have e1 := lt_of_block H12.out
              rcases hg4 k hk with e | e
              · exact .inl e
              · have e' : W3.heap.size ≤ k := e
                exact .inr (by omega)
            have h124 := hm4'.heap (fun e => by have := HB12.out.2 b12 e; omega) H12.out
            have hrow4 := owns_mod (owns_mod HI.out.row HP3.out (fun _ _ h => h)) hm4' (fun g hg => (HI.out.off g hg).1)
            have hoff4 : ∀ g, (Value.slice at_ tk.length ct).ownBlock = some g → ¬ D4 g ∧ w.heap.size ≤ g := fun g hg => ⟨fun hk => by
              rcases hg4' g hk with e | e
              · exact (HI.out.off g hg).1 e
              · have e1 := owns_lt HI.out.row hg
                have := HB12.out.1
                have e2 : wr.heap.size ≤ b12 := HSZ.out
                omega, (HI.out.off g hg).2⟩
            obtain ⟨nt, hnt⟩ : ∃ nt, tk.length = nt := ⟨_, rfl⟩
            have hnt60 : nt ≤ 60 := by have := HI.out.tak.len; omega
            have hrow4' : w4.ownsRow 0 31 3 (.slice at_ nt ct) nt (tk.flatMap tdC) := by have := hrow4; unfold TdRow at this; rw [hnt] at this; exact this
            rw [hnt] at hoff4 ⊢
            have HOFF4 := Lib.hid hoff4; have HRow4 := Lib.hid hrow4'; have HK4 := Lib.hid hs4; have HNT := Lib.hid hnt
            have HLT4 := Lib.hid (fun k (hk : D4 k) => hs4.lt hk)
            clear h12_0 h12_1 h12_2 h12_f h12_l
            clear H_h12 hm4 hg4 hm4' hg4' hrow4 hrow4' hoff4 hs4 hnt HSc
            have h124_0 := cell_of_row _ _ 0 _ _ _ h124; have h124_1 := cell_of_row _ _ 1 _ _ _ h124; have h124_2 := cell_of_row _ _ 2 _ _ _ h124; have h124_f := (fun j => frozen_of_row _ _ j _ _ h124); have h124_l := lt_of_block h124; simp at h124_0 h124_1 h124_2; have H_h124 := Lib.hid h124; clear h124
            go_upto_region 9 with (at_builtin; refine wpList_append_read _ rfl _ _ 28 rfl 31 j0 _ 3 24 Tryd.underlying28 hj jz0 jz1 jz2 rfl (by decide) (.slice at_ nt ct) nt _ rfl (owns_mod HRow4.out ((Mod.refl (fun _ => False) w4).alloc _) (fun _ _ h => h)) _ [.int .u32 i, .int .u64 d, .int .u64 bi] 1 rfl (ReadAt.of_block 1 1 3 (heap_new rfl) (by rfl) (by simp [Value.oneCell'])) rfl (by unfold maxLen; omega) (by omega) ?_; intro a8 c8 w6 hr8 hg8 hb8)
            have hmg : Mod (fun k => (Value.slice at_ nt ct).ownBlock = some k) w4 w6 := ((Mod.refl _ w4).alloc _).then (Mod.of_grown (S := fun k' => (Value.slice at_ nt ct).ownBlock = some k') hg8 (fun k e _ => e)) (fun _ _ h => h)
            have hal4 : w4.heap.size < (w4.alloc (.cells #[.int .u32 i, .int .u64 d, .int .u64 bi] 31)).heap.size := by simp
            have hks6 : KnS w w6 D4 p now (schL now L ⟨i, d, bi⟩) := ⟨HK4.out.t.frame hmg (fun k hk e => (HOFF4.out k e).1 hk) (fun e => by have := (HOFF4.out 0 e).2; have := HK4.out.ge; have := HT0.out; omega), HK4.out.ge, HK4.out.pu.then hmg (fun k hk e => by have := (HOFF4.out k e).2; omega)⟩
            have hI6 : HoI w w6 p now bi a8 c8 (tk ++ [⟨i, d, bi⟩]) D4 (schL now L ⟨i, d, bi⟩) := ⟨hks6, HTk.out, (by
                  show World.ownsRow _ 0 _ 3 (.slice a8 (tk ++ [_]).length c8) (tk ++ [_]).length ((tk ++ [_]).flatMap tdC)
                  rw [List.length_append, HNT.out, List.flatMap_append]
                  exact hr8), fun g hg => (by
                  rw [List.length_append, HNT.out] at hg
                  rcases hb8 with e | e
                  · exact HOFF4.out g (e ▸ hg)
                  · have hg' : (Value.slice a8 (nt + 1) c8).ownBlock = some g := hg
                    rw [e] at hg'
                    cases hg'
                    refine ⟨fun hk => ?_, by have := HK4.out.pu.size; omega⟩
                    have := HLT4.out _ hk
                    omega)⟩
            have hnx : (tk ++ [(⟨i, d, bi⟩ : Td)]).length = nt + 1 := by rw [List.length_append, HNT.out]; rfl
            have HI6 := Lib.hid hI6; have HNX := Lib.hid hnx
            clear hr8 hg8 hb8 hmg hal4 hks6 hI6 hnx
            go_wp2
            go_roundw
            case rel => exact ⟨bi, a8, c8, _, D4, _, rfl, by omega, by rw [HNX.out], HI6.out⟩
            case measure => simp [intOf]; omega
          · obtain ⟨r, hr⟩ : ∃ r, schR now L ⟨i, d, bi⟩ = r := ⟨_, rfl⟩
            rw [hr] at HSc hr0
            have e0 : (r == 0) = false := by simpa using hr0
            have HTk := Lib.hid htk
            clear hr hr0 htk
            go_upto_region 9 with (go_at_call 13; refine Calls.mono (HSc.out _ (by first | exact Mod.refl _ _ | exact (Mod.refl _ _).drew)) ?_; rintro e w4 ⟨rfl, D4, hs4, hg4, hm4⟩)
            have hm4' : Mod D1 W3 w4 := by first | exact hm4 | exact Mod.of_drew hm4
            have hg4' : ∀ k, D4 k → D1 k ∨ b12 < k := fun k hk => by
              have e1 := lt_of_block H12.out
              rcases hg4 k hk with e | e
              · exact .inl e
              · have e' : W3.heap.size ≤ k := e
                exact .inr (by omega)
            have hrow4 := owns_mod (owns_mod HI.out.row HP3.out (fun _ _ h => h)) hm4' (fun g hg => (HI.out.off g hg).1)
            have hI6 : HoI w w4 p now bi at_ ct tk D4 (schL now L ⟨i, d, bi⟩) := ⟨hs4, HTk.out, hrow4, fun g hg => ⟨fun hk => (by
              rcases hg4' g hk with e | e
              · exact (HI.out.off g hg).1 e
              · have e1 := owns_lt HI.out.row hg
                have e2 : wr.heap.size ≤ b12 := HSZ.out
                omega), (HI.out.off g hg).2⟩⟩
            have HI6 := Lib.hid hI6
            clear h12_0 h12_1 h12_2 h12_f h12_l
            clear H_h12 hm4 hg4 hm4' hg4' hrow4 hs4 HSc hI6
            go_wp2
            go_roundw
            case rel => exact ⟨bi, at_, ct, tk, D4, _, rfl, by omega, rfl, HI6.out⟩
            case measure => simp [intOf]; omega
        -- END r1
      · have e : i = n := by omega
        subst e
        have hcp := HI.out.ks.t.at_.copy
        have HCp := Lib.hid hcp
        have hpm := HI.out.tak.perm
        have hlenL : L.length = tk.length := hpm.length_eq.symm
        have hl60 : tk.length ≤ 60 := by have := HI.out.tak.len; omega
        obtain ⟨nt, hnt⟩ : ∃ nt, tk.length = nt := ⟨_, rfl⟩
        rw [hnt] at hl60 hlenL ⊢
        have HNT := Lib.hid hnt; have HLL := Lib.hid hlenL; have HPM := Lib.hid hpm
        clear hcp hpm hnt hlenL hlt
        go_upto_region 16 with (first
          | (go_at_call 14; refine Calls.mono HCp.out ?_; rintro e w2 ⟨p2, D2, rfl, hc2, hp2, hf2⟩
             have HC2 := Lib.hid hc2; have HP2 := Lib.hid hp2; have HF2 := Lib.hid hf2
             have hln := (HI.out.ks.pure hp2).t.at_.len_
             rw [HLL.out] at hln
             have HLn := Lib.hid hln
             clear hc2 hp2 hf2 hln)
          | (go_at_call 15; refine Calls.mono HLn.out ?_; rintro e w3 ⟨rfl, rfl⟩))
        have HM := Lib.hid (HoM.new HI.out HC2.out HP2.out HF2.out HT0.out)
        clear HCp HC2 HP2 HF2 HLn
        have hs := HI.out.ks.t.at_.uniq.2.2
        have hgt := fun x hx => (HI.out.ks.t.at_.rng x hx).2.1
        obtain ⟨e1, e2, e3, e4⟩ := aOut_all (tt := one) hgt (by omega)
        obtain ⟨f1, f2, f3, f4⟩ := aOut_all (now := one) (tt := two) (L := restL one L) (rest_gt hs) (by omega)
        obtain ⟨g1, g2, g3, g4⟩ := aOut_all (tt := two) hgt (by omega)
        have hq1 := HM.out.c.advM (tt := one) h1
        rw [e1, e2, e3, e4] at hq1
        have hq2 := fun (W : World) (D : Nat → Prop) (h : KnS w W D p one (restL one L)) => h.advM (tt := two) h2
        rw [f1, f2, f3, f4] at hq2
        have hq3 := fun (W : World) (D : Nat → Prop) (h : KnS w W D p2 now L) => h.advM (tt := two) h2
        rw [g1, g2, g3, g4] at hq3
        have HQ1 := Lib.hid hq1; have HQ2 := Lib.hid hq2; have HQ3 := Lib.hid hq3; have HS := Lib.hid hs; have HGT := Lib.hid hgt
        clear e1 e2 e3 e4 f1 f2 f3 f4 g1 g2 g3 g4 hq1 hq2 hq3 hs hgt
        go_upto_region 17 with (go_at_call 16; refine Calls.mono HQ1.out ?_; rintro e w3 ⟨a1, c1, rfl, hr1, ⟨D3, hk1, hg1, hf1⟩, hm1⟩)
        obtain ⟨hm3, hb3, hall3⟩ := HM.out.adv1 hr1 hk1 hg1 hf1 hm1
        have HM3 := Lib.hid hm3; have HB3 := Lib.hid hb3
        have HQ2' := Lib.hid (HQ2.out w3 D3 hk1)
        clear hr1 hk1 hg1 hf1 hm1 hm3 hb3 hall3 HM HQ1 HQ2
        go_upto_region 18 with (go_at_call 16; refine Calls.mono HQ2'.out ?_; rintro e w4 ⟨a2, c2, rfl, hr1, ⟨D4, hk1, hg1, hf1⟩, hm1⟩)
        obtain ⟨hm4, hb4, hall4⟩ := HM3.out.adv1 hr1 hk1 hg1 hf1 hm1
        have HM4 := Lib.hid hm4; have HB4 := Lib.hid hb4; have HA4 := Lib.hid (hall4 _ _ _ HB3.out)
        have HQ3' := Lib.hid (HQ3.out w4 D2 hm4.d)
        clear hr1 hk1 hg1 hf1 hm1 hm4 hb4 hall4 HM3 HB3 HQ2' HQ3
        go_upto_region 19 with (go_at_call 16; refine Calls.mono HQ3'.out ?_; rintro e w5 ⟨a3, c3, rfl, hr1, ⟨D5, hk1, hg1, hf1⟩, hm1⟩)
        have hsw : HoM w w4 p2 p now at_ ct tk D2 D4 L (restL two (restL one L)) two := ⟨HM4.out.d, HM4.out.c, HM4.out.row, fun g hg => ⟨(HM4.out.off g hg).2, (HM4.out.off g hg).1⟩, fun k hk e => HM4.out.apart k e hk⟩
        have hsB : ∀ b cb lb, Bes w4 D4 D2 b cb lb → Bes w4 D2 D4 b cb lb := fun b cb lb hb => ⟨hb.1, fun g hg => ⟨(hb.2 g hg).2, (hb.2 g hg).1⟩⟩
        obtain ⟨hm5, hb5, hall5⟩ := hsw.adv1 hr1 hk1 hg1 hf1 hm1
        have HM5 := Lib.hid hm5; have HB5 := Lib.hid hb5; have HA5 := Lib.hid (hall5 _ _ _ (hsB _ _ _ HA4.out)); have HE5 := Lib.hid (hall5 _ _ _ (hsB _ _ _ HB4.out))
        clear hr1 hk1 hg1 hf1 hm1 hm5 hb5 hall5 HM4 HB4 HA4 HQ3' hsw hsB
        have hsum := holds_sum (one := one) (two := two) (now := now) HS.out HGT.out (by omega) (by omega)
        have hr1 := HA5.out.1.rd
        have hr2 := HE5.out.1.rd
        have hr3 := HB5.out.1.rd
        have hrt := HM5.out.row.rd
        unfold TdRd at hr1 hr2 hr3 hrt
        have hcap : (dueL two L).length ≤ c3 := by
          obtain ⟨_, _, e, hc⟩ := owns_form HB5.out.1
          injection e with _ _ e
          subst e
          exact hc
        have hm3le : (dueL two L).length ≤ 60 := by
          have : (dueL two L).length ≤ L.length := (List.takeWhile_sublist _).length_le
          rw [HLL.out] at this
          omega
        have hmm : (dueL one L).length + (dueL two (restL one L)).length = (dueL two L).length := by rw [← hsum, List.length_append]
        obtain ⟨m1, hm1⟩ : ∃ m, (dueL one L).length = m := ⟨_, rfl⟩
        obtain ⟨m2, hm2⟩ : ∃ m, (dueL two (restL one L)).length = m := ⟨_, rfl⟩
        obtain ⟨m3, hm3⟩ : ∃ m, (dueL two L).length = m := ⟨_, rfl⟩
        rw [hm1] at hr1 hmm ⊢
        rw [hm2] at hr2 hmm ⊢
        rw [hm3] at hr3 hmm hm3le hcap ⊢
        rw [HNT.out] at hrt
        have HR1 := Lib.hid hr1; have HR2 := Lib.hid hr2; have HR3 := Lib.hid hr3; have HRT := Lib.hid hrt; have HM1 := Lib.hid hm1; have HM2 := Lib.hid hm2; have HM3 := Lib.hid hm3; have HSum := Lib.hid hsum
        have HD5 := Lib.hid HM5.out.c
        have e1l : ((dueL one L).flatMap tdC).length = m1 * 3 := by rw [flat_length tdC 3 (fun _ => rfl), hm1]
        have e2l : ((dueL two (restL one L)).flatMap tdC).length = m2 * 3 := by rw [flat_length tdC 3 (fun _ => rfl), hm2]
        have HE1 := Lib.hid e1l; have HE2 := Lib.hid e2l
        clear hr1 hr2 hr3 hrt hm1 hm2 hm3 hsum HA5 HE5 HB5 HM5 e1l e2l
        have U1 : True := trivial
        go_upto_region 22 with (first
          | (at_builtin; clear U1; refine wpList_append_read_g _ (by rfl) _ _ 28 rfl 31 j0 _ 3 24 Tryd.underlying28 hj jz0 jz1 jz2 rfl (by decide) (.slice none 0 0) 0 [] rfl (World.ownsRow_nil _ _ _ _) (.slice a1 m1 c1) _ m1 rfl HR1.out HE1.out (by unfold maxLen; omega) (by omega) ?_; intro a7 c7 w6 hr7 hg7 hb7
             have p6 : Pure w5 w6 := Mod.of_grown hg7 (fun k e _ => by cases e)
             rw [Nat.zero_add] at hr7 hb7 ⊢
             rw [List.nil_append] at hr7
             have HR7 := Lib.hid hr7; have HB7 := Lib.hid hb7; have HP6 := Lib.hid p6
             clear hr7 hg7 hb7 p6)
          | (at_builtin; refine wpList_append_read_g _ (by rfl) _ _ 28 rfl 31 j0 _ 3 24 Tryd.underlying28 hj jz0 jz1 jz2 rfl (by decide) (.slice a7 m1 c7) m1 _ rfl HR7.out (.slice a2 m2 c2) _ m2 rfl (HR2.out.frame HP6.out (fun _ _ h => h)) HE2.out (by unfold maxLen; omega) (by omega) ?_; intro a8 c8 w7 hr8 hg8 hb8
             rw [hmm] at hr8 hb8 ⊢
             have p7 : Pure w5 w7 := HP6.out.then (Mod.of_grown (S := fun k' => (Value.slice a7 m1 c7).ownBlock = some k') hg8 (fun k e _ => e)) (fun k hk e => (by
               rcases HB7.out with h | h
               · rw [h] at e; cases e
               · rw [h] at e; injection e with e; omega))
             have hr8' : ReadAt w7 (.slice a8 m3 c8) 3 ((dueL two L).flatMap tdC) := (by
               rw [← HSum.out, List.flatMap_append]
               refine ReadAt.of_owns hr8 (fun u hu => ?_)
               rcases List.mem_append.1 hu with h | h
               · exact tdC_one _ u h
               · exact tdC_one _ u h)
             have HSm := Lib.hid (rsame_ok hr8' (HR3.out.frame p7 (fun _ _ h => h)) HM3.out (by omega))
             have HP7 := Lib.hid p7
             clear hr8 hg8 hb8 p7 hr8')
          | (go_at_call 17; refine Calls.mono HSm.out ?_; rintro e w8 ⟨rfl, hp8⟩))
        have HP8 := Lib.hid (HP7.out.trans hp8)
        clear hp8 HP7 HSm HR7 HB7 HP6
        have hu := (HI.out.ks.t.at_.uniq)
        have HU := Lib.hid hu.1
        have hndA : (dueL two L).Nodup := (HS.out.sublist (List.takeWhile_sublist _)).imp (fun {x y} hb e => by rw [e] at hb; exact bef_asymm hb hb)
        have HNDA := Lib.hid hndA
        clear hu hndA
        go_loopw [20] (fun v20 wr => ∃ j : Nat, v20 = .int .i64 (j : Nat) ∧ j ≤ m3 ∧ Pure w5 wr) (fun v20 _ => m3 - (intOf v20).toNat)
        case atStart => exact ⟨0, rfl, Nat.zero_le _, HP8.out⟩
        case round =>
          obtain ⟨j, rfl, hj3, hp⟩ := hrel
          have HP := Lib.hid hp
          by_cases hlt3 : j < m3
          · have hlt3' : (j : Int) < (m3 : Int) := by omega
            have jj0 : (0 : Int) ≤ (j : Int) := by omega
            have wj : IntKind.i64.wrap ((j : Int) + 1) = (j : Int) + 1 := IntWalk.i64_in _ (by omega)
            have hjc : (j : Int) ≤ (c3 : Int) := by omega
            obtain ⟨x, hx⟩ : ∃ x, (dueL two L)[j]? = some x := ⟨_, List.getElem?_eq_getElem (by rw [HM3.out]; exact hlt3)⟩
            obtain ⟨ad3, had3, z0, z1, z2⟩ := td_read (HR3.out.frame hp (fun _ _ h => h)) hx
            have hxm := List.mem_of_getElem? hx
            obtain ⟨hxL, hx2⟩ := (due_le HS.out).1 hxm
            have hxn := HGT.out x hxL
            obtain ⟨hp1, hp2⟩ := due_pos (one := one) HS.out (by omega) hx
            rw [HM1.out] at hp1 hp2
            have hf1 := find_first (L := dueL two L) (fun x hx y hy e => HU.out x ((List.takeWhile_sublist _).subset hx) y ((List.takeWhile_sublist _).subset hy) e) HNDA.out hx
            have hf2 := find_in (L := tk) (s := x.slot) ⟨x, HPM.out.mem_iff.2 hxL, rfl⟩
            have hF1 := fun (W : World) (hW : Pure w5 W) => rfind_ok (rd_take (HR3.out.frame hW (fun _ _ h => h)) hj3) (by rw [List.length_take, HM3.out]; omega) (by omega) x.slot
            rw [hf1] at hF1
            have hF2 := fun (W : World) (hW : Pure w5 W) => rfind_ok (HRT.out.frame hW (fun _ _ h => h)) HNT.out (by omega) x.slot
            obtain ⟨f2, hf2e⟩ : ∃ f, findR tk x.slot = f := ⟨_, rfl⟩
            rw [hf2e] at hF2 hf2
            have hnf2 : ¬ f2 < 0 := by omega
            have HF1 := Lib.hid hF1; have HF2 := Lib.hid hF2
            subst had3
            clear hx hxm hf1 hf2 hF1 hF2 hf2e hxL hp
            have c_1 : ¬ (two : Int) < (x.dl : Int) := by omega
            have c_2 : ¬ (x.dl : Int) ≤ (now : Int) := by omega
            -- BEG r2
            as_aux_lemma =>
              have p4 : Pure w5 (wr.alloc (.cells #[.int .u32 x.slot, .int .u64 x.dl, .int .u64 x.birth] 31)) := HP.out.alloc _
              have h21 := heap_new (w := wr) (o := .cells #[.int .u32 x.slot, .int .u64 x.dl, .int .u64 x.birth] 31 (0, 0)) rfl
              go_upto_region 25 with fail
              generalize wr.alloc (.cells #[.int .u32 x.slot, .int .u64 x.dl, .int .u64 x.birth] 31) = W4 at *
              generalize wr.heap.size = b21 at *
              have HP4 := Lib.hid p4
              have y0 : W4.cell? ⟨b21, 0, none⟩ = some (.int .u32 x.slot) := by rw [cell_of_row W4 _ 0 _ _ _ h21]; rfl
              have y1 : W4.cell? ⟨b21, 1, none⟩ = some (.int .u64 x.dl) := by rw [cell_of_row W4 _ 1 _ _ _ h21]; rfl
              clear p4 h21 z0 z1 z2
              have T1 : True := trivial
              by_cases hjm : j < m1
              · have c_3 : (j : Int) < (m1 : Int) := by omega
                have hd1 := hp1 hjm
                have c_4 : ¬ (one : Int) < (x.dl : Int) := by omega
                have c_5 : ¬ (m1 : Int) ≤ (j : Int) := by omega
                have c_6 : ¬ m1 ≤ j := by omega
                have n_2 : ¬ two < x.dl := by omega
                have n_3 : ¬ x.dl ≤ now := by omega
                have n_4 : ¬ one < x.dl := by omega
                have n_5 : j ≤ c3 := by omega
                have k_1 : decide (m1 ≤ j) = false := decide_eq_false (by omega)
                have k_2 : decide (j < m1) = true := decide_eq_true hjm
                have k_3 : decide (two < x.dl) = false := decide_eq_false (by omega)
                have k_4 : decide (x.dl ≤ now) = false := decide_eq_false (by omega)
                have k_5 : decide (one < x.dl) = false := decide_eq_false (by omega)
                clear hp1 hp2
                refine wp_region_held_drew (S := fun w' => w'.cell? ⟨b21, 0, none⟩ = some (.int .u32 x.slot) ∧ w'.cell? ⟨b21, 1, none⟩ = some (.int .u64 x.dl)) (by kernel_rfl) ⟨y0, y1⟩ (fun hHeld => ?_)
                ((refine wpAnyH_take (i := 0) (v := ?_) rfl (by kernel_rfl) (by kernel_rfl) (by kernel_rfl) (fun _ _ _ h => h) (Yields.yieldsIf (Or.inl ⟨by rfl, ?_⟩)) hHeld ?_; rotate_left 1; focus (intro w; go_simp; try with_reducible rfl)); try simp only [Act.put, List.getElem_toArray, List.getElem_cons_zero, List.getElem_cons_succ, List.setIfInBounds_toArray, List.set_cons_zero, List.set_cons_succ])
                ((refine wpAnyH_take (i := 1) (v := ?_) rfl (by kernel_rfl) (by kernel_rfl) (by kernel_rfl) (fun _ _ _ h => h) (Or.inl ⟨by rfl, ?_⟩) hHeld ?_; rotate_left 1; focus (intro w hS; obtain ⟨s0, s1⟩ := hS; go_simp; try with_reducible rfl)); try simp only [Act.put, List.getElem_toArray, List.getElem_cons_zero, List.getElem_cons_succ, List.setIfInBounds_toArray, List.set_cons_zero, List.set_cons_succ])
                ((refine wpAnyH_take (i := 2) (v := ?_) rfl (by kernel_rfl) (by kernel_rfl) (by kernel_rfl) (fun _ _ _ h => h) (Yields.yieldsIf (Or.inl ⟨by rfl, ?_⟩)) hHeld ?_; rotate_left 1; focus (intro w; go_simp; try with_reducible rfl)); try simp only [Act.put, List.getElem_toArray, List.getElem_cons_zero, List.getElem_cons_succ, List.setIfInBounds_toArray, List.set_cons_zero, List.set_cons_succ])
                ((refine wpAnyH_take (i := 3) (v := ?_) rfl (by kernel_rfl) (by kernel_rfl) (by kernel_rfl) (fun _ _ _ h => h) (Yields.yieldsIf (Or.inl ⟨by rfl, ?_⟩)) hHeld ?_; rotate_left 1; focus (intro w; go_simp; try with_reducible rfl)); try simp only [Act.put, List.getElem_toArray, List.getElem_cons_zero, List.getElem_cons_succ, List.setIfInBounds_toArray, List.set_cons_zero, List.set_cons_succ])
                ((refine wpAnyH_take (i := 4) (v := ?_) rfl (by kernel_rfl) (by kernel_rfl) (by kernel_rfl) (fun _ _ _ h => h) (Yields.yieldsIf (Or.inl ⟨by rfl, ?_⟩)) hHeld ?_; rotate_left 1; focus (intro w; go_simp; try with_reducible rfl)); try simp only [Act.put, List.getElem_toArray, List.getElem_cons_zero, List.getElem_cons_succ, List.setIfInBounds_toArray, List.set_cons_zero, List.set_cons_succ])
                ((refine wpAnyH_take (i := 5) (v := ?_) rfl (by kernel_rfl) (by kernel_rfl) (by kernel_rfl) (fun _ _ _ h => h) (Yields.yieldsIf (Or.inl ⟨by rfl, ?_⟩)) hHeld ?_; rotate_left 1; focus (intro w; go_simp; try with_reducible rfl)); try simp only [Act.put, List.getElem_toArray, List.getElem_cons_zero, List.getElem_cons_succ, List.setIfInBounds_toArray, List.set_cons_zero, List.set_cons_succ])
                ((refine wpAnyH_take (i := 6) (v := ?_) rfl (by kernel_rfl) (by kernel_rfl) (by kernel_rfl) (fun _ _ _ h => h) (Or.inl ⟨by rfl, ?_⟩) hHeld ?_; rotate_left 1; focus (intro w hS; obtain ⟨s0, s1⟩ := hS; go_simp; try with_reducible rfl)); try simp only [Act.put, List.getElem_toArray, List.getElem_cons_zero, List.getElem_cons_succ, List.setIfInBounds_toArray, List.set_cons_zero, List.set_cons_succ])
                ((refine wpAnyH_take (i := 7) (v := ?_) rfl (by kernel_rfl) (by kernel_rfl) (by kernel_rfl) (fun _ _ _ h => h) (Yields.yieldsIf (Or.inl ⟨by rfl, ?_⟩)) hHeld ?_; rotate_left 1; focus (intro w; go_simp; try with_reducible rfl)); try simp only [Act.put, List.getElem_toArray, List.getElem_cons_zero, List.getElem_cons_succ, List.setIfInBounds_toArray, List.set_cons_zero, List.set_cons_succ])
                ((refine wpAnyH_take (i := 8) (v := ?_) rfl (by kernel_rfl) (by kernel_rfl) (by kernel_rfl) (fun _ _ _ h => h) (Yields.yieldsIf (Or.inl ⟨by rfl, ?_⟩)) hHeld ?_; rotate_left 1; focus (intro w; go_simp; try with_reducible rfl)); try simp only [Act.put, List.getElem_toArray, List.getElem_cons_zero, List.getElem_cons_succ, List.setIfInBounds_toArray, List.set_cons_zero, List.set_cons_succ])
                ((refine wpAnyH_take (i := 9) (v := ?_) rfl (by kernel_rfl) (by kernel_rfl) (by kernel_rfl) (fun _ _ _ h => h) (Yields.yieldsIf (Or.inl ⟨by rfl, ?_⟩)) hHeld ?_; rotate_left 1; focus (intro w; go_simp; try with_reducible rfl)); try simp only [Act.put, List.getElem_toArray, List.getElem_cons_zero, List.getElem_cons_succ, List.setIfInBounds_toArray, List.set_cons_zero, List.set_cons_succ])
                ((refine wpAnyH_take (i := 10) (v := ?_) rfl (by kernel_rfl) (by kernel_rfl) (by kernel_rfl) (fun _ _ _ h => h) (Yields.yieldsIf (Or.inl ⟨by rfl, ?_⟩)) hHeld ?_; rotate_left 1; focus (intro w; go_simp; try with_reducible rfl)); try simp only [Act.put, List.getElem_toArray, List.getElem_cons_zero, List.getElem_cons_succ, List.setIfInBounds_toArray, List.set_cons_zero, List.set_cons_succ])
                ((refine wpAnyH_take (i := 11) (v := ?_) rfl (by kernel_rfl) (by kernel_rfl) (by kernel_rfl) (fun _ _ _ h => h) (Yields.yieldsIf (Or.inl ⟨by rfl, ?_⟩)) hHeld ?_; rotate_left 1; focus (intro w; go_simp; try with_reducible rfl)); try simp only [Act.put, List.getElem_toArray, List.getElem_cons_zero, List.getElem_cons_succ, List.setIfInBounds_toArray, List.set_cons_zero, List.set_cons_succ])
                ((refine wpAnyH_take (i := 12) (v := ?_) rfl (by kernel_rfl) (by kernel_rfl) (by kernel_rfl) (fun _ _ _ h => h) (Yields.yieldsIf (Or.inl ⟨by rfl, ?_⟩)) hHeld ?_; rotate_left 1; focus (intro w; go_simp; try with_reducible rfl)); try simp only [Act.put, List.getElem_toArray, List.getElem_cons_zero, List.getElem_cons_succ, List.setIfInBounds_toArray, List.set_cons_zero, List.set_cons_succ])
                ((refine wpAnyH_take (i := 13) (v := ?_) rfl (by kernel_rfl) (by kernel_rfl) (by kernel_rfl) (fun _ _ _ h => h) (Yields.yieldsIf (Or.inl ⟨by rfl, ?_⟩)) hHeld ?_; rotate_left 1; focus (intro w; go_simp; try with_reducible rfl)); try simp only [Act.put, List.getElem_toArray, List.getElem_cons_zero, List.getElem_cons_succ, List.setIfInBounds_toArray, List.set_cons_zero, List.set_cons_succ])
                ((refine wpAnyH_take (i := 14) (v := ?_) rfl (by kernel_rfl) (by kernel_rfl) (by kernel_rfl) (fun _ _ _ h => h) (Yields.yieldsIf (Or.inl ⟨by rfl, ?_⟩)) hHeld ?_; rotate_left 1; focus (intro w; go_simp; try with_reducible rfl)); try simp only [Act.put, List.getElem_toArray, List.getElem_cons_zero, List.getElem_cons_succ, List.setIfInBounds_toArray, List.set_cons_zero, List.set_cons_succ])
                ((refine wpAnyH_take (i := 15) (v := ?_) rfl (by kernel_rfl) (by kernel_rfl) (by kernel_rfl) (fun _ _ _ h => h) (Yields.yieldsIf (Or.inl ⟨by rfl, ?_⟩)) hHeld ?_; rotate_left 1; focus (intro w; go_simp; try with_reducible rfl)); try simp only [Act.put, List.getElem_toArray, List.getElem_cons_zero, List.getElem_cons_succ, List.setIfInBounds_toArray, List.set_cons_zero, List.set_cons_succ])
                ((refine wpAnyH_take (i := 16) (v := ?_) rfl (by kernel_rfl) (by kernel_rfl) (by kernel_rfl) (fun _ _ _ h => h) (Yields.yieldsIf (Or.inl ⟨by rfl, ?_⟩)) hHeld ?_; rotate_left 1; focus (intro w; go_simp; try with_reducible rfl)); try simp only [Act.put, List.getElem_toArray, List.getElem_cons_zero, List.getElem_cons_succ, List.setIfInBounds_toArray, List.set_cons_zero, List.set_cons_succ])
                ((refine wpAnyH_take (i := 17) (v := ?_) rfl (by kernel_rfl) (by kernel_rfl) (by kernel_rfl) (fun _ _ _ h => h) (Or.inl ⟨by rfl, ?_⟩) hHeld ?_; rotate_left 1; focus (intro w hS; obtain ⟨s0, s1⟩ := hS; go_simp; try with_reducible rfl)); try simp only [Act.put, List.getElem_toArray, List.getElem_cons_zero, List.getElem_cons_succ, List.setIfInBounds_toArray, List.set_cons_zero, List.set_cons_succ])
                ((refine wpAnyH_take (i := 18) (v := ?_) rfl (by kernel_rfl) (by kernel_rfl) (by kernel_rfl) (fun _ _ _ h => h) (Yields.yieldsIf (Or.inl ⟨by rfl, ?_⟩)) hHeld ?_; rotate_left 1; focus (intro w; go_simp; try with_reducible rfl)); try simp only [Act.put, List.getElem_toArray, List.getElem_cons_zero, List.getElem_cons_succ, List.setIfInBounds_toArray, List.set_cons_zero, List.set_cons_succ])
                ((refine wpAnyH_take (i := 19) (v := ?_) rfl (by kernel_rfl) (by kernel_rfl) (by kernel_rfl) (fun _ _ _ h => h) (Yields.yieldsIf (Or.inl ⟨by rfl, ?_⟩)) hHeld ?_; rotate_left 1; focus (intro w; go_simp; try with_reducible rfl)); try simp only [Act.put, List.getElem_toArray, List.getElem_cons_zero, List.getElem_cons_succ, List.setIfInBounds_toArray, List.set_cons_zero, List.set_cons_succ])
                ((refine wpAnyH_take (i := 20) (v := ?_) rfl (by kernel_rfl) (by kernel_rfl) (by kernel_rfl) (fun _ _ _ h => h) (Yields.yieldsIf (Or.inl ⟨by rfl, ?_⟩)) hHeld ?_; rotate_left 1; focus (intro w; go_simp; try with_reducible rfl)); try simp only [Act.put, List.getElem_toArray, List.getElem_cons_zero, List.getElem_cons_succ, List.setIfInBounds_toArray, List.set_cons_zero, List.set_cons_succ])
                ((refine wpAnyH_take (i := 21) (v := ?_) rfl (by kernel_rfl) (by kernel_rfl) (by kernel_rfl) (fun _ _ _ h => h) (Yields.yieldsIf (Or.inl ⟨by rfl, ?_⟩)) hHeld ?_; rotate_left 1; focus (intro w; go_simp; try with_reducible rfl)); try simp only [Act.put, List.getElem_toArray, List.getElem_cons_zero, List.getElem_cons_succ, List.setIfInBounds_toArray, List.set_cons_zero, List.set_cons_succ])
                ((refine wpAnyH_take (i := 22) (v := ?_) rfl (by kernel_rfl) (by kernel_rfl) (by kernel_rfl) (fun _ _ _ h => h) (Yields.yieldsIf (Or.inl ⟨by rfl, ?_⟩)) hHeld ?_; rotate_left 1; focus (intro w; go_simp; try with_reducible rfl)); try simp only [Act.put, List.getElem_toArray, List.getElem_cons_zero, List.getElem_cons_succ, List.setIfInBounds_toArray, List.set_cons_zero, List.set_cons_succ])
                ((refine wpAnyH_take (i := 23) (v := ?_) rfl (by kernel_rfl) (by kernel_rfl) (by kernel_rfl) (fun _ _ _ h => h) (Yields.yieldsIf (Or.inl ⟨by rfl, ?_⟩)) hHeld ?_; rotate_left 1; focus (intro w; go_simp; try with_reducible rfl)); try simp only [Act.put, List.getElem_toArray, List.getElem_cons_zero, List.getElem_cons_succ, List.setIfInBounds_toArray, List.set_cons_zero, List.set_cons_succ])
                ((refine wpAnyH_take (i := 24) (v := ?_) rfl (by kernel_rfl) (by kernel_rfl) (by kernel_rfl) (fun _ _ _ h => h) (Yields.yieldsIf (Or.inl ⟨by rfl, ?_⟩)) hHeld ?_; rotate_left 1; focus (intro w; go_simp; try with_reducible rfl)); try simp only [Act.put, List.getElem_toArray, List.getElem_cons_zero, List.getElem_cons_succ, List.setIfInBounds_toArray, List.set_cons_zero, List.set_cons_succ])
                ((refine wpAnyH_take (i := 25) (v := ?_) rfl (by kernel_rfl) (by kernel_rfl) (by kernel_rfl) (fun _ _ _ h => h) (Yields.yieldsIf (Or.inl ⟨by rfl, ?_⟩)) hHeld ?_; rotate_left 1; focus (intro w; go_simp; try with_reducible rfl)); try simp only [Act.put, List.getElem_toArray, List.getElem_cons_zero, List.getElem_cons_succ, List.setIfInBounds_toArray, List.set_cons_zero, List.set_cons_succ])
                ((refine wpAnyH_take (i := 26) (v := ?_) rfl (by kernel_rfl) (by kernel_rfl) (by kernel_rfl) (fun _ _ _ h => h) (Yields.yieldsIf (Or.inl ⟨by rfl, ?_⟩)) hHeld ?_; rotate_left 1; focus (intro w; go_simp; try with_reducible rfl)); try simp only [Act.put, List.getElem_toArray, List.getElem_cons_zero, List.getElem_cons_succ, List.setIfInBounds_toArray, List.set_cons_zero, List.set_cons_succ])
                ((refine wpAnyH_take (i := 27) (v := ?_) rfl (by kernel_rfl) (by kernel_rfl) (by kernel_rfl) (fun _ _ _ h => h) (Yields.yieldsIf (Or.inl ⟨by rfl, ?_⟩)) hHeld ?_; rotate_left 1; focus (intro w; go_simp; try with_reducible rfl)); try simp only [Act.put, List.getElem_toArray, List.getElem_cons_zero, List.getElem_cons_succ, List.setIfInBounds_toArray, List.set_cons_zero, List.set_cons_succ])
                (refine wpAnyH_take (i := 28) (v := undef) rfl (by kernel_rfl) (by kernel_rfl) (by kernel_rfl) (fun _ _ _ h => h) (Or.inr ⟨by rfl, rfl⟩) hHeld ?_; try simp only [Act.put, List.getElem_toArray, List.getElem_cons_zero, List.getElem_cons_succ, List.setIfInBounds_toArray, List.set_cons_zero, List.set_cons_succ])
                (refine wpAnyH_take (i := 29) (v := undef) rfl (by kernel_rfl) (by kernel_rfl) (by kernel_rfl) (fun _ _ _ h => h) (Or.inr ⟨by rfl, rfl⟩) hHeld ?_; try simp only [Act.put, List.getElem_toArray, List.getElem_cons_zero, List.getElem_cons_succ, List.setIfInBounds_toArray, List.set_cons_zero, List.set_cons_succ])
                (refine wpAnyH_take (i := 30) (v := undef) rfl (by kernel_rfl) (by kernel_rfl) (by kernel_rfl) (fun _ _ _ h => h) (Or.inr ⟨by rfl, rfl⟩) hHeld ?_; try simp only [Act.put, List.getElem_toArray, List.getElem_cons_zero, List.getElem_cons_succ, List.setIfInBounds_toArray, List.set_cons_zero, List.set_cons_succ])
                (refine wpAnyH_take (i := 31) (v := undef) rfl (by kernel_rfl) (by kernel_rfl) (by kernel_rfl) (fun _ _ _ h => h) (Or.inr ⟨by rfl, rfl⟩) hHeld ?_; try simp only [Act.put, List.getElem_toArray, List.getElem_cons_zero, List.getElem_cons_succ, List.setIfInBounds_toArray, List.set_cons_zero, List.set_cons_succ])
                ((refine wpAnyH_take (i := 32) (v := ?_) rfl (by kernel_rfl) (by kernel_rfl) (by kernel_rfl) (fun _ _ _ h => h) (Yields.yieldsIf (Or.inl ⟨by rfl, ?_⟩)) hHeld ?_; rotate_left 1; focus (intro w; go_simp; try with_reducible rfl)); try simp only [Act.put, List.getElem_toArray, List.getElem_cons_zero, List.getElem_cons_succ, List.setIfInBounds_toArray, List.set_cons_zero, List.set_cons_succ])
                ((refine wpAnyH_take (i := 33) (v := ?_) rfl (by kernel_rfl) (by kernel_rfl) (by kernel_rfl) (fun _ _ _ h => h) (Yields.yieldsIf (Or.inl ⟨by rfl, ?_⟩)) hHeld ?_; rotate_left 1; focus (intro w; go_simp; try with_reducible rfl)); try simp only [Act.put, List.getElem_toArray, List.getElem_cons_zero, List.getElem_cons_succ, List.setIfInBounds_toArray, List.set_cons_zero, List.set_cons_succ])
                ((refine wpAnyH_take (i := 34) (v := ?_) rfl (by kernel_rfl) (by kernel_rfl) (by kernel_rfl) (fun _ _ _ h => h) (Yields.yieldsIf (Or.inl ⟨by rfl, ?_⟩)) hHeld ?_; rotate_left 1; focus (intro w; go_simp; try with_reducible rfl)); try simp only [Act.put, List.getElem_toArray, List.getElem_cons_zero, List.getElem_cons_succ, List.setIfInBounds_toArray, List.set_cons_zero, List.set_cons_succ])
                ((refine wpAnyH_take (i := 35) (v := ?_) rfl (by kernel_rfl) (by kernel_rfl) (by kernel_rfl) (fun _ _ _ h => h) (Yields.yieldsIf (Or.inl ⟨by rfl, ?_⟩)) hHeld ?_; rotate_left 1; focus (intro w; go_simp; try with_reducible rfl)); try simp only [Act.put, List.getElem_toArray, List.getElem_cons_zero, List.getElem_cons_succ, List.setIfInBounds_toArray, List.set_cons_zero, List.set_cons_succ])
                ((refine wpAnyH_take (i := 36) (v := ?_) rfl (by kernel_rfl) (by kernel_rfl) (by kernel_rfl) (fun _ _ _ h => h) (Yields.yieldsIf (Or.inl ⟨by rfl, ?_⟩)) hHeld ?_; rotate_left 1; focus (intro w; go_simp; try with_reducible rfl)); try simp only [Act.put, List.getElem_toArray, List.getElem_cons_zero, List.getElem_cons_succ, List.setIfInBounds_toArray, List.set_cons_zero, List.set_cons_succ])
                ((refine wpAnyH_take (i := 37) (v := ?_) rfl (by kernel_rfl) (by kernel_rfl) (by kernel_rfl) (fun _ _ _ h => h) (Yields.yieldsIf (Or.inl ⟨by rfl, ?_⟩)) hHeld ?_; rotate_left 1; focus (intro w; go_simp; try with_reducible rfl)); try simp only [Act.put, List.getElem_toArray, List.getElem_cons_zero, List.getElem_cons_succ, List.setIfInBounds_toArray, List.set_cons_zero, List.set_cons_succ])
                ((refine wpAnyH_take (i := 38) (v := ?_) rfl (by kernel_rfl) (by kernel_rfl) (by kernel_rfl) (fun _ _ _ h => h) (Yields.yieldsIf (Or.inl ⟨by rfl, ?_⟩)) hHeld ?_; rotate_left 1; focus (intro w; go_simp; try with_reducible rfl)); try simp only [Act.put, List.getElem_toArray, List.getElem_cons_zero, List.getElem_cons_succ, List.setIfInBounds_toArray, List.set_cons_zero, List.set_cons_succ])
                ((refine wpAnyH_take (i := 39) (v := ?_) rfl (by kernel_rfl) (by kernel_rfl) (by kernel_rfl) (fun _ _ _ h => h) (Or.inl ⟨by rfl, ?_⟩) hHeld ?_; rotate_left 1; focus (intro w hS; obtain ⟨s0, s1⟩ := hS; go_simp; try with_reducible rfl)); try simp only [Act.put, List.getElem_toArray, List.getElem_cons_zero, List.getElem_cons_succ, List.setIfInBounds_toArray, List.set_cons_zero, List.set_cons_succ])
                ((refine wpAnyH_ready (rs := [40]) (by kernel_rfl) (by simp) ?_; refine AllReadyH.cons rfl (fun K hK => ?_) AllReadyH.nil; go_simp; refine Calls.mono (HF1.out _ (by first | exact HP4.out | exact HP4.out.drew)) ?_; rintro e w' ⟨rfl, rfl⟩; refine hK.out _ _ ?_ (fun hHeld => ?_); (· exact ⟨y0, y1⟩); clear hK K); try simp only [Act.put, List.getElem_toArray, List.getElem_cons_zero, List.getElem_cons_succ, List.setIfInBounds_toArray, List.set_cons_zero, List.set_cons_succ])
                ((refine wpAnyH_take (i := 41) (v := ?_) rfl (by kernel_rfl) (by kernel_rfl) (by kernel_rfl) (fun _ _ _ h => h) (Yields.yieldsIf (Or.inl ⟨by rfl, ?_⟩)) hHeld ?_; rotate_left 1; focus (intro w; go_simp; try with_reducible rfl)); try simp only [Act.put, List.getElem_toArray, List.getElem_cons_zero, List.getElem_cons_succ, List.setIfInBounds_toArray, List.set_cons_zero, List.set_cons_succ])
                ((refine wpAnyH_take (i := 42) (v := ?_) rfl (by kernel_rfl) (by kernel_rfl) (by kernel_rfl) (fun _ _ _ h => h) (Yields.yieldsIf (Or.inl ⟨by rfl, ?_⟩)) hHeld ?_; rotate_left 1; focus (intro w; go_simp; try with_reducible rfl)); try simp only [Act.put, List.getElem_toArray, List.getElem_cons_zero, List.getElem_cons_succ, List.setIfInBounds_toArray, List.set_cons_zero, List.set_cons_succ])
                ((refine wpAnyH_take (i := 43) (v := ?_) rfl (by kernel_rfl) (by kernel_rfl) (by kernel_rfl) (fun _ _ _ h => h) (Yields.yieldsIf (Or.inl ⟨by rfl, ?_⟩)) hHeld ?_; rotate_left 1; focus (intro w; go_simp; try with_reducible rfl)); try simp only [Act.put, List.getElem_toArray, List.getElem_cons_zero, List.getElem_cons_succ, List.setIfInBounds_toArray, List.set_cons_zero, List.set_cons_succ])
                ((refine wpAnyH_take (i := 44) (v := ?_) rfl (by kernel_rfl) (by kernel_rfl) (by kernel_rfl) (fun _ _ _ h => h) (Yields.yieldsIf (Or.inl ⟨by rfl, ?_⟩)) hHeld ?_; rotate_left 1; focus (intro w; go_simp; try with_reducible rfl)); try simp only [Act.put, List.getElem_toArray, List.getElem_cons_zero, List.getElem_cons_succ, List.setIfInBounds_toArray, List.set_cons_zero, List.set_cons_succ])
                ((refine wpAnyH_take (i := 45) (v := ?_) rfl (by kernel_rfl) (by kernel_rfl) (by kernel_rfl) (fun _ _ _ h => h) (Yields.yieldsIf (Or.inl ⟨by rfl, ?_⟩)) hHeld ?_; rotate_left 1; focus (intro w; go_simp; try with_reducible rfl)); try simp only [Act.put, List.getElem_toArray, List.getElem_cons_zero, List.getElem_cons_succ, List.setIfInBounds_toArray, List.set_cons_zero, List.set_cons_succ])
                ((refine wpAnyH_take (i := 46) (v := ?_) rfl (by kernel_rfl) (by kernel_rfl) (by kernel_rfl) (fun _ _ _ h => h) (Or.inl ⟨by rfl, ?_⟩) hHeld ?_; rotate_left 1; focus (intro w hS; obtain ⟨s0, s1⟩ := hS; go_simp; try with_reducible rfl)); try simp only [Act.put, List.getElem_toArray, List.getElem_cons_zero, List.getElem_cons_succ, List.setIfInBounds_toArray, List.set_cons_zero, List.set_cons_succ])
                ((refine wpAnyH_ready (rs := [47]) (by kernel_rfl) (by simp) ?_; refine AllReadyH.cons rfl (fun K hK => ?_) AllReadyH.nil; go_simp; refine Calls.mono (HF2.out _ (by first | exact HP4.out | exact HP4.out.drew)) ?_; rintro e w' ⟨rfl, rfl⟩; refine hK.out _ _ ?_ (fun hHeld => ?_); (· exact ⟨y0, y1⟩); clear hK K); try simp only [Act.put, List.getElem_toArray, List.getElem_cons_zero, List.getElem_cons_succ, List.setIfInBounds_toArray, List.set_cons_zero, List.set_cons_succ])
                ((refine wpAnyH_take (i := 48) (v := ?_) rfl (by kernel_rfl) (by kernel_rfl) (by kernel_rfl) (fun _ _ _ h => h) (Yields.yieldsIf (Or.inl ⟨by rfl, ?_⟩)) hHeld ?_; rotate_left 1; focus (intro w; go_simp; try with_reducible rfl)); try simp only [Act.put, List.getElem_toArray, List.getElem_cons_zero, List.getElem_cons_succ, List.setIfInBounds_toArray, List.set_cons_zero, List.set_cons_succ])
                ((refine wpAnyH_take (i := 49) (v := ?_) rfl (by kernel_rfl) (by kernel_rfl) (by kernel_rfl) (fun _ _ _ h => h) (Yields.yieldsIf (Or.inl ⟨by rfl, ?_⟩)) hHeld ?_; rotate_left 1; focus (intro w; go_simp; try with_reducible rfl)); try simp only [Act.put, List.getElem_toArray, List.getElem_cons_zero, List.getElem_cons_succ, List.setIfInBounds_toArray, List.set_cons_zero, List.set_cons_succ])
                refine wpAnyH_done (by kernel_rfl) ?_ _
                clear hHeld
                go_wp2
                go_roundw
                case rel => exact ⟨j + 1, by go_num, hlt3, by first | exact HP4.out | exact HP4.out.drew⟩
                case measure => simp [intOf]; omega
              · have hjm' : ¬ (j : Int) < (m1 : Int) := by omega
                have c_3 : ¬ (j : Int) < (m1 : Int) := by omega
                have hd1 := hp2 (by omega)
                have c_4 : ¬ (x.dl : Int) ≤ (one : Int) := by omega
                have c_5 : (m1 : Int) ≤ (j : Int) := by omega
                have c_6 : m1 ≤ j := by omega
                have n_2 : ¬ two < x.dl := by omega
                have n_3 : ¬ x.dl ≤ now := by omega
                have n_4 : ¬ x.dl ≤ one := by omega
                have n_5 : j ≤ c3 := by omega
                have k_1 : decide (m1 ≤ j) = true := decide_eq_true (by omega)
                have k_2 : decide (j < m1) = false := decide_eq_false hjm
                have k_3 : decide (two < x.dl) = false := decide_eq_false (by omega)
                have k_4 : decide (x.dl ≤ now) = false := decide_eq_false (by omega)
                have k_5 : decide (x.dl ≤ one) = false := decide_eq_false (by omega)
                clear hp1 hp2
                refine wp_region_held_drew (S := fun w' => w'.cell? ⟨b21, 0, none⟩ = some (.int .u32 x.slot) ∧ w'.cell? ⟨b21, 1, none⟩ = some (.int .u64 x.dl)) (by kernel_rfl) ⟨y0, y1⟩ (fun hHeld => ?_)
                ((refine wpAnyH_take (i := 0) (v := ?_) rfl (by kernel_rfl) (by kernel_rfl) (by kernel_rfl) (fun _ _ _ h => h) (Yields.yieldsIf (Or.inl ⟨by rfl, ?_⟩)) hHeld ?_; rotate_left 1; focus (intro w; go_simp; try with_reducible rfl)); try simp only [Act.put, List.getElem_toArray, List.getElem_cons_zero, List.getElem_cons_succ, List.setIfInBounds_toArray, List.set_cons_zero, List.set_cons_succ])
                ((refine wpAnyH_take (i := 1) (v := ?_) rfl (by kernel_rfl) (by kernel_rfl) (by kernel_rfl) (fun _ _ _ h => h) (Or.inl ⟨by rfl, ?_⟩) hHeld ?_; rotate_left 1; focus (intro w hS; obtain ⟨s0, s1⟩ := hS; go_simp; try with_reducible rfl)); try simp only [Act.put, List.getElem_toArray, List.getElem_cons_zero, List.getElem_cons_succ, List.setIfInBounds_toArray, List.set_cons_zero, List.set_cons_succ])
                ((refine wpAnyH_take (i := 2) (v := ?_) rfl (by kernel_rfl) (by kernel_rfl) (by kernel_rfl) (fun _ _ _ h => h) (Yields.yieldsIf (Or.inl ⟨by rfl, ?_⟩)) hHeld ?_; rotate_left 1; focus (intro w; go_simp; try with_reducible rfl)); try simp only [Act.put, List.getElem_toArray, List.getElem_cons_zero, List.getElem_cons_succ, List.setIfInBounds_toArray, List.set_cons_zero, List.set_cons_succ])
                ((refine wpAnyH_take (i := 3) (v := ?_) rfl (by kernel_rfl) (by kernel_rfl) (by kernel_rfl) (fun _ _ _ h => h) (Yields.yieldsIf (Or.inl ⟨by rfl, ?_⟩)) hHeld ?_; rotate_left 1; focus (intro w; go_simp; try with_reducible rfl)); try simp only [Act.put, List.getElem_toArray, List.getElem_cons_zero, List.getElem_cons_succ, List.setIfInBounds_toArray, List.set_cons_zero, List.set_cons_succ])
                ((refine wpAnyH_take (i := 4) (v := ?_) rfl (by kernel_rfl) (by kernel_rfl) (by kernel_rfl) (fun _ _ _ h => h) (Yields.yieldsIf (Or.inl ⟨by rfl, ?_⟩)) hHeld ?_; rotate_left 1; focus (intro w; go_simp; try with_reducible rfl)); try simp only [Act.put, List.getElem_toArray, List.getElem_cons_zero, List.getElem_cons_succ, List.setIfInBounds_toArray, List.set_cons_zero, List.set_cons_succ])
                ((refine wpAnyH_take (i := 5) (v := ?_) rfl (by kernel_rfl) (by kernel_rfl) (by kernel_rfl) (fun _ _ _ h => h) (Yields.yieldsIf (Or.inl ⟨by rfl, ?_⟩)) hHeld ?_; rotate_left 1; focus (intro w; go_simp; try with_reducible rfl)); try simp only [Act.put, List.getElem_toArray, List.getElem_cons_zero, List.getElem_cons_succ, List.setIfInBounds_toArray, List.set_cons_zero, List.set_cons_succ])
                ((refine wpAnyH_take (i := 6) (v := ?_) rfl (by kernel_rfl) (by kernel_rfl) (by kernel_rfl) (fun _ _ _ h => h) (Or.inl ⟨by rfl, ?_⟩) hHeld ?_; rotate_left 1; focus (intro w hS; obtain ⟨s0, s1⟩ := hS; go_simp; try with_reducible rfl)); try simp only [Act.put, List.getElem_toArray, List.getElem_cons_zero, List.getElem_cons_succ, List.setIfInBounds_toArray, List.set_cons_zero, List.set_cons_succ])
                ((refine wpAnyH_take (i := 7) (v := ?_) rfl (by kernel_rfl) (by kernel_rfl) (by kernel_rfl) (fun _ _ _ h => h) (Yields.yieldsIf (Or.inl ⟨by rfl, ?_⟩)) hHeld ?_; rotate_left 1; focus (intro w; go_simp; try with_reducible rfl)); try simp only [Act.put, List.getElem_toArray, List.getElem_cons_zero, List.getElem_cons_succ, List.setIfInBounds_toArray, List.set_cons_zero, List.set_cons_succ])
                ((refine wpAnyH_take (i := 8) (v := ?_) rfl (by kernel_rfl) (by kernel_rfl) (by kernel_rfl) (fun _ _ _ h => h) (Yields.yieldsIf (Or.inl ⟨by rfl, ?_⟩)) hHeld ?_; rotate_left 1; focus (intro w; go_simp; try with_reducible rfl)); try simp only [Act.put, List.getElem_toArray, List.getElem_cons_zero, List.getElem_cons_succ, List.setIfInBounds_toArray, List.set_cons_zero, List.set_cons_succ])
                ((refine wpAnyH_take (i := 9) (v := ?_) rfl (by kernel_rfl) (by kernel_rfl) (by kernel_rfl) (fun _ _ _ h => h) (Yields.yieldsIf (Or.inl ⟨by rfl, ?_⟩)) hHeld ?_; rotate_left 1; focus (intro w; go_simp; try with_reducible rfl)); try simp only [Act.put, List.getElem_toArray, List.getElem_cons_zero, List.getElem_cons_succ, List.setIfInBounds_toArray, List.set_cons_zero, List.set_cons_succ])
                ((refine wpAnyH_take (i := 10) (v := ?_) rfl (by kernel_rfl) (by kernel_rfl) (by kernel_rfl) (fun _ _ _ h => h) (Yields.yieldsIf (Or.inl ⟨by rfl, ?_⟩)) hHeld ?_; rotate_left 1; focus (intro w; go_simp; try with_reducible rfl)); try simp only [Act.put, List.getElem_toArray, List.getElem_cons_zero, List.getElem_cons_succ, List.setIfInBounds_toArray, List.set_cons_zero, List.set_cons_succ])
                ((refine wpAnyH_take (i := 11) (v := ?_) rfl (by kernel_rfl) (by kernel_rfl) (by kernel_rfl) (fun _ _ _ h => h) (Yields.yieldsIf (Or.inl ⟨by rfl, ?_⟩)) hHeld ?_; rotate_left 1; focus (intro w; go_simp; try with_reducible rfl)); try simp only [Act.put, List.getElem_toArray, List.getElem_cons_zero, List.getElem_cons_succ, List.setIfInBounds_toArray, List.set_cons_zero, List.set_cons_succ])
                ((refine wpAnyH_take (i := 12) (v := ?_) rfl (by kernel_rfl) (by kernel_rfl) (by kernel_rfl) (fun _ _ _ h => h) (Yields.yieldsIf (Or.inl ⟨by rfl, ?_⟩)) hHeld ?_; rotate_left 1; focus (intro w; go_simp; try with_reducible rfl)); try simp only [Act.put, List.getElem_toArray, List.getElem_cons_zero, List.getElem_cons_succ, List.setIfInBounds_toArray, List.set_cons_zero, List.set_cons_succ])
                ((refine wpAnyH_take (i := 13) (v := ?_) rfl (by kernel_rfl) (by kernel_rfl) (by kernel_rfl) (fun _ _ _ h => h) (Yields.yieldsIf (Or.inl ⟨by rfl, ?_⟩)) hHeld ?_; rotate_left 1; focus (intro w; go_simp; try with_reducible rfl)); try simp only [Act.put, List.getElem_toArray, List.getElem_cons_zero, List.getElem_cons_succ, List.setIfInBounds_toArray, List.set_cons_zero, List.set_cons_succ])
                ((refine wpAnyH_take (i := 14) (v := ?_) rfl (by kernel_rfl) (by kernel_rfl) (by kernel_rfl) (fun _ _ _ h => h) (Yields.yieldsIf (Or.inl ⟨by rfl, ?_⟩)) hHeld ?_; rotate_left 1; focus (intro w; go_simp; try with_reducible rfl)); try simp only [Act.put, List.getElem_toArray, List.getElem_cons_zero, List.getElem_cons_succ, List.setIfInBounds_toArray, List.set_cons_zero, List.set_cons_succ])
                ((refine wpAnyH_take (i := 15) (v := ?_) rfl (by kernel_rfl) (by kernel_rfl) (by kernel_rfl) (fun _ _ _ h => h) (Yields.yieldsIf (Or.inl ⟨by rfl, ?_⟩)) hHeld ?_; rotate_left 1; focus (intro w; go_simp; try with_reducible rfl)); try simp only [Act.put, List.getElem_toArray, List.getElem_cons_zero, List.getElem_cons_succ, List.setIfInBounds_toArray, List.set_cons_zero, List.set_cons_succ])
                (refine wpAnyH_take (i := 16) (v := undef) rfl (by kernel_rfl) (by kernel_rfl) (by kernel_rfl) (fun _ _ _ h => h) (Or.inr ⟨by rfl, rfl⟩) hHeld ?_; try simp only [Act.put, List.getElem_toArray, List.getElem_cons_zero, List.getElem_cons_succ, List.setIfInBounds_toArray, List.set_cons_zero, List.set_cons_succ])
                (refine wpAnyH_take (i := 17) (v := undef) rfl (by kernel_rfl) (by kernel_rfl) (by kernel_rfl) (fun _ _ _ h => h) (Or.inr ⟨by rfl, rfl⟩) hHeld ?_; try simp only [Act.put, List.getElem_toArray, List.getElem_cons_zero, List.getElem_cons_succ, List.setIfInBounds_toArray, List.set_cons_zero, List.set_cons_succ])
                (refine wpAnyH_take (i := 18) (v := undef) rfl (by kernel_rfl) (by kernel_rfl) (by kernel_rfl) (fun _ _ _ h => h) (Or.inr ⟨by rfl, rfl⟩) hHeld ?_; try simp only [Act.put, List.getElem_toArray, List.getElem_cons_zero, List.getElem_cons_succ, List.setIfInBounds_toArray, List.set_cons_zero, List.set_cons_succ])
                (refine wpAnyH_take (i := 19) (v := undef) rfl (by kernel_rfl) (by kernel_rfl) (by kernel_rfl) (fun _ _ _ h => h) (Or.inr ⟨by rfl, rfl⟩) hHeld ?_; try simp only [Act.put, List.getElem_toArray, List.getElem_cons_zero, List.getElem_cons_succ, List.setIfInBounds_toArray, List.set_cons_zero, List.set_cons_succ])
                ((refine wpAnyH_take (i := 20) (v := ?_) rfl (by kernel_rfl) (by kernel_rfl) (by kernel_rfl) (fun _ _ _ h => h) (Yields.yieldsIf (Or.inl ⟨by rfl, ?_⟩)) hHeld ?_; rotate_left 1; focus (intro w; go_simp; try with_reducible rfl)); try simp only [Act.put, List.getElem_toArray, List.getElem_cons_zero, List.getElem_cons_succ, List.setIfInBounds_toArray, List.set_cons_zero, List.set_cons_succ])
                ((refine wpAnyH_take (i := 21) (v := ?_) rfl (by kernel_rfl) (by kernel_rfl) (by kernel_rfl) (fun _ _ _ h => h) (Yields.yieldsIf (Or.inl ⟨by rfl, ?_⟩)) hHeld ?_; rotate_left 1; focus (intro w; go_simp; try with_reducible rfl)); try simp only [Act.put, List.getElem_toArray, List.getElem_cons_zero, List.getElem_cons_succ, List.setIfInBounds_toArray, List.set_cons_zero, List.set_cons_succ])
                ((refine wpAnyH_take (i := 22) (v := ?_) rfl (by kernel_rfl) (by kernel_rfl) (by kernel_rfl) (fun _ _ _ h => h) (Yields.yieldsIf (Or.inl ⟨by rfl, ?_⟩)) hHeld ?_; rotate_left 1; focus (intro w; go_simp; try with_reducible rfl)); try simp only [Act.put, List.getElem_toArray, List.getElem_cons_zero, List.getElem_cons_succ, List.setIfInBounds_toArray, List.set_cons_zero, List.set_cons_succ])
                ((refine wpAnyH_take (i := 23) (v := ?_) rfl (by kernel_rfl) (by kernel_rfl) (by kernel_rfl) (fun _ _ _ h => h) (Yields.yieldsIf (Or.inl ⟨by rfl, ?_⟩)) hHeld ?_; rotate_left 1; focus (intro w; go_simp; try with_reducible rfl)); try simp only [Act.put, List.getElem_toArray, List.getElem_cons_zero, List.getElem_cons_succ, List.setIfInBounds_toArray, List.set_cons_zero, List.set_cons_succ])
                ((refine wpAnyH_take (i := 24) (v := ?_) rfl (by kernel_rfl) (by kernel_rfl) (by kernel_rfl) (fun _ _ _ h => h) (Yields.yieldsIf (Or.inl ⟨by rfl, ?_⟩)) hHeld ?_; rotate_left 1; focus (intro w; go_simp; try with_reducible rfl)); try simp only [Act.put, List.getElem_toArray, List.getElem_cons_zero, List.getElem_cons_succ, List.setIfInBounds_toArray, List.set_cons_zero, List.set_cons_succ])
                ((refine wpAnyH_take (i := 25) (v := ?_) rfl (by kernel_rfl) (by kernel_rfl) (by kernel_rfl) (fun _ _ _ h => h) (Yields.yieldsIf (Or.inl ⟨by rfl, ?_⟩)) hHeld ?_; rotate_left 1; focus (intro w; go_simp; try with_reducible rfl)); try simp only [Act.put, List.getElem_toArray, List.getElem_cons_zero, List.getElem_cons_succ, List.setIfInBounds_toArray, List.set_cons_zero, List.set_cons_succ])
                ((refine wpAnyH_take (i := 26) (v := ?_) rfl (by kernel_rfl) (by kernel_rfl) (by kernel_rfl) (fun _ _ _ h => h) (Yields.yieldsIf (Or.inl ⟨by rfl, ?_⟩)) hHeld ?_; rotate_left 1; focus (intro w; go_simp; try with_reducible rfl)); try simp only [Act.put, List.getElem_toArray, List.getElem_cons_zero, List.getElem_cons_succ, List.setIfInBounds_toArray, List.set_cons_zero, List.set_cons_succ])
                ((refine wpAnyH_take (i := 27) (v := ?_) rfl (by kernel_rfl) (by kernel_rfl) (by kernel_rfl) (fun _ _ _ h => h) (Yields.yieldsIf (Or.inl ⟨by rfl, ?_⟩)) hHeld ?_; rotate_left 1; focus (intro w; go_simp; try with_reducible rfl)); try simp only [Act.put, List.getElem_toArray, List.getElem_cons_zero, List.getElem_cons_succ, List.setIfInBounds_toArray, List.set_cons_zero, List.set_cons_succ])
                ((refine wpAnyH_take (i := 28) (v := ?_) rfl (by kernel_rfl) (by kernel_rfl) (by kernel_rfl) (fun _ _ _ h => h) (Yields.yieldsIf (Or.inl ⟨by rfl, ?_⟩)) hHeld ?_; rotate_left 1; focus (intro w; go_simp; try with_reducible rfl)); try simp only [Act.put, List.getElem_toArray, List.getElem_cons_zero, List.getElem_cons_succ, List.setIfInBounds_toArray, List.set_cons_zero, List.set_cons_succ])
                ((refine wpAnyH_take (i := 29) (v := ?_) rfl (by kernel_rfl) (by kernel_rfl) (by kernel_rfl) (fun _ _ _ h => h) (Or.inl ⟨by rfl, ?_⟩) hHeld ?_; rotate_left 1; focus (intro w hS; obtain ⟨s0, s1⟩ := hS; go_simp; try with_reducible rfl)); try simp only [Act.put, List.getElem_toArray, List.getElem_cons_zero, List.getElem_cons_succ, List.setIfInBounds_toArray, List.set_cons_zero, List.set_cons_succ])
                ((refine wpAnyH_take (i := 30) (v := ?_) rfl (by kernel_rfl) (by kernel_rfl) (by kernel_rfl) (fun _ _ _ h => h) (Yields.yieldsIf (Or.inl ⟨by rfl, ?_⟩)) hHeld ?_; rotate_left 1; focus (intro w; go_simp; try with_reducible rfl)); try simp only [Act.put, List.getElem_toArray, List.getElem_cons_zero, List.getElem_cons_succ, List.setIfInBounds_toArray, List.set_cons_zero, List.set_cons_succ])
                ((refine wpAnyH_take (i := 31) (v := ?_) rfl (by kernel_rfl) (by kernel_rfl) (by kernel_rfl) (fun _ _ _ h => h) (Yields.yieldsIf (Or.inl ⟨by rfl, ?_⟩)) hHeld ?_; rotate_left 1; focus (intro w; go_simp; try with_reducible rfl)); try simp only [Act.put, List.getElem_toArray, List.getElem_cons_zero, List.getElem_cons_succ, List.setIfInBounds_toArray, List.set_cons_zero, List.set_cons_succ])
                ((refine wpAnyH_take (i := 32) (v := ?_) rfl (by kernel_rfl) (by kernel_rfl) (by kernel_rfl) (fun _ _ _ h => h) (Yields.yieldsIf (Or.inl ⟨by rfl, ?_⟩)) hHeld ?_; rotate_left 1; focus (intro w; go_simp; try with_reducible rfl)); try simp only [Act.put, List.getElem_toArray, List.getElem_cons_zero, List.getElem_cons_succ, List.setIfInBounds_toArray, List.set_cons_zero, List.set_cons_succ])
                ((refine wpAnyH_take (i := 33) (v := ?_) rfl (by kernel_rfl) (by kernel_rfl) (by kernel_rfl) (fun _ _ _ h => h) (Yields.yieldsIf (Or.inl ⟨by rfl, ?_⟩)) hHeld ?_; rotate_left 1; focus (intro w; go_simp; try with_reducible rfl)); try simp only [Act.put, List.getElem_toArray, List.getElem_cons_zero, List.getElem_cons_succ, List.setIfInBounds_toArray, List.set_cons_zero, List.set_cons_succ])
                ((refine wpAnyH_take (i := 34) (v := ?_) rfl (by kernel_rfl) (by kernel_rfl) (by kernel_rfl) (fun _ _ _ h => h) (Yields.yieldsIf (Or.inl ⟨by rfl, ?_⟩)) hHeld ?_; rotate_left 1; focus (intro w; go_simp; try with_reducible rfl)); try simp only [Act.put, List.getElem_toArray, List.getElem_cons_zero, List.getElem_cons_succ, List.setIfInBounds_toArray, List.set_cons_zero, List.set_cons_succ])
                ((refine wpAnyH_take (i := 35) (v := ?_) rfl (by kernel_rfl) (by kernel_rfl) (by kernel_rfl) (fun _ _ _ h => h) (Yields.yieldsIf (Or.inl ⟨by rfl, ?_⟩)) hHeld ?_; rotate_left 1; focus (intro w; go_simp; try with_reducible rfl)); try simp only [Act.put, List.getElem_toArray, List.getElem_cons_zero, List.getElem_cons_succ, List.setIfInBounds_toArray, List.set_cons_zero, List.set_cons_succ])
                ((refine wpAnyH_take (i := 36) (v := ?_) rfl (by kernel_rfl) (by kernel_rfl) (by kernel_rfl) (fun _ _ _ h => h) (Yields.yieldsIf (Or.inl ⟨by rfl, ?_⟩)) hHeld ?_; rotate_left 1; focus (intro w; go_simp; try with_reducible rfl)); try simp only [Act.put, List.getElem_toArray, List.getElem_cons_zero, List.getElem_cons_succ, List.setIfInBounds_toArray, List.set_cons_zero, List.set_cons_succ])
                ((refine wpAnyH_take (i := 37) (v := ?_) rfl (by kernel_rfl) (by kernel_rfl) (by kernel_rfl) (fun _ _ _ h => h) (Yields.yieldsIf (Or.inl ⟨by rfl, ?_⟩)) hHeld ?_; rotate_left 1; focus (intro w; go_simp; try with_reducible rfl)); try simp only [Act.put, List.getElem_toArray, List.getElem_cons_zero, List.getElem_cons_succ, List.setIfInBounds_toArray, List.set_cons_zero, List.set_cons_succ])
                ((refine wpAnyH_take (i := 38) (v := ?_) rfl (by kernel_rfl) (by kernel_rfl) (by kernel_rfl) (fun _ _ _ h => h) (Yields.yieldsIf (Or.inl ⟨by rfl, ?_⟩)) hHeld ?_; rotate_left 1; focus (intro w; go_simp; try with_reducible rfl)); try simp only [Act.put, List.getElem_toArray, List.getElem_cons_zero, List.getElem_cons_succ, List.setIfInBounds_toArray, List.set_cons_zero, List.set_cons_succ])
                ((refine wpAnyH_take (i := 39) (v := ?_) rfl (by kernel_rfl) (by kernel_rfl) (by kernel_rfl) (fun _ _ _ h => h) (Or.inl ⟨by rfl, ?_⟩) hHeld ?_; rotate_left 1; focus (intro w hS; obtain ⟨s0, s1⟩ := hS; go_simp; try with_reducible rfl)); try simp only [Act.put, List.getElem_toArray, List.getElem_cons_zero, List.getElem_cons_succ, List.setIfInBounds_toArray, List.set_cons_zero, List.set_cons_succ])
                ((refine wpAnyH_ready (rs := [40]) (by kernel_rfl) (by simp) ?_; refine AllReadyH.cons rfl (fun K hK => ?_) AllReadyH.nil; go_simp; refine Calls.mono (HF1.out _ (by first | exact HP4.out | exact HP4.out.drew)) ?_; rintro e w' ⟨rfl, rfl⟩; refine hK.out _ _ ?_ (fun hHeld => ?_); (· exact ⟨y0, y1⟩); clear hK K); try simp only [Act.put, List.getElem_toArray, List.getElem_cons_zero, List.getElem_cons_succ, List.setIfInBounds_toArray, List.set_cons_zero, List.set_cons_succ])
                ((refine wpAnyH_take (i := 41) (v := ?_) rfl (by kernel_rfl) (by kernel_rfl) (by kernel_rfl) (fun _ _ _ h => h) (Yields.yieldsIf (Or.inl ⟨by rfl, ?_⟩)) hHeld ?_; rotate_left 1; focus (intro w; go_simp; try with_reducible rfl)); try simp only [Act.put, List.getElem_toArray, List.getElem_cons_zero, List.getElem_cons_succ, List.setIfInBounds_toArray, List.set_cons_zero, List.set_cons_succ])
                ((refine wpAnyH_take (i := 42) (v := ?_) rfl (by kernel_rfl) (by kernel_rfl) (by kernel_rfl) (fun _ _ _ h => h) (Yields.yieldsIf (Or.inl ⟨by rfl, ?_⟩)) hHeld ?_; rotate_left 1; focus (intro w; go_simp; try with_reducible rfl)); try simp only [Act.put, List.getElem_toArray, List.getElem_cons_zero, List.getElem_cons_succ, List.setIfInBounds_toArray, List.set_cons_zero, List.set_cons_succ])
                ((refine wpAnyH_take (i := 43) (v := ?_) rfl (by kernel_rfl) (by kernel_rfl) (by kernel_rfl) (fun _ _ _ h => h) (Yields.yieldsIf (Or.inl ⟨by rfl, ?_⟩)) hHeld ?_; rotate_left 1; focus (intro w; go_simp; try with_reducible rfl)); try simp only [Act.put, List.getElem_toArray, List.getElem_cons_zero, List.getElem_cons_succ, List.setIfInBounds_toArray, List.set_cons_zero, List.set_cons_succ])
                ((refine wpAnyH_take (i := 44) (v := ?_) rfl (by kernel_rfl) (by kernel_rfl) (by kernel_rfl) (fun _ _ _ h => h) (Yields.yieldsIf (Or.inl ⟨by rfl, ?_⟩)) hHeld ?_; rotate_left 1; focus (intro w; go_simp; try with_reducible rfl)); try simp only [Act.put, List.getElem_toArray, List.getElem_cons_zero, List.getElem_cons_succ, List.setIfInBounds_toArray, List.set_cons_zero, List.set_cons_succ])
                ((refine wpAnyH_take (i := 45) (v := ?_) rfl (by kernel_rfl) (by kernel_rfl) (by kernel_rfl) (fun _ _ _ h => h) (Yields.yieldsIf (Or.inl ⟨by rfl, ?_⟩)) hHeld ?_; rotate_left 1; focus (intro w; go_simp; try with_reducible rfl)); try simp only [Act.put, List.getElem_toArray, List.getElem_cons_zero, List.getElem_cons_succ, List.setIfInBounds_toArray, List.set_cons_zero, List.set_cons_succ])
                ((refine wpAnyH_take (i := 46) (v := ?_) rfl (by kernel_rfl) (by kernel_rfl) (by kernel_rfl) (fun _ _ _ h => h) (Or.inl ⟨by rfl, ?_⟩) hHeld ?_; rotate_left 1; focus (intro w hS; obtain ⟨s0, s1⟩ := hS; go_simp; try with_reducible rfl)); try simp only [Act.put, List.getElem_toArray, List.getElem_cons_zero, List.getElem_cons_succ, List.setIfInBounds_toArray, List.set_cons_zero, List.set_cons_succ])
                ((refine wpAnyH_ready (rs := [47]) (by kernel_rfl) (by simp) ?_; refine AllReadyH.cons rfl (fun K hK => ?_) AllReadyH.nil; go_simp; refine Calls.mono (HF2.out _ (by first | exact HP4.out | exact HP4.out.drew)) ?_; rintro e w' ⟨rfl, rfl⟩; refine hK.out _ _ ?_ (fun hHeld => ?_); (· exact ⟨y0, y1⟩); clear hK K); try simp only [Act.put, List.getElem_toArray, List.getElem_cons_zero, List.getElem_cons_succ, List.setIfInBounds_toArray, List.set_cons_zero, List.set_cons_succ])
                ((refine wpAnyH_take (i := 48) (v := ?_) rfl (by kernel_rfl) (by kernel_rfl) (by kernel_rfl) (fun _ _ _ h => h) (Yields.yieldsIf (Or.inl ⟨by rfl, ?_⟩)) hHeld ?_; rotate_left 1; focus (intro w; go_simp; try with_reducible rfl)); try simp only [Act.put, List.getElem_toArray, List.getElem_cons_zero, List.getElem_cons_succ, List.setIfInBounds_toArray, List.set_cons_zero, List.set_cons_succ])
                ((refine wpAnyH_take (i := 49) (v := ?_) rfl (by kernel_rfl) (by kernel_rfl) (by kernel_rfl) (fun _ _ _ h => h) (Yields.yieldsIf (Or.inl ⟨by rfl, ?_⟩)) hHeld ?_; rotate_left 1; focus (intro w; go_simp; try with_reducible rfl)); try simp only [Act.put, List.getElem_toArray, List.getElem_cons_zero, List.getElem_cons_succ, List.setIfInBounds_toArray, List.set_cons_zero, List.set_cons_succ])
                refine wpAnyH_done (by kernel_rfl) ?_ _
                clear hHeld
                go_wp2
                go_roundw
                case rel => exact ⟨j + 1, by go_num, hlt3, by first | exact HP4.out | exact HP4.out.drew⟩
                case measure => simp [intOf]; omega
            -- END r2
          · have e : m3 = j := by omega
            subst e
            clear hp hlt3
            go_upto_region 28 with fail
            go_loopw [22] (fun v22 wr => ∃ j : Nat, v22 = .int .i64 (j : Nat) ∧ j ≤ nt ∧ Pure w5 wr) (fun v22 _ => nt - (intOf v22).toNat)
            case atStart => exact ⟨0, rfl, Nat.zero_le _, HP.out⟩
            case round =>
              clear HP
              obtain ⟨j, rfl, hjt, hp⟩ := hrel
              have HP := Lib.hid hp
              by_cases hltj : j < nt
              -- BEG r3
              · as_aux_lemma =>
                  have hltj' : (j : Int) < (nt : Int) := by omega
                  have jj0 : (0 : Int) ≤ (j : Int) := by omega
                  have wj : IntKind.i64.wrap ((j : Int) + 1) = (j : Int) + 1 := IntWalk.i64_in _ (by omega)
                  obtain ⟨x, hx⟩ : ∃ x, tk[j]? = some x := ⟨_, List.getElem?_eq_getElem (by rw [HNT.out]; exact hltj)⟩
                  obtain ⟨ad, had, z0, z1, z2⟩ := td_read (HRT.out.frame hp (fun _ _ h => h)) hx
                  have hxL := HPM.out.mem_iff.1 (List.mem_of_getElem? hx)
                  have hxr := HI.out.ks.t.at_.rng x hxL
                  have hgt := (HD5.out.pure hp).t.at_.get (s := x.slot) (by omega)
                  have HX := Lib.hid hx
                  subst had
                  have hFw := fun (W : World) (hW : Pure w5 W) => rfind_ok (HR3.out.frame hW (fun _ _ h => h)) HM3.out (by omega) x.slot
                  by_cases hd2 : x.dl ≤ two
                  · have hf := find_in (L := dueL two L) (s := x.slot) ⟨x, (due_le HS.out).2 ⟨hxL, hd2⟩, rfl⟩
                    obtain ⟨f, hfe⟩ : ∃ f, findR (dueL two L) x.slot = f := ⟨_, rfl⟩
                    rw [hfe] at hFw hf
                    rw [get_out (L := restL two L) (s := x.slot) (fun y hy e => by
                      obtain ⟨hyL, hy2⟩ := (rest_mem HS.out).1 hy
                      have := HU.out y hyL x hxL e
                      subst this
                      omega) hxr.1] at hgt
                    unfold tdV at hgt
                    dsimp only [zTd] at hgt
                    have HGt := Lib.hid hgt; have HFw := Lib.hid hFw
                    have c_1 : (x.dl : Int) ≤ (two : Int) := by omega
                    have c_2 : ¬ (two : Int) < (x.dl : Int) := by omega
                    have n_2 : ¬ two < x.dl := by omega
                    have k_1 : decide (x.dl ≤ two) = true := decide_eq_true hd2
                    have k_2 : decide (two < x.dl) = false := decide_eq_false n_2
                    have k_3 : decide (0 ≤ f) = true := decide_eq_true hf
                    clear hx hp hgt hFw hxL hfe
                    go_upto_region 31 with (go_at_call 19; refine Calls.mono HGt.out ?_; rintro e w9 ⟨rfl, hp9⟩)
                    clear z0 z1 z2
                    have p5 : Pure w5 (w9.alloc (.cells #[.int .u32 0, .int .u64 0, .int .u64 0] 31)) := (HP.out.trans hp9).alloc _
                    have h23 := heap_new (w := w9) (o := .cells #[.int .u32 0, .int .u64 0, .int .u64 0] 31 (0, 0)) rfl
                    generalize w9.alloc (.cells #[.int .u32 0, .int .u64 0, .int .u64 0] 31) = W5 at *
                    generalize w9.heap.size = b23 at *
                    obtain ⟨ad', had', z0, z1, z2⟩ := td_read (HRT.out.frame p5 (fun _ _ h => h)) HX.out
                    injection had' with had'
                    subst had'
                    have y0 : W5.cell? ⟨b23, 0, none⟩ = some (.int .u32 0) := by rw [cell_of_row W5 _ 0 _ _ _ h23]; rfl
                    have y1 : W5.cell? ⟨b23, 1, none⟩ = some (.int .u64 0) := by rw [cell_of_row W5 _ 1 _ _ _ h23]; rfl
                    have y2 : W5.cell? ⟨b23, 2, none⟩ = some (.int .u64 0) := by rw [cell_of_row W5 _ 2 _ _ _ h23]; rfl
                    have HP5 := Lib.hid p5
                    clear p5 h23 hp9
                    refine wp_region_held_drew (S := fun w' => w'.cell? (ad.add (j * 3)) = some (.int .u32 x.slot) ∧ w'.cell? ⟨(ad.add (j * 3)).block, (ad.add (j * 3)).off + 1, none⟩ = some (.int .u64 x.dl) ∧ w'.cell? ⟨(ad.add (j * 3)).block, (ad.add (j * 3)).off + 2, none⟩ = some (.int .u64 x.birth) ∧ w'.cell? ⟨b23, 0, none⟩ = some (.int .u32 0) ∧ w'.cell? ⟨b23, 1, none⟩ = some (.int .u64 0) ∧ w'.cell? ⟨b23, 2, none⟩ = some (.int .u64 0)) (by kernel_rfl) ⟨z0, z1, z2, y0, y1, y2⟩ (fun hHeld => ?_)
                    ((refine wpAnyH_take (i := 0) (v := ?_) rfl (by kernel_rfl) (by kernel_rfl) (by kernel_rfl) (fun _ _ _ h => h) (Yields.yieldsIf (Or.inl ⟨by rfl, ?_⟩)) hHeld ?_; rotate_left 1; focus (intro w; go_simp; try with_reducible rfl)); try simp only [Act.put, List.getElem_toArray, List.getElem_cons_zero, List.getElem_cons_succ, List.setIfInBounds_toArray, List.set_cons_zero, List.set_cons_succ])
                    ((refine wpAnyH_take (i := 1) (v := ?_) rfl (by kernel_rfl) (by kernel_rfl) (by kernel_rfl) (fun _ _ _ h => h) (Yields.yieldsIf (Or.inl ⟨by rfl, ?_⟩)) hHeld ?_; rotate_left 1; focus (intro w; go_simp; try with_reducible rfl)); try simp only [Act.put, List.getElem_toArray, List.getElem_cons_zero, List.getElem_cons_succ, List.setIfInBounds_toArray, List.set_cons_zero, List.set_cons_succ])
                    ((refine wpAnyH_take (i := 2) (v := ?_) rfl (by kernel_rfl) (by kernel_rfl) (by kernel_rfl) (fun _ _ _ h => h) (Yields.yieldsIf (Or.inl ⟨by rfl, ?_⟩)) hHeld ?_; rotate_left 1; focus (intro w; go_simp; try with_reducible rfl)); try simp only [Act.put, List.getElem_toArray, List.getElem_cons_zero, List.getElem_cons_succ, List.setIfInBounds_toArray, List.set_cons_zero, List.set_cons_succ])
                    ((refine wpAnyH_take (i := 3) (v := ?_) rfl (by kernel_rfl) (by kernel_rfl) (by kernel_rfl) (fun _ _ _ h => h) (Yields.yieldsIf (Or.inl ⟨by rfl, ?_⟩)) hHeld ?_; rotate_left 1; focus (intro w; go_simp; try with_reducible rfl)); try simp only [Act.put, List.getElem_toArray, List.getElem_cons_zero, List.getElem_cons_succ, List.setIfInBounds_toArray, List.set_cons_zero, List.set_cons_succ])
                    ((refine wpAnyH_take (i := 4) (v := ?_) rfl (by kernel_rfl) (by kernel_rfl) (by kernel_rfl) (fun _ _ _ h => h) (Yields.yieldsIf (Or.inl ⟨by rfl, ?_⟩)) hHeld ?_; rotate_left 1; focus (intro w; go_simp; try with_reducible rfl)); try simp only [Act.put, List.getElem_toArray, List.getElem_cons_zero, List.getElem_cons_succ, List.setIfInBounds_toArray, List.set_cons_zero, List.set_cons_succ])
                    ((refine wpAnyH_take (i := 5) (v := ?_) rfl (by kernel_rfl) (by kernel_rfl) (by kernel_rfl) (fun _ _ _ h => h) (Or.inl ⟨by rfl, ?_⟩) hHeld ?_; rotate_left 1; focus (intro w hS; obtain ⟨s0, s1, s2, s3, s4, s5⟩ := hS; go_simp; try with_reducible rfl)); try simp only [Act.put, List.getElem_toArray, List.getElem_cons_zero, List.getElem_cons_succ, List.setIfInBounds_toArray, List.set_cons_zero, List.set_cons_succ])
                    ((refine wpAnyH_take (i := 8) (v := ?_) rfl (by kernel_rfl) (by kernel_rfl) (by kernel_rfl) (fun _ _ _ h => h) (Yields.yieldsIf (Or.inl ⟨by rfl, ?_⟩)) hHeld ?_; rotate_left 1; focus (intro w; go_simp; try with_reducible rfl)); try simp only [Act.put, List.getElem_toArray, List.getElem_cons_zero, List.getElem_cons_succ, List.setIfInBounds_toArray, List.set_cons_zero, List.set_cons_succ])
                    ((refine wpAnyH_take (i := 9) (v := ?_) rfl (by kernel_rfl) (by kernel_rfl) (by kernel_rfl) (fun _ _ _ h => h) (Yields.yieldsIf (Or.inl ⟨by rfl, ?_⟩)) hHeld ?_; rotate_left 1; focus (intro w; go_simp; try with_reducible rfl)); try simp only [Act.put, List.getElem_toArray, List.getElem_cons_zero, List.getElem_cons_succ, List.setIfInBounds_toArray, List.set_cons_zero, List.set_cons_succ])
                    ((refine wpAnyH_take (i := 10) (v := ?_) rfl (by kernel_rfl) (by kernel_rfl) (by kernel_rfl) (fun _ _ _ h => h) (Yields.yieldsIf (Or.inl ⟨by rfl, ?_⟩)) hHeld ?_; rotate_left 1; focus (intro w; go_simp; try with_reducible rfl)); try simp only [Act.put, List.getElem_toArray, List.getElem_cons_zero, List.getElem_cons_succ, List.setIfInBounds_toArray, List.set_cons_zero, List.set_cons_succ])
                    ((refine wpAnyH_take (i := 11) (v := ?_) rfl (by kernel_rfl) (by kernel_rfl) (by kernel_rfl) (fun _ _ _ h => h) (Yields.yieldsIf (Or.inl ⟨by rfl, ?_⟩)) hHeld ?_; rotate_left 1; focus (intro w; go_simp; try with_reducible rfl)); try simp only [Act.put, List.getElem_toArray, List.getElem_cons_zero, List.getElem_cons_succ, List.setIfInBounds_toArray, List.set_cons_zero, List.set_cons_succ])
                    ((refine wpAnyH_take (i := 12) (v := ?_) rfl (by kernel_rfl) (by kernel_rfl) (by kernel_rfl) (fun _ _ _ h => h) (Or.inl ⟨by rfl, ?_⟩) hHeld ?_; rotate_left 1; focus (intro w hS; obtain ⟨s0, s1, s2, s3, s4, s5⟩ := hS; go_simp; try with_reducible rfl)); try simp only [Act.put, List.getElem_toArray, List.getElem_cons_zero, List.getElem_cons_succ, List.setIfInBounds_toArray, List.set_cons_zero, List.set_cons_succ])
                    ((refine wpAnyH_take (i := 13) (v := ?_) rfl (by kernel_rfl) (by kernel_rfl) (by kernel_rfl) (fun _ _ _ h => h) (Yields.yieldsIf (Or.inl ⟨by rfl, ?_⟩)) hHeld ?_; rotate_left 1; focus (intro w; go_simp; try with_reducible rfl)); try simp only [Act.put, List.getElem_toArray, List.getElem_cons_zero, List.getElem_cons_succ, List.setIfInBounds_toArray, List.set_cons_zero, List.set_cons_succ])
                    ((refine wpAnyH_take (i := 14) (v := ?_) rfl (by kernel_rfl) (by kernel_rfl) (by kernel_rfl) (fun _ _ _ h => h) (Yields.yieldsIf (Or.inl ⟨by rfl, ?_⟩)) hHeld ?_; rotate_left 1; focus (intro w; go_simp; try with_reducible rfl)); try simp only [Act.put, List.getElem_toArray, List.getElem_cons_zero, List.getElem_cons_succ, List.setIfInBounds_toArray, List.set_cons_zero, List.set_cons_succ])
                    ((refine wpAnyH_ready (rs := [6]) (by kernel_rfl) (by simp) ?_; refine AllReadyH.cons rfl (fun K hK => ?_) AllReadyH.nil; go_simp; refine Calls.mono (HFw.out _ (by first | exact HP5.out | exact HP5.out.drew)) ?_; rintro e w' ⟨rfl, rfl⟩; refine hK.out _ _ ?_ (fun hHeld => ?_); (· exact ⟨z0, z1, z2, y0, y1, y2⟩); clear hK K); try simp only [Act.put, List.getElem_toArray, List.getElem_cons_zero, List.getElem_cons_succ, List.setIfInBounds_toArray, List.set_cons_zero, List.set_cons_succ])
                    ((refine wpAnyH_take (i := 7) (v := ?_) rfl (by kernel_rfl) (by kernel_rfl) (by kernel_rfl) (fun _ _ _ h => h) (Yields.yieldsIf (Or.inl ⟨by rfl, ?_⟩)) hHeld ?_; rotate_left 1; focus (intro w; go_simp; try with_reducible rfl)); try simp only [Act.put, List.getElem_toArray, List.getElem_cons_zero, List.getElem_cons_succ, List.setIfInBounds_toArray, List.set_cons_zero, List.set_cons_succ])
                    ((refine wpAnyH_take (i := 15) (v := ?_) rfl (by kernel_rfl) (by kernel_rfl) (by kernel_rfl) (fun _ _ _ h => h) (Yields.yieldsIf (Or.inl ⟨by rfl, ?_⟩)) hHeld ?_; rotate_left 1; focus (intro w; go_simp; try with_reducible rfl)); try simp only [Act.put, List.getElem_toArray, List.getElem_cons_zero, List.getElem_cons_succ, List.setIfInBounds_toArray, List.set_cons_zero, List.set_cons_succ])
                    ((refine wpAnyH_take (i := 16) (v := ?_) rfl (by kernel_rfl) (by kernel_rfl) (by kernel_rfl) (fun _ _ _ h => h) (Yields.yieldsIf (Or.inl ⟨by rfl, ?_⟩)) hHeld ?_; rotate_left 1; focus (intro w; go_simp; try with_reducible rfl)); try simp only [Act.put, List.getElem_toArray, List.getElem_cons_zero, List.getElem_cons_succ, List.setIfInBounds_toArray, List.set_cons_zero, List.set_cons_succ])
                    ((refine wpAnyH_take (i := 17) (v := ?_) rfl (by kernel_rfl) (by kernel_rfl) (by kernel_rfl) (fun _ _ _ h => h) (Yields.yieldsIf (Or.inl ⟨by rfl, ?_⟩)) hHeld ?_; rotate_left 1; focus (intro w; go_simp; try with_reducible rfl)); try simp only [Act.put, List.getElem_toArray, List.getElem_cons_zero, List.getElem_cons_succ, List.setIfInBounds_toArray, List.set_cons_zero, List.set_cons_succ])
                    ((refine wpAnyH_take (i := 18) (v := ?_) rfl (by kernel_rfl) (by kernel_rfl) (by kernel_rfl) (fun _ _ _ h => h) (Yields.yieldsIf (Or.inl ⟨by rfl, ?_⟩)) hHeld ?_; rotate_left 1; focus (intro w; go_simp; try with_reducible rfl)); try simp only [Act.put, List.getElem_toArray, List.getElem_cons_zero, List.getElem_cons_succ, List.setIfInBounds_toArray, List.set_cons_zero, List.set_cons_succ])
                    ((refine wpAnyH_take (i := 19) (v := ?_) rfl (by kernel_rfl) (by kernel_rfl) (by kernel_rfl) (fun _ _ _ h => h) (Yields.yieldsIf (Or.inl ⟨by rfl, ?_⟩)) hHeld ?_; rotate_left 1; focus (intro w; go_simp; try with_reducible rfl)); try simp only [Act.put, List.getElem_toArray, List.getElem_cons_zero, List.getElem_cons_succ, List.setIfInBounds_toArray, List.set_cons_zero, List.set_cons_succ])
                    ((refine wpAnyH_take (i := 20) (v := ?_) rfl (by kernel_rfl) (by kernel_rfl) (by kernel_rfl) (fun _ _ _ h => h) (Yields.yieldsIf (Or.inl ⟨by rfl, ?_⟩)) hHeld ?_; rotate_left 1; focus (intro w; go_simp; try with_reducible rfl)); try simp only [Act.put, List.getElem_toArray, List.getElem_cons_zero, List.getElem_cons_succ, List.setIfInBounds_toArray, List.set_cons_zero, List.set_cons_succ])
                    ((refine wpAnyH_take (i := 21) (v := ?_) rfl (by kernel_rfl) (by kernel_rfl) (by kernel_rfl) (fun _ _ _ h => h) (Yields.yieldsIf (Or.inl ⟨by rfl, ?_⟩)) hHeld ?_; rotate_left 1; focus (intro w; go_simp; try with_reducible rfl)); try simp only [Act.put, List.getElem_toArray, List.getElem_cons_zero, List.getElem_cons_succ, List.setIfInBounds_toArray, List.set_cons_zero, List.set_cons_succ])
                    ((refine wpAnyH_take (i := 22) (v := ?_) rfl (by kernel_rfl) (by kernel_rfl) (by kernel_rfl) (fun _ _ _ h => h) (Yields.yieldsIf (Or.inl ⟨by rfl, ?_⟩)) hHeld ?_; rotate_left 1; focus (intro w; go_simp; try with_reducible rfl)); try simp only [Act.put, List.getElem_toArray, List.getElem_cons_zero, List.getElem_cons_succ, List.setIfInBounds_toArray, List.set_cons_zero, List.set_cons_succ])
                    ((refine wpAnyH_take (i := 23) (v := ?_) rfl (by kernel_rfl) (by kernel_rfl) (by kernel_rfl) (fun _ _ _ h => h) (Or.inl ⟨by rfl, ?_⟩) hHeld ?_; rotate_left 1; focus (intro w hS; obtain ⟨s0, s1, s2, s3, s4, s5⟩ := hS; go_simp; try with_reducible rfl)); try simp only [Act.put, List.getElem_toArray, List.getElem_cons_zero, List.getElem_cons_succ, List.setIfInBounds_toArray, List.set_cons_zero, List.set_cons_succ])
                    ((refine wpAnyH_take (i := 24) (v := ?_) rfl (by kernel_rfl) (by kernel_rfl) (by kernel_rfl) (fun _ _ _ h => h) (Yields.yieldsIf (Or.inl ⟨by rfl, ?_⟩)) hHeld ?_; rotate_left 1; focus (intro w; go_simp; try with_reducible rfl)); try simp only [Act.put, List.getElem_toArray, List.getElem_cons_zero, List.getElem_cons_succ, List.setIfInBounds_toArray, List.set_cons_zero, List.set_cons_succ])
                    ((refine wpAnyH_take (i := 25) (v := ?_) rfl (by kernel_rfl) (by kernel_rfl) (by kernel_rfl) (fun _ _ _ h => h) (Yields.yieldsIf (Or.inl ⟨by rfl, ?_⟩)) hHeld ?_; rotate_left 1; focus (intro w; go_simp; try with_reducible rfl)); try simp only [Act.put, List.getElem_toArray, List.getElem_cons_zero, List.getElem_cons_succ, List.setIfInBounds_toArray, List.set_cons_zero, List.set_cons_succ])
                    ((refine wpAnyH_take (i := 26) (v := ?_) rfl (by kernel_rfl) (by kernel_rfl) (by kernel_rfl) (fun _ _ _ h => h) (Yields.yieldsIf (Or.inl ⟨by rfl, ?_⟩)) hHeld ?_; rotate_left 1; focus (intro w; go_simp; try with_reducible rfl)); try simp only [Act.put, List.getElem_toArray, List.getElem_cons_zero, List.getElem_cons_succ, List.setIfInBounds_toArray, List.set_cons_zero, List.set_cons_succ])
                    ((refine wpAnyH_take (i := 27) (v := ?_) rfl (by kernel_rfl) (by kernel_rfl) (by kernel_rfl) (fun _ _ _ h => h) (Yields.yieldsIf (Or.inl ⟨by rfl, ?_⟩)) hHeld ?_; rotate_left 1; focus (intro w; go_simp; try with_reducible rfl)); try simp only [Act.put, List.getElem_toArray, List.getElem_cons_zero, List.getElem_cons_succ, List.setIfInBounds_toArray, List.set_cons_zero, List.set_cons_succ])
                    ((refine wpAnyH_take (i := 28) (v := ?_) rfl (by kernel_rfl) (by kernel_rfl) (by kernel_rfl) (fun _ _ _ h => h) (Yields.yieldsIf (Or.inl ⟨by rfl, ?_⟩)) hHeld ?_; rotate_left 1; focus (intro w; go_simp; try with_reducible rfl)); try simp only [Act.put, List.getElem_toArray, List.getElem_cons_zero, List.getElem_cons_succ, List.setIfInBounds_toArray, List.set_cons_zero, List.set_cons_succ])
                    ((refine wpAnyH_take (i := 29) (v := ?_) rfl (by kernel_rfl) (by kernel_rfl) (by kernel_rfl) (fun _ _ _ h => h) (Yields.yieldsIf (Or.inl ⟨by rfl, ?_⟩)) hHeld ?_; rotate_left 1; focus (intro w; go_simp; try with_reducible rfl)); try simp only [Act.put, List.getElem_toArray, List.getElem_cons_zero, List.getElem_cons_succ, List.setIfInBounds_toArray, List.set_cons_zero, List.set_cons_succ])
                    ((refine wpAnyH_take (i := 30) (v := ?_) rfl (by kernel_rfl) (by kernel_rfl) (by kernel_rfl) (fun _ _ _ h => h) (Yields.yieldsIf (Or.inl ⟨by rfl, ?_⟩)) hHeld ?_; rotate_left 1; focus (intro w; go_simp; try with_reducible rfl)); try simp only [Act.put, List.getElem_toArray, List.getElem_cons_zero, List.getElem_cons_succ, List.setIfInBounds_toArray, List.set_cons_zero, List.set_cons_succ])
                    ((refine wpAnyH_take (i := 31) (v := ?_) rfl (by kernel_rfl) (by kernel_rfl) (by kernel_rfl) (fun _ _ _ h => h) (Yields.yieldsIf (Or.inl ⟨by rfl, ?_⟩)) hHeld ?_; rotate_left 1; focus (intro w; go_simp; try with_reducible rfl)); try simp only [Act.put, List.getElem_toArray, List.getElem_cons_zero, List.getElem_cons_succ, List.setIfInBounds_toArray, List.set_cons_zero, List.set_cons_succ])
                    (refine wpAnyH_take (i := 32) (v := undef) rfl (by kernel_rfl) (by kernel_rfl) (by kernel_rfl) (fun _ _ _ h => h) (Or.inr ⟨by rfl, rfl⟩) hHeld ?_; try simp only [Act.put, List.getElem_toArray, List.getElem_cons_zero, List.getElem_cons_succ, List.setIfInBounds_toArray, List.set_cons_zero, List.set_cons_succ])
                    (refine wpAnyH_take (i := 33) (v := undef) rfl (by kernel_rfl) (by kernel_rfl) (by kernel_rfl) (fun _ _ _ h => h) (Or.inr ⟨by rfl, rfl⟩) hHeld ?_; try simp only [Act.put, List.getElem_toArray, List.getElem_cons_zero, List.getElem_cons_succ, List.setIfInBounds_toArray, List.set_cons_zero, List.set_cons_succ])
                    (refine wpAnyH_take (i := 34) (v := undef) rfl (by kernel_rfl) (by kernel_rfl) (by kernel_rfl) (fun _ _ _ h => h) (Or.inr ⟨by rfl, rfl⟩) hHeld ?_; try simp only [Act.put, List.getElem_toArray, List.getElem_cons_zero, List.getElem_cons_succ, List.setIfInBounds_toArray, List.set_cons_zero, List.set_cons_succ])
                    (refine wpAnyH_take (i := 35) (v := undef) rfl (by kernel_rfl) (by kernel_rfl) (by kernel_rfl) (fun _ _ _ h => h) (Or.inr ⟨by rfl, rfl⟩) hHeld ?_; try simp only [Act.put, List.getElem_toArray, List.getElem_cons_zero, List.getElem_cons_succ, List.setIfInBounds_toArray, List.set_cons_zero, List.set_cons_succ])
                    (refine wpAnyH_take (i := 36) (v := undef) rfl (by kernel_rfl) (by kernel_rfl) (by kernel_rfl) (fun _ _ _ h => h) (Or.inr ⟨by rfl, rfl⟩) hHeld ?_; try simp only [Act.put, List.getElem_toArray, List.getElem_cons_zero, List.getElem_cons_succ, List.setIfInBounds_toArray, List.set_cons_zero, List.set_cons_succ])
                    (refine wpAnyH_take (i := 37) (v := undef) rfl (by kernel_rfl) (by kernel_rfl) (by kernel_rfl) (fun _ _ _ h => h) (Or.inr ⟨by rfl, rfl⟩) hHeld ?_; try simp only [Act.put, List.getElem_toArray, List.getElem_cons_zero, List.getElem_cons_succ, List.setIfInBounds_toArray, List.set_cons_zero, List.set_cons_succ])
                    ((refine wpAnyH_take (i := 38) (v := ?_) rfl (by kernel_rfl) (by kernel_rfl) (by kernel_rfl) (fun _ _ _ h => h) (Yields.yieldsIf (Or.inl ⟨by rfl, ?_⟩)) hHeld ?_; rotate_left 1; focus (intro w; go_simp; try with_reducible rfl)); try simp only [Act.put, List.getElem_toArray, List.getElem_cons_zero, List.getElem_cons_succ, List.setIfInBounds_toArray, List.set_cons_zero, List.set_cons_succ])
                    ((refine wpAnyH_take (i := 39) (v := ?_) rfl (by kernel_rfl) (by kernel_rfl) (by kernel_rfl) (fun _ _ _ h => h) (Yields.yieldsIf (Or.inl ⟨by rfl, ?_⟩)) hHeld ?_; rotate_left 1; focus (intro w; go_simp; try with_reducible rfl)); try simp only [Act.put, List.getElem_toArray, List.getElem_cons_zero, List.getElem_cons_succ, List.setIfInBounds_toArray, List.set_cons_zero, List.set_cons_succ])
                    refine wpAnyH_done (by kernel_rfl) ?_ _
                    clear hHeld
                    go_wp2
                    go_roundw
                    case rel => exact ⟨j + 1, by go_num, hltj, by first | exact HP5.out | exact HP5.out.drew⟩
                    case measure => simp [intOf]; omega
                  · have hf := find_out (L := dueL two L) (s := x.slot) (fun y hy e => by
                      obtain ⟨hyL, hy2⟩ := (due_le HS.out).1 hy
                      have := HU.out y hyL x hxL e
                      subst this
                      omega)
                    rw [hf] at hFw
                    rw [get_in (L := restL two L) (fun a ha b hb e => HU.out a ((rest_mem HS.out).1 ha).1 b ((rest_mem HS.out).1 hb).1 e) ((rest_mem HS.out).2 ⟨hxL, by omega⟩) hxr.1] at hgt
                    unfold tdV at hgt
                    dsimp only at hgt
                    have HGt := Lib.hid hgt; have HFw := Lib.hid hFw
                    have c_1 : ¬ (x.dl : Int) ≤ (two : Int) := by omega
                    have c_2 : (two : Int) < (x.dl : Int) := by omega
                    have n_2 : two < x.dl := by omega
                    have k_1 : decide (x.dl ≤ two) = false := decide_eq_false hd2
                    have k_2 : decide (two < x.dl) = true := decide_eq_true n_2
                    clear hx hp hgt hFw hxL hf
                    go_upto_region 31 with (go_at_call 19; refine Calls.mono HGt.out ?_; rintro e w9 ⟨rfl, hp9⟩)
                    clear z0 z1 z2
                    have p5 : Pure w5 (w9.alloc (.cells #[.int .u32 x.slot, .int .u64 x.dl, .int .u64 x.birth] 31)) := (HP.out.trans hp9).alloc _
                    have h23 := heap_new (w := w9) (o := .cells #[.int .u32 x.slot, .int .u64 x.dl, .int .u64 x.birth] 31 (0, 0)) rfl
                    generalize w9.alloc (.cells #[.int .u32 x.slot, .int .u64 x.dl, .int .u64 x.birth] 31) = W5 at *
                    generalize w9.heap.size = b23 at *
                    obtain ⟨ad', had', z0, z1, z2⟩ := td_read (HRT.out.frame p5 (fun _ _ h => h)) HX.out
                    injection had' with had'
                    subst had'
                    have y0 : W5.cell? ⟨b23, 0, none⟩ = some (.int .u32 x.slot) := by rw [cell_of_row W5 _ 0 _ _ _ h23]; rfl
                    have y1 : W5.cell? ⟨b23, 1, none⟩ = some (.int .u64 x.dl) := by rw [cell_of_row W5 _ 1 _ _ _ h23]; rfl
                    have y2 : W5.cell? ⟨b23, 2, none⟩ = some (.int .u64 x.birth) := by rw [cell_of_row W5 _ 2 _ _ _ h23]; rfl
                    have HP5 := Lib.hid p5
                    clear p5 h23 hp9
                    refine wp_region_held_drew (S := fun w' => w'.cell? (ad.add (j * 3)) = some (.int .u32 x.slot) ∧ w'.cell? ⟨(ad.add (j * 3)).block, (ad.add (j * 3)).off + 1, none⟩ = some (.int .u64 x.dl) ∧ w'.cell? ⟨(ad.add (j * 3)).block, (ad.add (j * 3)).off + 2, none⟩ = some (.int .u64 x.birth) ∧ w'.cell? ⟨b23, 0, none⟩ = some (.int .u32 x.slot) ∧ w'.cell? ⟨b23, 1, none⟩ = some (.int .u64 x.dl) ∧ w'.cell? ⟨b23, 2, none⟩ = some (.int .u64 x.birth)) (by kernel_rfl) ⟨z0, z1, z2, y0, y1, y2⟩ (fun hHeld => ?_)
                    ((refine wpAnyH_take (i := 0) (v := ?_) rfl (by kernel_rfl) (by kernel_rfl) (by kernel_rfl) (fun _ _ _ h => h) (Yields.yieldsIf (Or.inl ⟨by rfl, ?_⟩)) hHeld ?_; rotate_left 1; focus (intro w; go_simp; try with_reducible rfl)); try simp only [Act.put, List.getElem_toArray, List.getElem_cons_zero, List.getElem_cons_succ, List.setIfInBounds_toArray, List.set_cons_zero, List.set_cons_succ])
                    ((refine wpAnyH_take (i := 1) (v := ?_) rfl (by kernel_rfl) (by kernel_rfl) (by kernel_rfl) (fun _ _ _ h => h) (Yields.yieldsIf (Or.inl ⟨by rfl, ?_⟩)) hHeld ?_; rotate_left 1; focus (intro w; go_simp; try with_reducible rfl)); try simp only [Act.put, List.getElem_toArray, List.getElem_cons_zero, List.getElem_cons_succ, List.setIfInBounds_toArray, List.set_cons_zero, List.set_cons_succ])
                    ((refine wpAnyH_take (i := 2) (v := ?_) rfl (by kernel_rfl) (by kernel_rfl) (by kernel_rfl) (fun _ _ _ h => h) (Yields.yieldsIf (Or.inl ⟨by rfl, ?_⟩)) hHeld ?_; rotate_left 1; focus (intro w; go_simp; try with_reducible rfl)); try simp only [Act.put, List.getElem_toArray, List.getElem_cons_zero, List.getElem_cons_succ, List.setIfInBounds_toArray, List.set_cons_zero, List.set_cons_succ])
                    ((refine wpAnyH_take (i := 3) (v := ?_) rfl (by kernel_rfl) (by kernel_rfl) (by kernel_rfl) (fun _ _ _ h => h) (Yields.yieldsIf (Or.inl ⟨by rfl, ?_⟩)) hHeld ?_; rotate_left 1; focus (intro w; go_simp; try with_reducible rfl)); try simp only [Act.put, List.getElem_toArray, List.getElem_cons_zero, List.getElem_cons_succ, List.setIfInBounds_toArray, List.set_cons_zero, List.set_cons_succ])
                    ((refine wpAnyH_take (i := 4) (v := ?_) rfl (by kernel_rfl) (by kernel_rfl) (by kernel_rfl) (fun _ _ _ h => h) (Yields.yieldsIf (Or.inl ⟨by rfl, ?_⟩)) hHeld ?_; rotate_left 1; focus (intro w; go_simp; try with_reducible rfl)); try simp only [Act.put, List.getElem_toArray, List.getElem_cons_zero, List.getElem_cons_succ, List.setIfInBounds_toArray, List.set_cons_zero, List.set_cons_succ])
                    ((refine wpAnyH_take (i := 5) (v := ?_) rfl (by kernel_rfl) (by kernel_rfl) (by kernel_rfl) (fun _ _ _ h => h) (Or.inl ⟨by rfl, ?_⟩) hHeld ?_; rotate_left 1; focus (intro w hS; obtain ⟨s0, s1, s2, s3, s4, s5⟩ := hS; go_simp; try with_reducible rfl)); try simp only [Act.put, List.getElem_toArray, List.getElem_cons_zero, List.getElem_cons_succ, List.setIfInBounds_toArray, List.set_cons_zero, List.set_cons_succ])
                    ((refine wpAnyH_take (i := 8) (v := ?_) rfl (by kernel_rfl) (by kernel_rfl) (by kernel_rfl) (fun _ _ _ h => h) (Yields.yieldsIf (Or.inl ⟨by rfl, ?_⟩)) hHeld ?_; rotate_left 1; focus (intro w; go_simp; try with_reducible rfl)); try simp only [Act.put, List.getElem_toArray, List.getElem_cons_zero, List.getElem_cons_succ, List.setIfInBounds_toArray, List.set_cons_zero, List.set_cons_succ])
                    ((refine wpAnyH_take (i := 9) (v := ?_) rfl (by kernel_rfl) (by kernel_rfl) (by kernel_rfl) (fun _ _ _ h => h) (Yields.yieldsIf (Or.inl ⟨by rfl, ?_⟩)) hHeld ?_; rotate_left 1; focus (intro w; go_simp; try with_reducible rfl)); try simp only [Act.put, List.getElem_toArray, List.getElem_cons_zero, List.getElem_cons_succ, List.setIfInBounds_toArray, List.set_cons_zero, List.set_cons_succ])
                    ((refine wpAnyH_take (i := 10) (v := ?_) rfl (by kernel_rfl) (by kernel_rfl) (by kernel_rfl) (fun _ _ _ h => h) (Yields.yieldsIf (Or.inl ⟨by rfl, ?_⟩)) hHeld ?_; rotate_left 1; focus (intro w; go_simp; try with_reducible rfl)); try simp only [Act.put, List.getElem_toArray, List.getElem_cons_zero, List.getElem_cons_succ, List.setIfInBounds_toArray, List.set_cons_zero, List.set_cons_succ])
                    ((refine wpAnyH_take (i := 11) (v := ?_) rfl (by kernel_rfl) (by kernel_rfl) (by kernel_rfl) (fun _ _ _ h => h) (Yields.yieldsIf (Or.inl ⟨by rfl, ?_⟩)) hHeld ?_; rotate_left 1; focus (intro w; go_simp; try with_reducible rfl)); try simp only [Act.put, List.getElem_toArray, List.getElem_cons_zero, List.getElem_cons_succ, List.setIfInBounds_toArray, List.set_cons_zero, List.set_cons_succ])
                    ((refine wpAnyH_take (i := 12) (v := ?_) rfl (by kernel_rfl) (by kernel_rfl) (by kernel_rfl) (fun _ _ _ h => h) (Or.inl ⟨by rfl, ?_⟩) hHeld ?_; rotate_left 1; focus (intro w hS; obtain ⟨s0, s1, s2, s3, s4, s5⟩ := hS; go_simp; try with_reducible rfl)); try simp only [Act.put, List.getElem_toArray, List.getElem_cons_zero, List.getElem_cons_succ, List.setIfInBounds_toArray, List.set_cons_zero, List.set_cons_succ])
                    ((refine wpAnyH_take (i := 13) (v := ?_) rfl (by kernel_rfl) (by kernel_rfl) (by kernel_rfl) (fun _ _ _ h => h) (Yields.yieldsIf (Or.inl ⟨by rfl, ?_⟩)) hHeld ?_; rotate_left 1; focus (intro w; go_simp; try with_reducible rfl)); try simp only [Act.put, List.getElem_toArray, List.getElem_cons_zero, List.getElem_cons_succ, List.setIfInBounds_toArray, List.set_cons_zero, List.set_cons_succ])
                    ((refine wpAnyH_take (i := 14) (v := ?_) rfl (by kernel_rfl) (by kernel_rfl) (by kernel_rfl) (fun _ _ _ h => h) (Yields.yieldsIf (Or.inl ⟨by rfl, ?_⟩)) hHeld ?_; rotate_left 1; focus (intro w; go_simp; try with_reducible rfl)); try simp only [Act.put, List.getElem_toArray, List.getElem_cons_zero, List.getElem_cons_succ, List.setIfInBounds_toArray, List.set_cons_zero, List.set_cons_succ])
                    ((refine wpAnyH_ready (rs := [6]) (by kernel_rfl) (by simp) ?_; refine AllReadyH.cons rfl (fun K hK => ?_) AllReadyH.nil; go_simp; refine Calls.mono (HFw.out _ (by first | exact HP5.out | exact HP5.out.drew)) ?_; rintro e w' ⟨rfl, rfl⟩; refine hK.out _ _ ?_ (fun hHeld => ?_); (· exact ⟨z0, z1, z2, y0, y1, y2⟩); clear hK K); try simp only [Act.put, List.getElem_toArray, List.getElem_cons_zero, List.getElem_cons_succ, List.setIfInBounds_toArray, List.set_cons_zero, List.set_cons_succ])
                    ((refine wpAnyH_take (i := 7) (v := ?_) rfl (by kernel_rfl) (by kernel_rfl) (by kernel_rfl) (fun _ _ _ h => h) (Yields.yieldsIf (Or.inl ⟨by rfl, ?_⟩)) hHeld ?_; rotate_left 1; focus (intro w; go_simp; try with_reducible rfl)); try simp only [Act.put, List.getElem_toArray, List.getElem_cons_zero, List.getElem_cons_succ, List.setIfInBounds_toArray, List.set_cons_zero, List.set_cons_succ])
                    ((refine wpAnyH_take (i := 15) (v := ?_) rfl (by kernel_rfl) (by kernel_rfl) (by kernel_rfl) (fun _ _ _ h => h) (Yields.yieldsIf (Or.inl ⟨by rfl, ?_⟩)) hHeld ?_; rotate_left 1; focus (intro w; go_simp; try with_reducible rfl)); try simp only [Act.put, List.getElem_toArray, List.getElem_cons_zero, List.getElem_cons_succ, List.setIfInBounds_toArray, List.set_cons_zero, List.set_cons_succ])
                    ((refine wpAnyH_take (i := 16) (v := ?_) rfl (by kernel_rfl) (by kernel_rfl) (by kernel_rfl) (fun _ _ _ h => h) (Yields.yieldsIf (Or.inl ⟨by rfl, ?_⟩)) hHeld ?_; rotate_left 1; focus (intro w; go_simp; try with_reducible rfl)); try simp only [Act.put, List.getElem_toArray, List.getElem_cons_zero, List.getElem_cons_succ, List.setIfInBounds_toArray, List.set_cons_zero, List.set_cons_succ])
                    ((refine wpAnyH_take (i := 17) (v := ?_) rfl (by kernel_rfl) (by kernel_rfl) (by kernel_rfl) (fun _ _ _ h => h) (Yields.yieldsIf (Or.inl ⟨by rfl, ?_⟩)) hHeld ?_; rotate_left 1; focus (intro w; go_simp; try with_reducible rfl)); try simp only [Act.put, List.getElem_toArray, List.getElem_cons_zero, List.getElem_cons_succ, List.setIfInBounds_toArray, List.set_cons_zero, List.set_cons_succ])
                    ((refine wpAnyH_take (i := 18) (v := ?_) rfl (by kernel_rfl) (by kernel_rfl) (by kernel_rfl) (fun _ _ _ h => h) (Yields.yieldsIf (Or.inl ⟨by rfl, ?_⟩)) hHeld ?_; rotate_left 1; focus (intro w; go_simp; try with_reducible rfl)); try simp only [Act.put, List.getElem_toArray, List.getElem_cons_zero, List.getElem_cons_succ, List.setIfInBounds_toArray, List.set_cons_zero, List.set_cons_succ])
                    ((refine wpAnyH_take (i := 19) (v := ?_) rfl (by kernel_rfl) (by kernel_rfl) (by kernel_rfl) (fun _ _ _ h => h) (Yields.yieldsIf (Or.inl ⟨by rfl, ?_⟩)) hHeld ?_; rotate_left 1; focus (intro w; go_simp; try with_reducible rfl)); try simp only [Act.put, List.getElem_toArray, List.getElem_cons_zero, List.getElem_cons_succ, List.setIfInBounds_toArray, List.set_cons_zero, List.set_cons_succ])
                    ((refine wpAnyH_take (i := 20) (v := ?_) rfl (by kernel_rfl) (by kernel_rfl) (by kernel_rfl) (fun _ _ _ h => h) (Yields.yieldsIf (Or.inl ⟨by rfl, ?_⟩)) hHeld ?_; rotate_left 1; focus (intro w; go_simp; try with_reducible rfl)); try simp only [Act.put, List.getElem_toArray, List.getElem_cons_zero, List.getElem_cons_succ, List.setIfInBounds_toArray, List.set_cons_zero, List.set_cons_succ])
                    ((refine wpAnyH_take (i := 21) (v := ?_) rfl (by kernel_rfl) (by kernel_rfl) (by kernel_rfl) (fun _ _ _ h => h) (Yields.yieldsIf (Or.inl ⟨by rfl, ?_⟩)) hHeld ?_; rotate_left 1; focus (intro w; go_simp; try with_reducible rfl)); try simp only [Act.put, List.getElem_toArray, List.getElem_cons_zero, List.getElem_cons_succ, List.setIfInBounds_toArray, List.set_cons_zero, List.set_cons_succ])
                    ((refine wpAnyH_take (i := 22) (v := ?_) rfl (by kernel_rfl) (by kernel_rfl) (by kernel_rfl) (fun _ _ _ h => h) (Yields.yieldsIf (Or.inl ⟨by rfl, ?_⟩)) hHeld ?_; rotate_left 1; focus (intro w; go_simp; try with_reducible rfl)); try simp only [Act.put, List.getElem_toArray, List.getElem_cons_zero, List.getElem_cons_succ, List.setIfInBounds_toArray, List.set_cons_zero, List.set_cons_succ])
                    ((refine wpAnyH_take (i := 23) (v := ?_) rfl (by kernel_rfl) (by kernel_rfl) (by kernel_rfl) (fun _ _ _ h => h) (Or.inl ⟨by rfl, ?_⟩) hHeld ?_; rotate_left 1; focus (intro w hS; obtain ⟨s0, s1, s2, s3, s4, s5⟩ := hS; go_simp; try with_reducible rfl)); try simp only [Act.put, List.getElem_toArray, List.getElem_cons_zero, List.getElem_cons_succ, List.setIfInBounds_toArray, List.set_cons_zero, List.set_cons_succ])
                    ((refine wpAnyH_take (i := 24) (v := ?_) rfl (by kernel_rfl) (by kernel_rfl) (by kernel_rfl) (fun _ _ _ h => h) (Yields.yieldsIf (Or.inl ⟨by rfl, ?_⟩)) hHeld ?_; rotate_left 1; focus (intro w; go_simp; try with_reducible rfl)); try simp only [Act.put, List.getElem_toArray, List.getElem_cons_zero, List.getElem_cons_succ, List.setIfInBounds_toArray, List.set_cons_zero, List.set_cons_succ])
                    ((refine wpAnyH_take (i := 25) (v := ?_) rfl (by kernel_rfl) (by kernel_rfl) (by kernel_rfl) (fun _ _ _ h => h) (Yields.yieldsIf (Or.inl ⟨by rfl, ?_⟩)) hHeld ?_; rotate_left 1; focus (intro w; go_simp; try with_reducible rfl)); try simp only [Act.put, List.getElem_toArray, List.getElem_cons_zero, List.getElem_cons_succ, List.setIfInBounds_toArray, List.set_cons_zero, List.set_cons_succ])
                    ((refine wpAnyH_take (i := 26) (v := ?_) rfl (by kernel_rfl) (by kernel_rfl) (by kernel_rfl) (fun _ _ _ h => h) (Yields.yieldsIf (Or.inl ⟨by rfl, ?_⟩)) hHeld ?_; rotate_left 1; focus (intro w; go_simp; try with_reducible rfl)); try simp only [Act.put, List.getElem_toArray, List.getElem_cons_zero, List.getElem_cons_succ, List.setIfInBounds_toArray, List.set_cons_zero, List.set_cons_succ])
                    ((refine wpAnyH_take (i := 27) (v := ?_) rfl (by kernel_rfl) (by kernel_rfl) (by kernel_rfl) (fun _ _ _ h => h) (Yields.yieldsIf (Or.inl ⟨by rfl, ?_⟩)) hHeld ?_; rotate_left 1; focus (intro w; go_simp; try with_reducible rfl)); try simp only [Act.put, List.getElem_toArray, List.getElem_cons_zero, List.getElem_cons_succ, List.setIfInBounds_toArray, List.set_cons_zero, List.set_cons_succ])
                    ((refine wpAnyH_take (i := 28) (v := ?_) rfl (by kernel_rfl) (by kernel_rfl) (by kernel_rfl) (fun _ _ _ h => h) (Yields.yieldsIf (Or.inl ⟨by rfl, ?_⟩)) hHeld ?_; rotate_left 1; focus (intro w; go_simp; try with_reducible rfl)); try simp only [Act.put, List.getElem_toArray, List.getElem_cons_zero, List.getElem_cons_succ, List.setIfInBounds_toArray, List.set_cons_zero, List.set_cons_succ])
                    ((refine wpAnyH_take (i := 29) (v := ?_) rfl (by kernel_rfl) (by kernel_rfl) (by kernel_rfl) (fun _ _ _ h => h) (Yields.yieldsIf (Or.inl ⟨by rfl, ?_⟩)) hHeld ?_; rotate_left 1; focus (intro w; go_simp; try with_reducible rfl)); try simp only [Act.put, List.getElem_toArray, List.getElem_cons_zero, List.getElem_cons_succ, List.setIfInBounds_toArray, List.set_cons_zero, List.set_cons_succ])
                    ((refine wpAnyH_take (i := 30) (v := ?_) rfl (by kernel_rfl) (by kernel_rfl) (by kernel_rfl) (fun _ _ _ h => h) (Yields.yieldsIf (Or.inl ⟨by rfl, ?_⟩)) hHeld ?_; rotate_left 1; focus (intro w; go_simp; try with_reducible rfl)); try simp only [Act.put, List.getElem_toArray, List.getElem_cons_zero, List.getElem_cons_succ, List.setIfInBounds_toArray, List.set_cons_zero, List.set_cons_succ])
                    ((refine wpAnyH_take (i := 31) (v := ?_) rfl (by kernel_rfl) (by kernel_rfl) (by kernel_rfl) (fun _ _ _ h => h) (Yields.yieldsIf (Or.inl ⟨by rfl, ?_⟩)) hHeld ?_; rotate_left 1; focus (intro w; go_simp; try with_reducible rfl)); try simp only [Act.put, List.getElem_toArray, List.getElem_cons_zero, List.getElem_cons_succ, List.setIfInBounds_toArray, List.set_cons_zero, List.set_cons_succ])
                    ((refine wpAnyH_take (i := 32) (v := ?_) rfl (by kernel_rfl) (by kernel_rfl) (by kernel_rfl) (fun _ _ _ h => h) (Or.inl ⟨by rfl, ?_⟩) hHeld ?_; rotate_left 1; focus (intro w hS; obtain ⟨s0, s1, s2, s3, s4, s5⟩ := hS; go_simp; try with_reducible rfl)); try simp only [Act.put, List.getElem_toArray, List.getElem_cons_zero, List.getElem_cons_succ, List.setIfInBounds_toArray, List.set_cons_zero, List.set_cons_succ])
                    ((refine wpAnyH_take (i := 33) (v := ?_) rfl (by kernel_rfl) (by kernel_rfl) (by kernel_rfl) (fun _ _ _ h => h) (Yields.yieldsIf (Or.inl ⟨by rfl, ?_⟩)) hHeld ?_; rotate_left 1; focus (intro w; go_simp; try with_reducible rfl)); try simp only [Act.put, List.getElem_toArray, List.getElem_cons_zero, List.getElem_cons_succ, List.setIfInBounds_toArray, List.set_cons_zero, List.set_cons_succ])
                    ((refine wpAnyH_take (i := 34) (v := ?_) rfl (by kernel_rfl) (by kernel_rfl) (by kernel_rfl) (fun _ _ _ h => h) (Yields.yieldsIf (Or.inl ⟨by rfl, ?_⟩)) hHeld ?_; rotate_left 1; focus (intro w; go_simp; try with_reducible rfl)); try simp only [Act.put, List.getElem_toArray, List.getElem_cons_zero, List.getElem_cons_succ, List.setIfInBounds_toArray, List.set_cons_zero, List.set_cons_succ])
                    ((refine wpAnyH_take (i := 35) (v := ?_) rfl (by kernel_rfl) (by kernel_rfl) (by kernel_rfl) (fun _ _ _ h => h) (Yields.yieldsIf (Or.inl ⟨by rfl, ?_⟩)) hHeld ?_; rotate_left 1; focus (intro w; go_simp; try with_reducible rfl)); try simp only [Act.put, List.getElem_toArray, List.getElem_cons_zero, List.getElem_cons_succ, List.setIfInBounds_toArray, List.set_cons_zero, List.set_cons_succ])
                    ((refine wpAnyH_take (i := 36) (v := ?_) rfl (by kernel_rfl) (by kernel_rfl) (by kernel_rfl) (fun _ _ _ h => h) (Or.inl ⟨by rfl, ?_⟩) hHeld ?_; rotate_left 1; focus (intro w hS; obtain ⟨s0, s1, s2, s3, s4, s5⟩ := hS; go_simp; try with_reducible rfl)); try simp only [Act.put, List.getElem_toArray, List.getElem_cons_zero, List.getElem_cons_succ, List.setIfInBounds_toArray, List.set_cons_zero, List.set_cons_succ])
                    ((refine wpAnyH_take (i := 37) (v := ?_) rfl (by kernel_rfl) (by kernel_rfl) (by kernel_rfl) (fun _ _ _ h => h) (Yields.yieldsIf (Or.inl ⟨by rfl, ?_⟩)) hHeld ?_; rotate_left 1; focus (intro w; go_simp; try with_reducible rfl)); try simp only [Act.put, List.getElem_toArray, List.getElem_cons_zero, List.getElem_cons_succ, List.setIfInBounds_toArray, List.set_cons_zero, List.set_cons_succ])
                    ((refine wpAnyH_take (i := 38) (v := ?_) rfl (by kernel_rfl) (by kernel_rfl) (by kernel_rfl) (fun _ _ _ h => h) (Yields.yieldsIf (Or.inl ⟨by rfl, ?_⟩)) hHeld ?_; rotate_left 1; focus (intro w; go_simp; try with_reducible rfl)); try simp only [Act.put, List.getElem_toArray, List.getElem_cons_zero, List.getElem_cons_succ, List.setIfInBounds_toArray, List.set_cons_zero, List.set_cons_succ])
                    ((refine wpAnyH_take (i := 39) (v := ?_) rfl (by kernel_rfl) (by kernel_rfl) (by kernel_rfl) (fun _ _ _ h => h) (Yields.yieldsIf (Or.inl ⟨by rfl, ?_⟩)) hHeld ?_; rotate_left 1; focus (intro w; go_simp; try with_reducible rfl)); try simp only [Act.put, List.getElem_toArray, List.getElem_cons_zero, List.getElem_cons_succ, List.setIfInBounds_toArray, List.set_cons_zero, List.set_cons_succ])
                    refine wpAnyH_done (by kernel_rfl) ?_ _
                    clear hHeld
                    go_wp2
                    go_roundw
                    case rel => exact ⟨j + 1, by go_num, hltj, by first | exact HP5.out | exact HP5.out.drew⟩
                    case measure => simp [intOf]; omega
              -- END r3
              · have e : nt = j := by omega
                subst e
                have hks := HD5.out.pure hp
                obtain ⟨e1, e2, e3, e4⟩ := aOut_all (now := two) (tt := 18446744073709551615) (L := restL two L) (rest_gt HS.out) (by omega)
                have hrl : ∀ x ∈ restL two L, x.dl < 18446744073709551615 := fun x hx => (HI.out.ks.t.at_.rng x ((rest_mem HS.out).1 hx).1).2.2.1
                obtain ⟨n1, n2⟩ := due_never hrl
                have hq := hks.advM (tt := 18446744073709551615) (by omega)
                rw [e1, e2, e3, e4, n1, n2] at hq
                have hsl : m3 + (restL two L).length = nt := by
                  have := due_rest_len (tt := two) (L := L)
                  rw [HM3.out, HLL.out] at this
                  exact this
                obtain ⟨mr, hmr⟩ : ∃ m, (restL two L).length = m := ⟨_, rfl⟩
                rw [hmr] at hq hsl
                have hslI : (m3 : Int) + (mr : Int) = (nt : Int) := by omega
                have wsl : IntKind.i64.wrap (nt : Int) = (nt : Int) := IntWalk.i64_in _ (by omega)
                have HQ := Lib.hid hq
                clear hp hks e1 e2 e3 e4 hrl n1 n2 hq hmr hsl hltj HP
                go_wp2_with (first
                  | (go_at_call 16; refine Calls.mono HQ.out ?_; rintro e w11 ⟨al, cl, rfl, -, ⟨D6, hk6, -, -⟩, -⟩
                     have HLn := Lib.hid (hk6.t.at_.len_)
                     have HKn2 := Lib.hid (HKn.out w11 hk6.pu)
                     have HPu6 := Lib.hid hk6.pu
                     clear hk6)
                  | (go_at_call 15; refine Calls.mono HLn.out ?_; rintro e w' ⟨rfl, rfl⟩)
                  | (go_at_call 10; refine Calls.mono HKn2.out ?_; rintro e w12 ⟨rfl, hp12⟩))
                go_ret
                exact ⟨rfl, HPu6.out.trans hp12⟩
end Go.Proofs.YtlalpenfgkfkpaaDoor
