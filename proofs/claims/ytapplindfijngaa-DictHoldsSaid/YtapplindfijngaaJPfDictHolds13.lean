/- Lemmas and contracts of functions, strung together out of 8 texts. No condition. -/
import Derived.Test.YtapplindfijngaaJPfDictHolds12
import Derived.Test.YtapplindfijngaaJPfDictHolds11
import Derived.Test.YtapplindfijngaaJPfDictHolds4
import Derived.Test.YtapplindfijngaaJPfDictHolds3
import Derived.Maps.RangeWalk
import Derived.Maps.OwnOps
import Derived.Maps.Views
import Derived.StringKeys
import Derived.WalkKit
import Derived.Test.YtapplindfijngaaJPfDictHolds10
/- law10: inserts, finds, sizes; known. -/
namespace Go.Proofs.Ytapplindfijngaa
open Go.RowKit Go.Shelf
set_option maxRecDepth 100000
attribute [local go_sem] Oper.semAt_some
theorem LogAt.celled {w : World} {D : Nat → Prop} {p : Nat} {L : List (Option Ent)} (h : LogAt w D p L) {k : Nat} (hk : D k) : ∃ cs T fz, w.heap[k]? = some (.cells cs T fz) := by
  obtain ⟨sv, M, rfl, h⟩ := h
  rcases (h.dd k).1 hk with rfl | e
  · exact ⟨_, _, _, h.box⟩
  · obtain ⟨c, e2⟩ := owns_type h.row e; exact ⟨_, _, _, e2⟩
theorem DictAt.celled {w : World} {D : Nat → Prop} {d seed : Nat} {same : Bool} {L : List (Option Ent)} {Gs : List Grp} (h : DictAt w D d seed same L Gs) {k : Nat} (hk : D k) : ∃ cs T fz, w.heap[k]? = some (.cells cs T fz) := by
  obtain ⟨q, p, sv, Dl, h1, h2, h3⟩ := h
  rcases (h3 k).1 hk with rfl | e | rfl | e
  · exact ⟨_, _, _, h1.box⟩
  · exact h1.log.celled e
  · exact ⟨_, _, _, h1.ix.box⟩
  · obtain ⟨c, e2⟩ := owns_type h1.ix.row e; exact ⟨_, _, _, e2⟩
/-- Blocks that are no dictionary's keep. -/
def OKeep (W W' : World) : Prop := ∀ (k : Nat) (o : Obj), W.heap[k]? = some o → (∀ (cs : Array Value) (T : TypeId) (fz : Nat × Nat), o = .cells cs T fz → T ≠ 65 ∧ T ≠ 92 ∧ T ≠ 36 ∧ T ≠ 85 ∧ T ≠ 89) → W'.heap[k]? = some o
theorem OKeep.of {W W' : World} {D : Nat → Prop} {d seed : Nat} {same : Bool} {L : List (Option Ent)} {Gs : List Grp} (h : DictAt W D d seed same L Gs) (hm : Mod D W W') : OKeep W W' := fun k o hk ht => by
  refine hm.heap (fun e => ?_) hk
  obtain ⟨cs, T, fz, hc⟩ := h.celled e
  rw [hk] at hc
  have := ht cs T fz (Option.some.inj hc)
  rcases h.types e (hk.trans hc) with e | e | e | e | e
  · exact this.1 e
  · exact this.2.1 e
  · exact this.2.2.1 e
  · exact this.2.2.2.1 e
  · exact this.2.2.2.2 e
section
variable {w W W' : World} {d seed : Nat} {same : Bool} {L : List (Option Ent)} {Gs : List Grp}
theorem inserts_ok (h : DG w W d seed same L Gs) (key : ByteArray) (hok : (Ent.mk key [] 0 1).Ok) (hL : L.length < 4194304) (hf : findK L key = none) (want : Int) (hw : (L.length : Int) = want) :
    Calls Try.prog 16 #[dPtr d, .string key, .int .u32 want] W fun e w' => e = .returned (.bool true) ∧ DG w w' d seed same (L ++ [some ⟨key, [], 0, 1⟩]) (putM (sumL seed same (L ++ [some ⟨key, [], 0, 1⟩])) Gs L.length) ∧ OKeep W w' := by
  subst hw
  obtain ⟨D, h1, h2, h3⟩ := h
  have HI := Lib.hid (dins_ok h1 ⟨key, [], 0, 1⟩ hok hL hf none 0 0 (ReadAt.nil _ _))
  have HP := Lib.hid h2; have HD := Lib.hid h3; have H1 := Lib.hid h1
  dsimp only at HI
  clear h1 h2 h3 hok hL hf
  go_enter Try.func16, Try.ntmps16
  go_wp2_with (go_at_call 8; refine Calls.mono HI.out ?_; rintro e w1 ⟨rfl, D', hd, hm, hg⟩)
  go_ret
  exact ⟨rfl, DG.step HP.out HD.out hd hm hg, OKeep.of H1.out hm⟩
theorem finds10_ok (h : DG w W d seed same L Gs) (key : ByteArray) (hkey : key.size ≤ 140737488355328) (want no : Int) (h0 : 0 ≤ want ∧ 0 ≤ no) (hv : findV L key = (want.toNat, no.toNat)) :
    Calls Try.prog 13 #[dPtr d, .string key, .int .u32 want, .int .i64 no] W fun e w' => e = .returned (.bool true) ∧ Pure W w' := by
  obtain ⟨D, h1, h2, h3⟩ := h
  obtain ⟨want, rfl⟩ := Int.eq_ofNat_of_zero_le h0.1
  obtain ⟨no, rfl⟩ := Int.eq_ofNat_of_zero_le h0.2
  have HI := Lib.hid (Find_any h1 key hkey)
  unfold dfindPost at HI
  rw [hv] at HI
  simp only [Int.toNat_natCast] at HI
  clear h1 h2 h3 hv h0
  go_enter Try.func13, Try.ntmps13
  go_wp2_with (go_at_call 10; refine Calls.mono HI.out ?_; rintro e w1 ⟨rfl, hp⟩)
  go_ret
  exact ⟨by simp, hp⟩
theorem sizes10_ok (h : DG w W d seed same L Gs) (a b c : Int) (ha : (L.length : Int) = a) (hb : (Gs.length : Int) = b) (hc : (tombN Gs : Int) = c) :
    Calls Try.prog 17 #[dPtr d, .int .i64 a, .int .i64 b, .int .i64 c] W fun e w' => e = .returned (.bool true) ∧ Pure W w' := by
  subst ha hb hc
  obtain ⟨D, h1, h2, h3⟩ := h
  have HI := Lib.hid (dsizes_ok h1)
  clear h1 h2 h3
  go_enter Try.func17, Try.ntmps17
  go_wp2_with (go_at_call 14; refine Calls.mono HI.out ?_; rintro e w1 ⟨rfl, hp⟩)
  go_ret
  exact ⟨by simp, hp⟩
theorem len10_ok (h : DG w W d seed same L Gs) (n : Int) (hn : (liveOf L : Int) = n) : Calls Try.prog 15 #[dPtr d] W fun e w' => e = .returned (.int .i64 n) ∧ W = w' := by
  subst hn
  obtain ⟨D, h1, h2, h3⟩ := h
  exact dlen_ok h1
end
end Go.Proofs.Ytapplindfijngaa

/- A dictionary's Insert, Set and Remove, whatever they are asked for. Conditions: values are read, the lengths are small. -/
namespace Go.Proofs.Ytapplindfijngaa
open Go.RowKit Go.Shelf
set_option maxRecDepth 100000

/-! ### Insert -/
def insE (L : List (Option Ent)) (x : Ent) : Int := if noE x = 0 then (match findK L x.key with | none => 0 | some _ => 11) else noE x
def insS (L : List (Option Ent)) (x : Ent) : Nat := if insE L x = 0 then L.length else 0
def insL (L : List (Option Ent)) (x : Ent) : List (Option Ent) := if insE L x = 0 then L ++ [some x] else L
theorem insE_ok {L : List (Option Ent)} {x : Ent} (h : insE L x = 0) : noE x = 0 ∧ findK L x.key = none := by
  unfold insE at h
  split at h
  · rename_i h0
    refine ⟨h0, ?_⟩
    split at h
    · assumption
    · cases h
  · exact absurd h ‹_›
section
variable {w w' : World} {D : Nat → Prop} {d seed : Nat} {same : Bool} {L : List (Option Ent)} {Gs : List Grp}
theorem insDX (h : DictAt w D d seed same L Gs) (hg : GB Gs) (hL : L.length < 4194304) (x : Ent) (hb : 0 ≤ x.birth) (hk : x.key.size ≤ 140737488355328) (a : Option Addr) (n c : Nat) (hx : ReadAt w (.slice a n c) 1 (bytesOf x.val)) (hn : n ≤ 140737488355328) :
    Calls Try.prog 8 #[dPtr d, .agg #[.string x.key, .slice a n c, .int .u64 x.dl, .int .u64 x.birth]] w fun e w' => ∃ D' Gs', e = .returned (.tuple #[.int .u32 (insS L x), .int .i64 (insE L x)]) ∧ DictAt w' D' d seed same (insL L x) Gs' ∧ GB Gs' ∧ Mod D w w' ∧ Grew D D' w := by
  by_cases hz : noE x = 0
  · have hok := noE_ok hz hb
    cases hf : findK L x.key with
    | none =>
      have e0 : insE L x = 0 := by unfold insE; rw [if_pos hz, hf]
      have hkp := h.keeps
      refine Calls.mono (dins_ok h x hok hL hf a n c hx) ?_
      rintro e w' ⟨rfl, D', h1, h2, h3⟩
      refine ⟨D', _, by unfold insS; rw [if_pos e0, e0], by unfold insL; rw [if_pos e0]; exact h1, ?_, h2, h3⟩
      have hki := hkp.insert hf (by omega)
      have h0 := liveOf_le' L
      exact gb_put hki.1 (by rw [hkp.used]; omega) (by omega) (fun c => by have := liveS_lt c; omega) hg
    | some t =>
      have e0 : insE L x = 11 := by unfold insE; rw [if_pos hz, hf]
      have e1 : ¬ insE L x = 0 := by rw [e0]; decide
      refine Calls.mono (dins_busy h x hok hf a n c hx) ?_
      rintro e w' ⟨rfl, hp⟩
      exact ⟨D, Gs, by unfold insS; rw [if_neg e1, e0]; rfl, by unfold insL; rw [if_neg e1]; exact h.pure hp, hg, Mod.of_pure hp, fun k hk => .inl hk⟩
  · have hn' : x.val.length = n := by have := read_length hx; rw [bytesOf_length] at this; omega
    have e0 : insE L x = noE x := by unfold insE; rw [if_neg hz]
    have e1 : ¬ insE L x = 0 := by rw [e0]; exact hz
    refine Calls.mono (dins_err h x.key a n c x.dl x.birth hk hn (noE x) (by unfold noE; rw [hn']) (by simpa using hz)) ?_
    rintro e w' ⟨rfl, hp⟩
    exact ⟨D, Gs, by unfold insS; rw [if_neg e1, e0]; rfl, by unfold insL; rw [if_neg e1]; exact h.pure hp, hg, Mod.of_pure hp, fun k hk => .inl hk⟩

/-! ### Remove -/
abbrev zEn0 : Ent := ⟨⟨#[]⟩, [], 0, 0⟩
def remE (L : List (Option Ent)) (s : Nat) : Ent := match L[s]? with
  | some (some x) => x
  | _ => zEn0
theorem remE_hit {s : Nat} {x : Ent} (h : L[s]? = some (some x)) : remE L s = x := by unfold remE; rw [h]
theorem remE_miss {s : Nat} (h : hasL L s = false) : remE L s = zEn0 := by
  unfold remE
  unfold hasL at h
  split at h
  · cases h
  · split
    · rename_i h1 _ _ h2; exact absurd h2 (h1 _)
    · rfl
theorem set_noneD {s : Nat} (h : hasL L s = false) : L.set s none = L := by
  by_cases hs : s < L.length
  · refine List.ext_getElem? (fun i => ?_)
    by_cases hi : s = i
    · subst hi
      rw [List.getElem?_set_self hs, List.getElem?_eq_getElem hs]
      cases he : L[s] with
      | none => rfl
      | some x => unfold hasL at h; rw [List.getElem?_eq_getElem hs, he] at h; cases h
    · rw [List.getElem?_set_ne hi]
  · exact List.set_eq_of_length_le (by omega)
theorem remDX (h : DictAt w D d seed same L Gs) (hg : GB Gs) (hL : L.length < 4194304) {s : Nat} (hs : s ≤ 4294967295) :
    Calls Try.prog 11 #[dPtr d, .int .u32 s] w fun e w' => ∃ a n c D' Gs', e = .returned (.tuple #[.agg #[.string (remE L s).key, .slice a n c, .int .u64 (remE L s).dl, .int .u64 (remE L s).birth], .int .i64 (noL L s)]) ∧ BytesAt w' (.slice a n c) (bytesOf (remE L s).val) ∧ Fresh w (.slice a n c) ∧
      DictAt w' D' d seed same (L.set s none) Gs' ∧ GB Gs' ∧ Mod D w w' ∧ Grew D D' w := by
  by_cases hh : hasL L s = true
  · obtain ⟨x, hx⟩ := hasL_iff.1 hh
    have hkp := h.keeps
    rw [remE_hit hx]
    refine Calls.mono (drem_ok h hx) ?_
    rintro e w' ⟨a, n, c, rfl, hb, hf, D', g1, g2, g3⟩
    exact ⟨a, n, c, D', _, by unfold noL; rw [if_pos hh], hb, hf, g1, gb_rem hkp (by omega) hx, g2, g3⟩
  · rw [Bool.not_eq_true] at hh
    rw [remE_miss hh, set_noneD hh]
    refine Calls.mono (drem_miss h hs hh) ?_
    rintro e w' ⟨rfl, hp⟩
    exact ⟨none, 0, 0, D, Gs, by unfold noL; rw [if_neg (by rw [hh]; decide)], World.ownsRow_nil _ _ _ _, (fun g hg => by cases hg), h.pure hp, hg, Mod.of_pure hp, fun k hk => .inl hk⟩

/-! ### Set -/
def updL (L : List (Option Ent)) (s : Nat) (vs : List UInt8) (dl : Int) : List (Option Ent) := match L[s]? with
  | some (some x) => L.set s (some (x.with vs dl))
  | _ => L
theorem updL_hit {s : Nat} {x : Ent} (h : L[s]? = some (some x)) (vs : List UInt8) (dl : Int) : updL L s vs dl = L.set s (some (x.with vs dl)) := by unfold updL; rw [h]
theorem updL_miss {s : Nat} (h : hasL L s = false) (vs : List UInt8) (dl : Int) : updL L s vs dl = L := by
  unfold updL
  unfold hasL at h
  split at h
  · cases h
  · split
    · rename_i h1 _ _ h2; exact absurd h2 (h1 _)
    · rfl
theorem updL_length (s : Nat) (vs : List UInt8) (dl : Int) : (updL L s vs dl).length = L.length := by
  unfold updL; split <;> simp
theorem upd_get {s : Nat} {vs : List UInt8} {dl : Int} {t : Nat} : ∀ {e : Ent}, (updL L s vs dl)[t]? = some (some e) → ∃ f : Ent, L[t]? = some (some f) ∧ f.key = e.key := by
  intro e he
  by_cases hh : hasL L s = true
  · obtain ⟨x, hx⟩ := hasL_iff.1 hh
    rw [updL_hit hx] at he
    by_cases hst : s = t
    · subst hst
      rw [List.getElem?_set_self (List.getElem?_eq_some_iff.1 hx).1] at he
      cases he
      exact ⟨x, hx, rfl⟩
    · rw [List.getElem?_set_ne hst] at he
      exact ⟨e, he, rfl⟩
  · rw [Bool.not_eq_true] at hh
    rw [updL_miss hh] at he
    exact ⟨e, he, rfl⟩
theorem get_upd {s : Nat} {vs : List UInt8} {dl : Int} {t : Nat} {f : Ent} (hf : L[t]? = some (some f)) : ∃ e : Ent, (updL L s vs dl)[t]? = some (some e) ∧ e.key = f.key := by
  by_cases hh : hasL L s = true
  · obtain ⟨x, hx⟩ := hasL_iff.1 hh
    rw [updL_hit hx]
    by_cases hst : s = t
    · subst hst
      rw [hx] at hf
      have e : x = f := by injection hf with hf; injection hf
      exact ⟨x.with vs dl, by rw [List.getElem?_set_self (List.getElem?_eq_some_iff.1 hx).1], by rw [e]; rfl⟩
    · exact ⟨f, by rw [List.getElem?_set_ne hst]; exact hf, rfl⟩
  · rw [Bool.not_eq_true] at hh
    rw [updL_miss hh]
    exact ⟨f, hf, rfl⟩
theorem findK_updL (s : Nat) (vs : List UInt8) (dl : Int) (key : ByteArray) : findK (updL L s vs dl) key = findK L key := by
  by_cases hh : hasL L s = true
  · obtain ⟨x, hx⟩ := hasL_iff.1 hh
    rw [updL_hit hx]
    exact findK_upd (y := x.with vs dl) hx rfl key
  · rw [Bool.not_eq_true] at hh
    rw [updL_miss hh]
theorem live_upd (s : Nat) (vs : List UInt8) (dl : Int) : liveOf (updL L s vs dl) = liveOf L := by
  by_cases hh : hasL L s = true
  · obtain ⟨x, hx⟩ := hasL_iff.1 hh
    rw [updL_hit hx]
    have h1 := liveOf_set hx
    have hx2 : (L.set s (some (x.with vs dl)))[s]? = some (some (x.with vs dl)) := List.getElem?_set_self (List.getElem?_eq_some_iff.1 hx).1
    have h2 := liveOf_set hx2
    rw [List.set_set] at h2
    omega
  · rw [Bool.not_eq_true] at hh
    rw [updL_miss hh]
theorem Keeps.upd (h : Keeps seed same L Gs) (s : Nat) (vs : List UInt8) (dl : Int) : Keeps seed same (updL L s vs dl) Gs := by
  refine ⟨(h.holds.congr (fun t ht => ?_)).of_iff (fun t => ?_), fun a b e f he hf hk => ?_, by rw [h.used, live_upd]⟩
  · obtain ⟨f, hf⟩ := ht
    obtain ⟨e, he, hk⟩ := get_upd (s := s) (vs := vs) (dl := dl) hf
    unfold sumL
    rw [keyL_some he, keyL_some hf, hk]
  · constructor
    · rintro ⟨f, hf⟩
      obtain ⟨e, he, _⟩ := get_upd (s := s) (vs := vs) (dl := dl) hf
      exact ⟨e, he⟩
    · rintro ⟨e, he⟩
      obtain ⟨f, hf, _⟩ := upd_get he
      exact ⟨f, hf⟩
  · obtain ⟨e', he', k1⟩ := upd_get he
    obtain ⟨f', hf', k2⟩ := upd_get hf
    exact h.keys a b e' f' he' hf' (by rw [k1, k2, hk])
theorem setL_ok {q : Nat} (h : LogAt w D q L) {s : Nat} (hs : s ≤ 4294967295) (a : Option Addr) (n c : Nat) (vs : List UInt8) (hv : ReadAt w (.slice a n c) 1 (bytesOf vs)) (hl : vs.length ≤ 65536) (dl : Int) :
    Calls Try.prog 27 #[logPtr q, .int .u32 s, .slice a n c, .int .u64 dl] w fun e w' => e = .returned (.int .i64 (noL L s)) ∧ LogAt w' D q (updL L s vs dl) ∧ Mod D w w' := by
  obtain ⟨sv, M, rfl, h⟩ := h
  have miss : hasL (M.map Prod.fst) s = false → slotOf M s = none → Calls Try.prog 27 #[logPtr q, .int .u32 s, .slice a n c, .int .u64 dl] w fun e w' => e = .returned (.int .i64 (noL (M.map Prod.fst) s)) ∧ LogAt w' D q (updL (M.map Prod.fst) s vs dl) ∧ Mod D w w' := fun hh hsl => by
    refine Calls.mono (Set_miss h hs hsl _ _) ?_
    rintro e w' ⟨rfl, hp⟩
    exact ⟨by unfold noL; rw [if_neg (by rw [hh]; decide)], by rw [updL_miss hh]; exact (h.pure hp).toAt, Mod.of_pure hp⟩
  cases e : M[s]? with
  | none => exact miss (by unfold hasL; rw [List.getElem?_map, e]; rfl) (by unfold slotOf; rw [e]; rfl)
  | some m =>
    obtain ⟨o, v⟩ := m
    cases o with
    | none => exact miss (by unfold hasL; rw [List.getElem?_map, e]; rfl) (by unfold slotOf; rw [e]; rfl)
    | some x =>
      have hx : (M.map Prod.fst)[s]? = some (some x) := by rw [List.getElem?_map, e]; rfl
      refine Calls.mono (Set_hit h e a n c vs hv hl dl) ?_
      rintro e w' ⟨rfl, v', h1, h2⟩
      refine ⟨by unfold noL; rw [if_pos (hasL_iff.2 ⟨x, hx⟩)], ?_, h2⟩
      have h3 := h1.toAt
      rw [List.map_set] at h3
      rw [updL_hit hx]
      exact h3
theorem setDX (h : DictAt w D d seed same L Gs) {s : Nat} (hs : s ≤ 4294967295) (a : Option Addr) (n c : Nat) (vs : List UInt8) (hv : ReadAt w (.slice a n c) 1 (bytesOf vs)) (hl : vs.length ≤ 65536) (dl : Int) :
    Calls Try.prog 9 #[dPtr d, .int .u32 s, .slice a n c, .int .u64 dl] w fun e w' => e = .returned (.int .i64 (noL L s)) ∧ DictAt w' D d seed same (updL L s vs dl) Gs ∧ Mod D w w' := by
  obtain ⟨q, p, sv, Dl, h1, h2, h3⟩ := h
  have HZ := Lib.hid (dzero_ok h1)
  have HSt := Lib.hid (setL_ok h1.log hs a n c vs hv hl dl)
  have hb := h1.box
  have HM := Lib.hid h1; have HK := Lib.hid h2; have HD := Lib.hid h3
  dsimp only [logPtr] at HSt
  clear h1 h2 h3 hv
  have hb_0 := cell_of_row _ _ 0 _ _ _ hb; have hb_1 := cell_of_row _ _ 1 _ _ _ hb; have hb_2 := cell_of_row _ _ 2 _ _ _ hb; have hb_3 := cell_of_row _ _ 3 _ _ _ hb; have hb_f := (fun j => frozen_of_row _ _ j _ _ hb); have hb_l := lt_of_block hb; simp at hb_0 hb_1 hb_2 hb_3; have H_hb := Lib.hid hb; clear hb
  generalize noL L s = er at *
  go_enter Try.func9, Try.ntmps9
  go_wp2_with (first
    | (go_at_call 21; refine Calls.mono HZ.out ?_; rintro e w' ⟨rfl, rfl⟩)
    | (go_at_call 27; refine Calls.mono HSt.out ?_; rintro e w2 ⟨rfl, hl2, hm2⟩))
  go_ret
  exact ⟨rfl, ⟨q, p, sv, Dl, dins_mem HM.out hl2 hm2, HK.out.upd s vs dl, HD.out⟩, hm2.mono (fun k _ hk => (HD.out k).2 (.inr (.inl hk)))⟩
theorem findsD (h : DictAt w D d seed same L Gs) (key : ByteArray) (hkey : key.size ≤ 140737488355328) (want no : Nat) (hv : findV L key = (want, no)) :
    Calls Try.prog 13 #[dPtr d, .string key, .int .u32 want, .int .i64 no] w fun e w' => e = .returned (.bool true) ∧ Pure w w' := by
  have HI := Lib.hid (Find_any h key hkey)
  unfold dfindPost at HI
  rw [hv] at HI
  clear h hv
  go_enter Try.func13, Try.ntmps13
  go_wp2_with (go_at_call 10; refine Calls.mono HI.out ?_; rintro e w1 ⟨rfl, hp⟩)
  go_ret
  exact ⟨by simp, hp⟩
theorem lenD (h : DictAt w D d seed same L Gs) (n : Nat) (hn : liveOf L = n) : Calls Try.prog 15 #[dPtr d] w fun e w' => e = .returned (.int .i64 n) ∧ Pure w w' := by
  subst hn
  exact Calls.mono (dlen_ok h) (by rintro e w' ⟨rfl, rfl⟩; exact ⟨rfl, Mod.refl _ _⟩)
end
end Go.Proofs.Ytapplindfijngaa

/- A map from keys to slot numbers, one more: what it says of a dictionary's entries, and how it is gone over. -/
namespace Go.Proofs.Ytapplindfijngaa
open Go.RowKit Go.Shelf Go.Maps
set_option maxRecDepth 100000

def kLit (k : ByteArray) : Lit := .string k.data.toList
theorem kLit_inj {a b : ByteArray} (h : kLit a = kLit b) : a = b := by
  unfold kLit at h
  injection h with h
  exact ByteArray.ext (Array.toList_inj.1 h)
theorem kLit_same (a b : ByteArray) : (kLit a).sameKey (kLit b) = decide (a = b) := by
  unfold kLit Lit.sameKey
  rw [Bool.eq_iff_iff]
  simp only [beq_iff_eq, decide_eq_true_eq]
  exact ⟨fun h => ByteArray.ext (Array.toList_inj.1 h), fun h => by rw [h]⟩
theorem kLit_key (a : ByteArray) : WideAt.IsKeyLit (kLit a) := trivial
structure MapOf (L : List (Option Ent)) (D : DataW Unit) : Prop where
  is : IsMap D
  at_ : ∀ key, D.atKey (kLit key) (.lit (.int .u32 0)) = .lit (.int .u32 (inV L key : Nat))
  has : ∀ (s : Nat) (e : Ent), L[s]? = some (some e) → Maps.has D (kLit e.key) = true
  short : ∀ key, Maps.has D (kLit key) = true → key.size ≤ 250
theorem MapOf.new : MapOf [] (.map []) := ⟨isMap_empty, fun key => rfl, fun s e h => by simp at h, fun key h => by cases h⟩
theorem MapOf.put {L L' : List (Option Ent)} {D : DataW Unit} (h : MapOf L D) {key : ByteArray} (hk : key.size ≤ 250) {v : Nat} (hv : ∀ k, inV L' k = if k = key then v else inV L k) (hl : ∀ (s : Nat) (e : Ent), L'[s]? = some (some e) → e.key = key ∨ ∃ t : Nat, L[t]? = some (some e)) :
    MapOf L' (D.put (kLit key) (.lit (.int .u32 v))) := by
  refine ⟨h.is.put _ _, fun k => ?_, fun s e he => ?_, fun k hh => ?_⟩
  · rw [hv]
    by_cases e : k = key
    · subst e
      rw [if_pos rfl, atKey_put_same h.is (kLit_key _)]
    · rw [if_neg e, atKey_put_other (fun c => e (kLit_inj c)), h.at_]
  · by_cases c : e.key = key
    · rw [c]; exact has_put_same h.is (kLit_key _) _
    · rcases hl s e he with c2 | ⟨t, ht⟩
      · exact absurd c2 c
      · rw [has_put_other (fun c3 => c (kLit_inj c3))]
        exact h.has t e ht
  · by_cases c : k = key
    · subst c; exact hk
    · rw [has_put_other (fun c3 => c (kLit_inj c3))] at hh
      exact h.short k hh
/-- .. where the keys keep their slot numbers. -/
theorem MapOf.same {L L' : List (Option Ent)} {D : DataW Unit} (h : MapOf L D) (hv : ∀ k, inV L' k = inV L k) (hl : ∀ (s : Nat) (e : Ent), L'[s]? = some (some e) → ∃ (t : Nat) (f : Ent), L[t]? = some (some f) ∧ f.key = e.key) : MapOf L' D :=
  ⟨h.is, fun k => by rw [hv]; exact h.at_ k, fun s e he => by obtain ⟨t, f, h1, h2⟩ := hl s e he; rw [← h2]; exact h.has t f h1, h.short⟩

/-! ### in memory -/
section
variable {H : Type} {P : Program} {S : Nat → Prop} {w w' : World} {k : TypeId} {R : Value → Option (DataW H × List MemPlace)} {b r n : Nat} {D : DataW H} {left : Lit → Bool} {cnt : Nat}
theorem owns_map_mod (h : w.ownsMap P k R b n D) (hm : Mod S w w') (hb : ¬ S b) : w'.ownsMap P k R b n D := by
  obtain ⟨es, clock, h1, h2⟩ := h
  exact ⟨es, clock, hm.heap hb h1, h2⟩
theorem ranges_mod (h : w.ranges P k R b r n D left cnt) (hm : Mod S w w') (hb : ¬ S b) (hr : ¬ S r) : w'.ranges P k R b r n D left cnt := by
  obtain ⟨es, clock, since, seen, c0, h1, h2, h3, h4, h5, h6⟩ := h
  exact ⟨es, clock, since, seen, c0, hm.heap hb h1, h2, h3, h4, hm.heap hr h5, h6⟩
theorem mod_grown1 (h : w.grownBy w' (some b)) : Mod (fun i => i = b) w w' := Mod.of_grown h (fun i e _ => by cases e; rfl)
theorem pure_grown (h : w.grownBy w' none) : Pure w w' := Mod.of_grown h (fun i e _ => by cases e)
end
theorem keyOf_string_inv {P : Program} {k : TypeId} (hk : P.underlying k = some .string) {key : Value} {kl : Lit} (h : keyOf P k key = some kl) : ∃ x : ByteArray, key = .string x ∧ kl = kLit x ∧ x.size ≤ maxLen := by
  rw [keyOf_string hk] at h
  cases key <;> simp [mapKey, hk] at h
  rename_i x
  exact ⟨x, rfl, h.2.symm, h.1⟩
section
variable {H : Type} {P : Program} (w : World) {ops : Array Oper} {rest : List Oper} {o : Oper} {a : Act} {Q : Exit → Act → World → Prop}
theorem wpList_next_ranges_si (hg : o.guard = none) (it : Operand) (hop : o.op = Op.next it false) (k e : TypeId) (qe : IntKind) (K : Keyed P k) (hk : P.underlying k = some .string) (he : P.underlying e = some (.int qe))
    (b r n : Nat) (D : DataW H) (left : Lit → Bool) (cnt : Nat) (hit : a.eval it = .pointer (some ⟨r, 0, none⟩)) (h : w.ranges P k (plainElem P e) b r n D left cnt)
    (hDone : cnt = 0 → (∀ kl, left kl = false) → wpList P ops Q rest (a.put o.dst (.tuple #[.bool false])) w)
    (hMore : ∀ (x : ByteArray) (c : Int) (w' : World) (cnt' : Nat), x.size ≤ maxLen → (Lit.int qe c).wf = true → left (kLit x) = true → (∀ zd, D.atKey (kLit x) zd = .lit (.int qe c)) → w'.ranges P k (plainElem P e) b r n D (fun z => left z && !z.sameKey (kLit x)) cnt' → cnt' < cnt →
      w.grownBy w' (some r) → w'.heap.size = w.heap.size → (Instr.entry (.pointer (some ⟨r, 0, none⟩))).run P w' = .ok (.tuple #[.string x, .int qe c]) w' → wpList P ops Q rest (a.put o.dst (.tuple #[.bool true, .string x, .int qe c])) w') :
    wpList P ops Q (o :: rest) a w :=
  wpList_next_ranges w hg it hop k K (plainElem P e) Value.string (Value.int qe) (fun key kl hkey => by obtain ⟨x, rfl, _⟩ := keyOf_string_inv hk hkey; exact ⟨x, rfl⟩) (fun v y hv => by obtain ⟨c, rfl, _⟩ := plainElem_int_inv he hv; exact ⟨c, rfl⟩)
    b r n D left cnt hit h hDone (fun x c kl y w' cnt' hkey hlk hv hat hrg hlt hgr hsz hen => by
      obtain ⟨x', ex, rfl, hwx⟩ := keyOf_string_inv hk hkey
      cases ex
      obtain ⟨c', ec, rfl, hwc⟩ := plainElem_int_inv he hv
      cases ec
      exact hMore x c w' cnt' hwx hwc hlk hat hrg hlt hgr hsz hen)
end

/-! ### how many were gone over -/
def wasN (left : Lit → Bool) (o : Option Ent) : Bool := match o with
  | some e => !left (kLit e.key)
  | none => false
def doneN (left : Lit → Bool) (L : List (Option Ent)) : Nat := L.countP (wasN left)
theorem doneN_start {L : List (Option Ent)} {D : DataW Unit} (h : MapOf L D) : doneN (Maps.has D) L = 0 := by
  unfold doneN
  rw [List.countP_eq_zero]
  intro o ho
  cases o with
  | none => simp [wasN]
  | some e =>
    obtain ⟨s, hs⟩ := List.getElem?_of_mem ho
    simp [wasN, h.has s e hs]
theorem doneN_end {L : List (Option Ent)} {left : Lit → Bool} (h : ∀ kl, left kl = false) : doneN left L = liveOf L := by
  unfold doneN liveOf
  refine List.countP_congr (fun o _ => ?_)
  cases o with
  | none => simp [wasN]
  | some e => simp [wasN, h]
theorem count_key {L : List (Option Ent)} (hk : KeysOk L) (key : ByteArray) : L.countP (isK key) = if inV L key = 0 then 0 else 1 := by
  unfold inV
  cases h : findK L key with
  | none =>
    rw [if_pos rfl, List.countP_eq_zero]
    intro o ho hi
    obtain ⟨e, rfl, he⟩ := isK_iff.1 hi
    obtain ⟨s, hs⟩ := List.getElem?_of_mem ho
    exact findK_none h s e hs he
  | some s =>
    rw [if_neg (by show ¬ s + 1 = 0; omega)]
    obtain ⟨x, hx, hxk⟩ := findK_some h
    obtain ⟨hs, hxe⟩ := List.getElem?_eq_some_iff.1 hx
    have hsplit : L = L.take s ++ some x :: L.drop (s + 1) := by
      conv => lhs; rw [← List.take_append_drop s L]
      rw [List.drop_eq_getElem_cons hs, hxe]
    have other : ∀ (t : Nat) (y : Ent), L[t]? = some (some y) → y.key = key → t = s := fun t y ht hy => hk t s y x ht hx (by rw [hy, hxk])
    have h1 : (L.take s).countP (isK key) = 0 := by
      rw [List.countP_eq_zero]
      intro o ho hi
      obtain ⟨e, rfl, he⟩ := isK_iff.1 hi
      obtain ⟨t, ht⟩ := List.getElem?_of_mem ho
      rw [List.getElem?_take] at ht
      split at ht
      · rename_i hts
        have := other t e ht he
        omega
      · cases ht
    have h2 : (L.drop (s + 1)).countP (isK key) = 0 := by
      rw [List.countP_eq_zero]
      intro o ho hi
      obtain ⟨e, rfl, he⟩ := isK_iff.1 hi
      obtain ⟨t, ht⟩ := List.getElem?_of_mem ho
      rw [List.getElem?_drop] at ht
      have := other _ e ht he
      omega
    rw [hsplit, List.countP_append, List.countP_cons, h1, h2, if_pos (isK_iff.2 ⟨x, rfl, hxk⟩)]
theorem doneN_step {L : List (Option Ent)} (hk : KeysOk L) {left : Lit → Bool} {key : ByteArray} (hl : left (kLit key) = true) :
    doneN (fun z => left z && !z.sameKey (kLit key)) L = doneN left L + if inV L key = 0 then 0 else 1 := by
  rw [← count_key hk key]
  unfold doneN
  clear hk
  induction L with
  | nil => rfl
  | cons o L ih =>
    rw [List.countP_cons, List.countP_cons, List.countP_cons, ih]
    cases o with
    | none => simp [wasN, isK]
    | some e =>
      by_cases hc : e.key = key
      · subst hc
        have h1 : isK e.key (some e) = true := isK_iff.2 ⟨e, rfl, rfl⟩
        simp [wasN, hl, h1, kLit_same]
        omega
      · have h1 : isK key (some e) = false := by
          cases h : isK key (some e) with
          | false => rfl
          | true => obtain ⟨y, e1, e2⟩ := isK_iff.1 h; cases e1; exact absurd e2 hc
        simp [wasN, h1, kLit_same, hc]
        omega
end Go.Proofs.Ytapplindfijngaa

/- Two dictionaries and a map side by side: what DictHolds keeps, and what each call leaves. Conditions: values are read, the lengths are small. -/
namespace Go.Proofs.Ytapplindfijngaa
open Go.RowKit Go.Shelf Go.Maps
set_option maxRecDepth 100000

theorem lawK : Keyed Try.prog 9 := string_keyed Try.underlying9
theorem zeroU (w : World) : (zeroValue 32).run Try.prog w = .ok (.int .u32 0) w := by kernel_rfl
/-- Both dictionaries and the map. -/
structure DH2 (w : World) (d1 s1 d2 s2 m : Nat) (D1 : Nat → Prop) (G1 : List Grp) (D2 : Nat → Prop) (G2 : List Grp) (L1 L2 : List (Option Ent)) (Dm : DataW Unit) (nn : Nat) (W : World) : Prop where
  pu : Pure w W
  a1 : DictAt W D1 d1 s1 false L1 G1
  a2 : DictAt W D2 d2 s2 true L2 G2
  g1 : GB G1
  g2 : GB G2
  f1 : ∀ k, D1 k → w.heap.size ≤ k
  f2 : ∀ k, D2 k → w.heap.size ≤ k
  dj : ∀ k, D1 k → ¬ D2 k
  mp : W.ownsMap Try.prog 9 (plainElem Try.prog 32) m nn Dm
  mb : w.heap.size ≤ m
section
variable {w W W' : World} {d1 s1 d2 s2 m : Nat} {D1 D2 D' : Nat → Prop} {G1 G2 G' : List Grp} {L1 L2 L' : List (Option Ent)} {Dm : DataW Unit} {nn : Nat}
theorem DictAt.notmap {D : Nat → Prop} {d seed : Nat} {same : Bool} {L : List (Option Ent)} {Gs : List Grp} (h : DictAt W D d seed same L Gs) (hm : W.ownsMap Try.prog 9 (plainElem Try.prog 32) m nn Dm) : ¬ D m := fun hk => by
  obtain ⟨cs, T, fz, e⟩ := h.celled hk
  obtain ⟨es, clock, e2, _⟩ := hm
  rw [e] at e2; cases e2
theorem DH2.pure (h : DH2 w d1 s1 d2 s2 m D1 G1 D2 G2 L1 L2 Dm nn W) (hp : Pure W W') : DH2 w d1 s1 d2 s2 m D1 G1 D2 G2 L1 L2 Dm nn W' :=
  ⟨h.pu.trans hp, h.a1.pure hp, h.a2.pure hp, h.g1, h.g2, h.f1, h.f2, h.dj, owns_map_mod h.mp hp (fun h => h), h.mb⟩
theorem nobytes {D : Nat → Prop} {d seed : Nat} {same : Bool} {L : List (Option Ent)} {Gs : List Grp} (h : DictAt W D d seed same L Gs) : ∀ k, k < W.heap.size → D k → ∀ cs fz, W.heap[k]? ≠ some (.cells cs 5 fz) := fun k _ hk cs fz e => by
  rcases h.types hk e with e | e | e | e | e <;> cases e
theorem DH2.step1 (h : DH2 w d1 s1 d2 s2 m D1 G1 D2 G2 L1 L2 Dm nn W) (ha : DictAt W' D' d1 s1 false L' G') (hb : GB G') (hm : Mod D1 W W') (hg : Grew D1 D' W) : DH2 w d1 s1 d2 s2 m D' G' D2 G2 L' L2 Dm nn W' := by
  refine ⟨h.pu.then hm (fun i hi e => by have := h.f1 i e; omega), ha, h.a2.frame hm (fun k hk e => h.dj k e hk) (nobytes h.a1), hb, h.g2, fun k hk => ?_, h.f2, fun k hk h2 => ?_, owns_map_mod h.mp hm (h.a1.notmap h.mp), h.mb⟩
  · rcases hg k hk with e | e
    · exact h.f1 k e
    · have := h.pu.size; omega
  · rcases hg k hk with e | e
    · exact h.dj k e h2
    · have := h.a2.lt h2; omega
theorem DH2.step2 (h : DH2 w d1 s1 d2 s2 m D1 G1 D2 G2 L1 L2 Dm nn W) (ha : DictAt W' D' d2 s2 true L' G') (hb : GB G') (hm : Mod D2 W W') (hg : Grew D2 D' W) : DH2 w d1 s1 d2 s2 m D1 G1 D' G' L1 L' Dm nn W' := by
  refine ⟨h.pu.then hm (fun i hi e => by have := h.f2 i e; omega), h.a1.frame hm (fun k hk e => h.dj k hk e) (nobytes h.a2), ha, h.g1, hb, h.f1, fun k hk => ?_, fun k hk h2 => ?_, owns_map_mod h.mp hm (h.a2.notmap h.mp), h.mb⟩
  · rcases hg k hk with e | e
    · exact h.f2 k e
    · have := h.pu.size; omega
  · rcases hg k h2 with e | e
    · exact h.dj k hk e
    · have := h.a1.lt hk; omega
theorem DH2.put (h : DH2 w d1 s1 d2 s2 m D1 G1 D2 G2 L1 L2 Dm nn W) {Dm' : DataW Unit} {n' : Nat} (hm : W'.ownsMap Try.prog 9 (plainElem Try.prog 32) m n' Dm') (hg : W.grownBy W' (some m)) : DH2 w d1 s1 d2 s2 m D1 G1 D2 G2 L1 L2 Dm' n' W' := by
  have hmm := mod_grown1 hg
  have no : ∀ k, k < W.heap.size → k = m → ∀ cs fz, W.heap[k]? ≠ some (.cells cs 5 fz) := fun k _ e cs fz e2 => by
    subst e
    obtain ⟨es, clock, e3, _⟩ := h.mp
    rw [e2] at e3; cases e3
  exact ⟨h.pu.then hmm (fun i hi e => by have := h.mb; omega), h.a1.frame hmm (fun k hk e => h.a1.notmap h.mp (e ▸ hk)) no, h.a2.frame hmm (fun k hk e => h.a2.notmap h.mp (e ▸ hk)) no, h.g1, h.g2, h.f1, h.f2, h.dj, hm, h.mb⟩
theorem DH2.ins1 (h : DH2 w d1 s1 d2 s2 m D1 G1 D2 G2 L1 L2 Dm nn W) (hL : L1.length < 4194304) (x : Ent) (hb : 0 ≤ x.birth) (hk : x.key.size ≤ 140737488355328) (a : Option Addr) (n c : Nat) (hx : ReadAt W (.slice a n c) 1 (bytesOf x.val)) (hn : n ≤ 140737488355328) :
    Calls Try.prog 8 #[dPtr d1, .agg #[.string x.key, .slice a n c, .int .u64 x.dl, .int .u64 x.birth]] W fun e w' => e = .returned (.tuple #[.int .u32 (insS L1 x), .int .i64 (insE L1 x)]) ∧ ∃ D' G', DH2 w d1 s1 d2 s2 m D' G' D2 G2 (insL L1 x) L2 Dm nn w' ∧ Mod D1 W w' := by
  refine Calls.mono (insDX h.a1 h.g1 hL x hb hk a n c hx hn) ?_
  rintro e w' ⟨D', G', rfl, q1, q2, q3, q4⟩
  exact ⟨rfl, D', G', h.step1 q1 q2 q3 q4, q3⟩
theorem DH2.ins2 (h : DH2 w d1 s1 d2 s2 m D1 G1 D2 G2 L1 L2 Dm nn W) (hL : L2.length < 4194304) (x : Ent) (hb : 0 ≤ x.birth) (hk : x.key.size ≤ 140737488355328) (a : Option Addr) (n c : Nat) (hx : ReadAt W (.slice a n c) 1 (bytesOf x.val)) (hn : n ≤ 140737488355328) :
    Calls Try.prog 8 #[dPtr d2, .agg #[.string x.key, .slice a n c, .int .u64 x.dl, .int .u64 x.birth]] W fun e w' => e = .returned (.tuple #[.int .u32 (insS L2 x), .int .i64 (insE L2 x)]) ∧ ∃ D' G', DH2 w d1 s1 d2 s2 m D1 G1 D' G' L1 (insL L2 x) Dm nn w' ∧ Mod D2 W w' := by
  refine Calls.mono (insDX h.a2 h.g2 hL x hb hk a n c hx hn) ?_
  rintro e w' ⟨D', G', rfl, q1, q2, q3, q4⟩
  exact ⟨rfl, D', G', h.step2 q1 q2 q3 q4, q3⟩
theorem DH2.rem1 (h : DH2 w d1 s1 d2 s2 m D1 G1 D2 G2 L1 L2 Dm nn W) (hL : L1.length < 4194304) {s : Nat} (hs : s ≤ 4294967295) :
    Calls Try.prog 11 #[dPtr d1, .int .u32 s] W fun e w' => ∃ a n c, e = .returned (.tuple #[.agg #[.string (remE L1 s).key, .slice a n c, .int .u64 (remE L1 s).dl, .int .u64 (remE L1 s).birth], .int .i64 (noL L1 s)]) ∧ BytesAt w' (.slice a n c) (bytesOf (remE L1 s).val) ∧
      ∃ D' G', DH2 w d1 s1 d2 s2 m D' G' D2 G2 (L1.set s none) L2 Dm nn w' ∧ Mod D1 W w' := by
  refine Calls.mono (remDX h.a1 h.g1 hL hs) ?_
  rintro e w' ⟨a, n, c, D', G', rfl, q0, _, q1, q2, q3, q4⟩
  exact ⟨a, n, c, rfl, q0, D', G', h.step1 q1 q2 q3 q4, q3⟩
theorem DH2.rem2 (h : DH2 w d1 s1 d2 s2 m D1 G1 D2 G2 L1 L2 Dm nn W) (hL : L2.length < 4194304) {s : Nat} (hs : s ≤ 4294967295) :
    Calls Try.prog 11 #[dPtr d2, .int .u32 s] W fun e w' => ∃ a n c, e = .returned (.tuple #[.agg #[.string (remE L2 s).key, .slice a n c, .int .u64 (remE L2 s).dl, .int .u64 (remE L2 s).birth], .int .i64 (noL L2 s)]) ∧ BytesAt w' (.slice a n c) (bytesOf (remE L2 s).val) ∧
      ∃ D' G', DH2 w d1 s1 d2 s2 m D1 G1 D' G' L1 (L2.set s none) Dm nn w' ∧ Mod D2 W w' := by
  refine Calls.mono (remDX h.a2 h.g2 hL hs) ?_
  rintro e w' ⟨a, n, c, D', G', rfl, q0, _, q1, q2, q3, q4⟩
  exact ⟨a, n, c, rfl, q0, D', G', h.step2 q1 q2 q3 q4, q3⟩
theorem grew_self (D : Nat → Prop) (w : World) : Grew D D w := fun _ h => .inl h
theorem DH2.set1 (h : DH2 w d1 s1 d2 s2 m D1 G1 D2 G2 L1 L2 Dm nn W) {s : Nat} (hs : s ≤ 4294967295) (a : Option Addr) (n c : Nat) (vs : List UInt8) (hv : ReadAt W (.slice a n c) 1 (bytesOf vs)) (hl : vs.length ≤ 65536) (dl : Int) :
    Calls Try.prog 9 #[dPtr d1, .int .u32 s, .slice a n c, .int .u64 dl] W fun e w' => e = .returned (.int .i64 (noL L1 s)) ∧ DH2 w d1 s1 d2 s2 m D1 G1 D2 G2 (updL L1 s vs dl) L2 Dm nn w' ∧ Mod D1 W w' := by
  refine Calls.mono (setDX h.a1 hs a n c vs hv hl dl) ?_
  rintro e w' ⟨rfl, q1, q2⟩
  exact ⟨rfl, h.step1 q1 h.g1 q2 (grew_self _ _), q2⟩
theorem DH2.set2 (h : DH2 w d1 s1 d2 s2 m D1 G1 D2 G2 L1 L2 Dm nn W) {s : Nat} (hs : s ≤ 4294967295) (a : Option Addr) (n c : Nat) (vs : List UInt8) (hv : ReadAt W (.slice a n c) 1 (bytesOf vs)) (hl : vs.length ≤ 65536) (dl : Int) :
    Calls Try.prog 9 #[dPtr d2, .int .u32 s, .slice a n c, .int .u64 dl] W fun e w' => e = .returned (.int .i64 (noL L2 s)) ∧ DH2 w d1 s1 d2 s2 m D1 G1 D2 G2 L1 (updL L2 s vs dl) Dm nn w' ∧ Mod D2 W w' := by
  refine Calls.mono (setDX h.a2 hs a n c vs hv hl dl) ?_
  rintro e w' ⟨rfl, q1, q2⟩
  exact ⟨rfl, h.step2 q1 h.g2 q2 (grew_self _ _), q2⟩
/-- The iterator of the map goes on: that is a block of its own. -/
theorem DH2.iter {left : Lit → Bool} {cnt r : Nat} (h : DH2 w d1 s1 d2 s2 m D1 G1 D2 G2 L1 L2 Dm nn W) (hr : W.ranges Try.prog 9 (plainElem Try.prog 32) m r nn Dm left cnt) (hg : W.grownBy W' (some r)) (h1 : ¬ D1 r) (h2 : ¬ D2 r) (h3 : ¬ r = m) (h4 : w.heap.size ≤ r)
    (hm : W'.ownsMap Try.prog 9 (plainElem Try.prog 32) m nn Dm) : DH2 w d1 s1 d2 s2 m D1 G1 D2 G2 L1 L2 Dm nn W' := by
  have hmm := mod_grown1 hg
  have no : ∀ k, k < W.heap.size → k = r → ∀ cs fz, W.heap[k]? ≠ some (.cells cs 5 fz) := fun k _ e cs fz e2 => by
    subst e
    obtain ⟨es, clock, since, seen, c0, q1, q2, q3, q4, q5, q6⟩ := hr
    rw [e2] at q5; cases q5
  exact ⟨h.pu.then hmm (fun i hi e => by omega), h.a1.frame hmm (fun k hk e => h1 (e ▸ hk)) no, h.a2.frame hmm (fun k hk e => h2 (e ▸ hk)) no, h.g1, h.g2, h.f1, h.f2, h.dj, hm, h.mb⟩
theorem DH2.look {L : List (Option Ent)} (h : DH2 w d1 s1 d2 s2 m D1 G1 D2 G2 L1 L2 Dm nn W) (hmo : MapOf L Dm) (key : ByteArray) (hk : key.size ≤ maxLen) :
    (Instr.lookup 31 (.map (some m)) (.string key) false).run Try.prog W = .ok (.int .u32 (inV L key : Nat)) W := by
  obtain ⟨c, hrun, hat, _⟩ := h.mp.lookup_int lawK Try.underlying31 Try.underlying32 (zeroU W) (key := .string key) (kl := kLit key) (Go.WideMaps.keyOf_string_mk Try.underlying9 hk)
  rw [hmo.at_ key] at hat
  injection hat with hat
  injection hat with _ hat
  rw [hrun, hat]
end
theorem ins_cases (L : List (Option Ent)) (x : Ent) : (insE L x = 0 ∧ inV L x.key = 0) ∨ (insE L x = 11 ∧ 0 < inV L x.key) ∨ insE L x = 2 ∨ insE L x = 5 := by
  unfold insE inV
  rcases noE_cases x with h | h | h
  · rw [h, if_pos rfl]
    cases findK L x.key with
    | none => exact .inl ⟨rfl, rfl⟩
    | some t => exact .inr (.inl ⟨rfl, Nat.succ_pos t⟩)
  · rw [h, if_neg (by decide)]; exact .inr (.inr (.inl rfl))
  · rw [h, if_neg (by decide)]; exact .inr (.inr (.inr rfl))
theorem insS_le {L : List (Option Ent)} (h : LogOk L) (x : Ent) : insS L x ≤ 4194304 := by
  unfold insS; split
  · exact h.len
  · omega
theorem findV_le {L : List (Option Ent)} (h : LogOk L) (key : ByteArray) : (findV L key).1 ≤ 4194304 := by
  unfold findV
  split
  · rename_i s hs
    obtain ⟨x, h1, _⟩ := findK_some hs
    have := (List.getElem?_eq_some_iff.1 h1).1
    have := h.len
    show s ≤ _
    omega
  · exact Nat.zero_le _
theorem findV_zero {L : List (Option Ent)} {key : ByteArray} (h : inV L key = 0) : findV L key = (0, 9) := by
  unfold inV at h; unfold findV
  split at h
  · cases h
  · rename_i h2; rw [h2]
theorem findV_pos {L : List (Option Ent)} {key : ByteArray} {c : Nat} (h : inV L key = c + 1) : findV L key = (c, 0) := by
  unfold inV at h; unfold findV
  split at h
  · rename_i s h2; rw [h2]; injection h with h; rw [h]
  · cases h
theorem inV_le {L : List (Option Ent)} (h : LogOk L) (key : ByteArray) : inV L key ≤ 4194305 := by
  have := findV_le h key
  unfold inV findV at *
  split
  · rename_i s h2; rw [h2] at this; show s + 1 ≤ _; have h3 : s ≤ 4194304 := this; omega
  · omega
theorem lit_u32 {a b : Int} (h : (DataW.lit (.int .u32 a) : DataW Unit) = .lit (.int .u32 b)) : a = b := by injection h with h; injection h
theorem doneN_le (left : Lit → Bool) (L : List (Option Ent)) : doneN left L ≤ L.length := List.countP_le_length
theorem insL_length (L : List (Option Ent)) (x : Ent) : (insL L x).length ≤ L.length + 1 := by
  unfold insL; split <;> simp
theorem insL_miss {L : List (Option Ent)} {x : Ent} (h : insE L x ≠ 0) : insL L x = L := by unfold insL; rw [if_neg h]
theorem MapOf.ins {L : List (Option Ent)} {D : DataW Unit} (h : MapOf L D) (hk : KeysOk L) {x : Ent} (hb : 0 ≤ x.birth) (h0 : insE L x = 0) : MapOf (insL L x) (D.put (kLit x.key) (.lit (.int .u32 ((insS L x + 1 : Nat) : Int)))) := by
  obtain ⟨h1, h2⟩ := insE_ok h0
  have hok := noE_ok h1 hb
  unfold insL insS
  rw [if_pos h0, if_pos h0]
  refine h.put hok.k1 (fun k => inV_app hk h2 k) (fun s e he => ?_)
  rw [List.getElem?_append] at he
  split at he
  · exact .inr ⟨s, he⟩
  · rw [List.getElem?_singleton] at he
    split at he
    · injection he with he; injection he with he; exact .inl (by rw [he])
    · cases he
theorem MapOf.del {L : List (Option Ent)} {D : DataW Unit} (h : MapOf L D) (hk : KeysOk L) (hl : LogOk L) {s : Nat} {x : Ent} (hx : L[s]? = some (some x)) : MapOf (L.set s none) (D.put (kLit x.key) (.lit (.int .u32 ((0 : Nat) : Int)))) := by
  refine h.put (hl.ent x (List.mem_of_getElem? hx)).k1 (fun k => inV_del hk hx k) (fun t e he => .inr ⟨t, ?_⟩)
  by_cases hst : s = t
  · subst hst
    rw [List.getElem?_set_self (List.getElem?_eq_some_iff.1 hx).1] at he
    cases he
  · rwa [List.getElem?_set_ne hst] at he
theorem MapOf.upd {L : List (Option Ent)} {D : DataW Unit} (h : MapOf L D) (s : Nat) (vs : List UInt8) (dl : Int) : MapOf (updL L s vs dl) D :=
  h.same (fun k => by unfold inV; rw [findK_updL]) (fun t e he => by obtain ⟨f, h1, h2⟩ := upd_get he; exact ⟨t, f, h1, h2⟩)
theorem bytes_mod {W W' : World} {D : Nat → Prop} {d seed : Nat} {same : Bool} {L : List (Option Ent)} {Gs : List Grp} {v : Value} {xs : List Value} (h : DictAt W D d seed same L Gs) (hb : BytesAt W v xs) (hm : Mod D W W') : BytesAt W' v xs :=
  owns_modT hb hm (fun i hi _ => by
    obtain ⟨cs, T, fz, e⟩ := h.celled hi
    refine ⟨cs, T, fz, e, ?_⟩
    rcases h.types hi e with rfl | rfl | rfl | rfl | rfl <;> decide)
theorem bytes_pure {X W : World} {v : Value} {l : List UInt8} (h : BytesAt X v (bytesOf l)) (hW : Pure X W) : BytesAt W v (bytesOf l) := owns_mod h hW (fun _ _ h => h)
theorem bytes_rd {X : World} {v : Value} {l : List UInt8} (h : BytesAt X v (bytesOf l)) : ReadAt X v 1 (bytesOf l) := BytesAt.read h (bytesOf_one _)
def S11 (b : Nat) (v1 v3 v4 : Value) (w' : World) : Prop := w'.cell? ⟨b, 1, none⟩ = some v1 ∧ w'.cell? ⟨b, 3, none⟩ = some v3 ∧ w'.cell? ⟨b, 4, none⟩ = some v4
theorem S11.mod {b : Nat} {v1 v3 v4 : Value} {X Y : World} {S : Nat → Prop} (h : S11 b v1 v3 v4 X) (h1 : ¬ S b) (hm : Mod S X Y) : S11 b v1 v3 v4 Y := ⟨hm.cell h1 h.1, hm.cell h1 h.2.1, hm.cell h1 h.2.2⟩
/-- What holds at each round's head, behind i acts at most. -/
def DHI (w : World) (d1 s1 d2 s2 m i : Nat) (W : World) : Prop :=
  ∃ D1 G1 D2 G2 L Dm nn, L.length ≤ i ∧ nn ≤ i ∧ MapOf L Dm ∧ DH2 w d1 s1 d2 s2 m D1 G1 D2 G2 L L Dm nn W
end Go.Proofs.Ytapplindfijngaa

/- law10.small: the numbers of calls and of bytes. Condition: the acts are read. -/
namespace Go.Proofs.Ytapplindfijngaa
open Go.RowKit Go.Shelf
set_option maxRecDepth 100000

theorem cell_addA {W : World} {ad : Addr} {k j : Nat} {u : Value} (h : W.cell? (ad.add (k + (j + 1))) = some u) : W.cell? ⟨(ad.add k).block, (ad.add k).off + (j + 1), none⟩ = some u := by
  rw [← Go.Deep.add_add] at h
  unfold Addr.add at h ⊢
  rw [if_neg (by omega)] at h
  exact h
structure ActAt (W : World) (ad : Addr) (i : Nat) (t : AIn) : Prop where
  c0 : W.cell? (ad.add (i * 6)) = some (.int .i64 t.what)
  c1 : W.cell? ⟨(ad.add (i * 6)).block, (ad.add (i * 6)).off + 1, none⟩ = some (.int .u32 t.slot)
  c2 : W.cell? ⟨(ad.add (i * 6)).block, (ad.add (i * 6)).off + 2, none⟩ = some (.string t.y.x.key)
  c3 : W.cell? ⟨(ad.add (i * 6)).block, (ad.add (i * 6)).off + 3, none⟩ = some (.slice t.y.a t.y.n t.y.c)
  c4 : W.cell? ⟨(ad.add (i * 6)).block, (ad.add (i * 6)).off + 4, none⟩ = some (.int .u64 t.y.x.dl)
  c5 : W.cell? ⟨(ad.add (i * 6)).block, (ad.add (i * 6)).off + 5, none⟩ = some (.int .u64 t.y.x.birth)
theorem acts_at {W : World} {a : Option Addr} {n c : Nat} {es : List AIn} (h : ReadAt W (.slice a n c) 6 (es.flatMap aCells)) (hn : es.length = n) {i : Nat} {t : AIn} (ht : es[i]? = some t) : ∃ ad, a = some ad ∧ ActAt W ad i t := by
  obtain ⟨a', n', c', he, hl, _, h0, hc⟩ := h
  cases he
  have hi := (List.getElem?_eq_some_iff.1 ht).1
  have hcell : ∀ ad, a = some ad → ∀ j u, (aCells t)[j]? = some u → W.cell? (ad.add (i * 6 + j)) = some u := fun ad had j u hu => by
    have hj : j < 6 := (List.getElem?_eq_some_iff.1 hu).1
    have h1 := flat_get aCells 6 (fun _ => rfl) j hj es i
    rw [ht] at h1
    exact hc ad had _ _ (h1.trans hu)
  cases a with
  | none => have := h0 rfl; omega
  | some ad =>
    exact ⟨ad, rfl, hcell ad rfl 0 _ rfl, cell_addA (j := 0) (hcell ad rfl 1 _ rfl), cell_addA (j := 1) (hcell ad rfl 2 _ rfl), cell_addA (j := 2) (hcell ad rfl 3 _ rfl), cell_addA (j := 3) (hcell ad rfl 4 _ rfl), cell_addA (j := 4) (hcell ad rfl 5 _ rfl)⟩
def SmallOk (es : List AIn) : Prop := es.length ≤ 80 ∧ ∀ t ∈ es, t.y.x.key.size ≤ 300 ∧ t.y.n ≤ 300
def smallPost (w : World) (es : List AIn) (e : Ending) (w' : World) : Prop := ∃ r : Bool, e = .returned (.bool r) ∧ (r = true → SmallOk es) ∧ Pure w w'
set_option maxHeartbeats 2000000 in
theorem small_ok {w : World} {a : Option Addr} {n c : Nat} {es : List AIn} (h : ReadAt w (.slice a n c) 6 (es.flatMap aCells)) (hn : es.length = n) (hok : ∀ t ∈ es, AOk w t) (hl : n ≤ 9223372036854775807) :
    Calls Try.prog 4 #[.slice a n c] w (smallPost w es) := by
  have HR := Lib.hid h; have HN := Lib.hid hn; have HOK := Lib.hid hok
  unfold smallPost
  clear h hn hok
  have wn : IntKind.i64.wrap (n : Int) = n := IntWalk.i64_in _ (by omega)
  go_enter Try.func4, Try.ntmps4
  go_upto_region 2 with fail
  go_loopw [3] (fun v3 wr => ∃ i, v3 = .int .i64 (i : Nat) ∧ i ≤ n ∧ i ≤ 81 ∧ (∀ (j : Nat) (t : AIn), j < i → es[j]? = some t → t.y.x.key.size ≤ 300 ∧ t.y.n ≤ 300) ∧ Pure w wr) (fun v3 _ => 100 - (intOf v3).toNat)
  case atStart => exact ⟨0, rfl, Nat.zero_le _, Nat.zero_le _, fun j t hj => by omega, Mod.refl _ _⟩
  case round =>
    obtain ⟨i, rfl, hi, hi81, hsm, hpu⟩ := hrel
    have HSM := Lib.hid hsm; have HPU := Lib.hid hpu
    clear hsm hpu
    by_cases hlt : i < n
    · by_cases h81 : i < 81
      · have hlt' : (i : Int) < (n : Int) := by omega
        have h81' : (i : Int) < 81 := by omega
        have i0 : (0 : Int) ≤ (i : Int) := by omega
        have wi : IntKind.i64.wrap ((i : Int) + 1) = (i : Int) + 1 := IntWalk.i64_in _ (by omega)
        have d0 : decide (i < n) = true := decide_eq_true hlt
        have d1 : decide (i < 81) = true := decide_eq_true h81
        obtain ⟨t, ht⟩ : ∃ t, es[i]? = some t := ⟨_, List.getElem?_eq_getElem (by rw [HN.out]; exact hlt)⟩
        obtain ⟨ad, had, hat⟩ := acts_at (HR.out.frame HPU.out (fun _ _ h => h)) HN.out ht
        subst had
        have hOk := (HOK.out t (List.mem_of_getElem? ht)).e
        have hky := hOk.key
        have hny := hOk.n0
        have z2 := hat.c2; have z3 := hat.c3
        have HT := Lib.hid ht
        clear ht hat hOk
        have hnext : t.y.x.key.size ≤ 300 → t.y.n ≤ 300 → ∀ (j : Nat) (t' : AIn), j < i + 1 → es[j]? = some t' → t'.y.x.key.size ≤ 300 ∧ t'.y.n ≤ 300 := fun h1 h2 j t' hj ht' => by
          rcases Nat.lt_or_ge j i with h3 | h3
          · exact HSM.out j t' h3 ht'
          · have : j = i := by omega
            subst this
            rw [HT.out] at ht'; cases ht'
            exact ⟨h1, h2⟩
        have HNX := Lib.hid hnext
        clear hnext
        generalize t.y.x.key = key at *
        generalize t.y.n = yn at *
        generalize t.y.a = ya at *
        generalize t.y.c = yc at *
        have wk : IntKind.i64.wrap (key.size : Int) = key.size := IntWalk.i64_in _ (by omega)
        have wy : IntKind.i64.wrap (yn : Int) = yn := IntWalk.i64_in _ (by omega)
        by_cases e1 : 300 < key.size
        · have f1 : decide (300 < (key.size : Int)) = true := decide_eq_true (by omega)
          have f1n : decide (300 < key.size) = true := decide_eq_true e1
          go_wp2
          go_ret
          exact ⟨false, rfl, (fun h => by cases h), HPU.out⟩
        have f1 : decide (300 < (key.size : Int)) = false := decide_eq_false (by omega)
        have f1n : decide (300 < key.size) = false := decide_eq_false e1
        by_cases e2 : 300 < yn
        · have f2 : decide (300 < (yn : Int)) = true := decide_eq_true (by omega)
          have f2n : decide (300 < yn) = true := decide_eq_true e2
          go_wp2
          go_ret
          exact ⟨false, rfl, (fun h => by cases h), HPU.out⟩
        have f2 : decide (300 < (yn : Int)) = false := decide_eq_false (by omega)
        have f2n : decide (300 < yn) = false := decide_eq_false e2
        go_wp2
        go_roundw
        case rel => exact ⟨i + 1, by go_num, hlt, by omega, HNX.out (by omega) (by omega), HPU.out⟩
        case measure => simp [intOf]; omega
      · have h81' : decide ((i : Int) < 81) = false := decide_eq_false (by omega)
        have h81n : decide (i < 81) = false := decide_eq_false h81
        have hlt' : (i : Int) < (n : Int) := by omega
        have d0 : decide (i < n) = true := decide_eq_true hlt
        have hn80 : decide ((n : Int) ≤ 80) = false := decide_eq_false (by omega)
        have hn80n : decide (n ≤ 80) = false := decide_eq_false (by omega)
        go_wp2
        go_ret
        exact ⟨false, by first | rfl | simp [hn80n], (fun h => by cases h), HPU.out⟩
    · have e : n = i := by omega
      subst e
      have d0 : decide (n < n) = false := decide_eq_false (Nat.lt_irrefl _)
      clear hlt hi
      go_wp2
      go_ret
      refine ⟨decide (n ≤ 80), by first | rfl | (simp; omega), fun h => ⟨by rw [HN.out]; exact of_decide_eq_true h, fun t ht => ?_⟩, HPU.out⟩
      obtain ⟨j, hj⟩ := List.getElem?_of_mem ht
      exact HSM.out j t (by have := (List.getElem?_eq_some_iff.1 hj).1; rw [HN.out] at this; exact this) hj
end Go.Proofs.Ytapplindfijngaa

/- dict.Of: the dictionary of a log, or the error. Condition: the log is made. -/
namespace Go.Proofs.Ytapplindfijngaa
open Go.RowKit Go.Shelf
set_option maxRecDepth 100000
attribute [local go_sem] Oper.semAt_some

/-! ### the index of some of a log's entries -/
structure Part (seed : Nat) (same : Bool) (L : List (Option Ent)) (S : Nat → Prop) (Gs : List Grp) : Prop where
  holds : Holds (sumL seed same L) S Gs
  sub : ∀ s, S s → liveS L s
  uniq : ∀ s t, S s → S t → keyL L s = keyL L t → s = t
/-- What is found among them. -/
def foundIn (L : List (Option Ent)) (S : Nat → Prop) (key : ByteArray) (r : Nat × Nat) : Prop :=
  (∃ s, S s ∧ keyL L s = key ∧ r = (s, 0)) ∨ ((∀ s, S s → keyL L s ≠ key) ∧ r = (0, 9))
theorem Part.find {seed : Nat} {same : Bool} {L : List (Option Ent)} {S : Nat → Prop} {Gs : List Grp} (h : Part seed same L S Gs) {w w' : World} {D : Nat → Prop} {p : Nat} {sv : Value} {key : ByteArray} {C : TypeId → Prop} {J : List Nat → World → Prop} {e : Ending}
    (hp : IFindPost w D p sv Gs (sumS seed same key) (fun _ s => keyL L s == key) C J e w') : ∃ r, foundIn L S key r ∧ e = .returned (.tuple #[.int .u32 (r.1 : Nat), .int .i64 (r.2 : Nat)]) := by
  obtain ⟨_, _, ⟨a, x, post, h1, h2, h3, h4, h5⟩ | ⟨h1, h2, h3⟩⟩ := hp
  · have hx : x ∈ seenM Gs (sumS seed same key) := by rw [h1]; simp
    have hS := full_slot h.holds hx
    have hk : (keyL L (slotAt Gs x) == key) = true := h3
    exact ⟨(slotAt Gs x, 0), .inl ⟨_, hS, (ba_beq _ _).1 hk, rfl⟩, h4⟩
  · refine ⟨(0, 9), .inr ⟨fun s hs hk => ?_, rfl⟩, h2⟩
    obtain ⟨i, j, hm, hF⟩ := h.holds.find_some (s := s) hs
    have e1 : sumL seed same L s = sumS seed same key := by unfold sumL; rw [hk]
    rw [e1] at hm
    unfold findM at hm
    have hx := List.mem_of_find?_eq_some hm
    have := falses_mem h1 _ (List.mem_map.2 ⟨_, hx, rfl⟩)
    rw [hF.slot, hk, (ba_beq key key).2 rfl] at this
    cases this
theorem part_new (seed : Nat) (same : Bool) (L : List (Option Ent)) : Part seed same L (fun _ => False) (newG 1) :=
  ⟨newG_holds _ ⟨0, by decide, rfl⟩, fun _ h => h.elim, fun _ _ h => h.elim⟩
theorem Part.keeps' {seed : Nat} {same : Bool} {L : List (Option Ent)} {S S' : Nat → Prop} {Gs : List Grp} (h : Part seed same L S Gs) (hS : ∀ s, S s ↔ S' s) : Part seed same L S' Gs :=
  ⟨h.holds.of_iff hS, fun s hs => h.sub s ((hS s).2 hs), fun s t hs ht hk => h.uniq s t ((hS s).2 hs) ((hS t).2 ht) hk⟩
theorem Part.keeps {seed : Nat} {same : Bool} {L : List (Option Ent)} {S : Nat → Prop} {Gs : List Grp} (h : Part seed same L S Gs) (hS : ∀ s, S s ↔ liveS L s) (hu : usedN Gs = liveOf L) : Keeps seed same L Gs :=
  ⟨h.holds.of_iff hS, fun s t e f h1 h2 hk => h.uniq s t ((hS s).2 ⟨e, h1⟩) ((hS t).2 ⟨f, h2⟩) (by rw [keyL_some h1, keyL_some h2, hk]), hu⟩
section
variable {w : World} {d q p : Nat} {sv : Value} {Dl : Nat → Prop} {seed : Nat} {same : Bool} {L : List (Option Ent)} {Gs : List Grp}
def dfindGPost (w : World) (L : List (Option Ent)) (S : Nat → Prop) (key : ByteArray) (e : Ending) (w' : World) : Prop :=
  ∃ r, foundIn L S key r ∧ e = .returned (.tuple #[.int .u32 (r.1 : Nat), .int .i64 (r.2 : Nat)]) ∧ Pure w w'
set_option maxHeartbeats 1000000 in
theorem dfindG_ok {Sx : Nat → Prop} (h : DictMem w d q p sv Dl seed same L Gs) (hk : Part seed same L Sx Gs) (key : ByteArray) (hkey : key.size ≤ 140737488355328) : Calls Try.prog 10 #[dPtr d, .string key] w (dfindGPost w L Sx key) := by
  have hp0 : Pure w ((w.alloc (.cells #[.pointer (some ⟨d, 0, none⟩)] 26)).alloc (.cells #[.string key] 9)) := ((Mod.refl _ w).alloc _).alloc _
  have z2 := heap_keep (o := .cells #[.string key] 9) (heap_new (w := w) (o := .cells #[.pointer (some ⟨d, 0, none⟩)] 26 (0, 0)) rfl)
  have z3 := heap_new (w := w.alloc (.cells #[.pointer (some ⟨d, 0, none⟩)] 26)) (o := .cells #[.string key] 9 (0, 0)) (n := w.heap.size + 1) (by simp)
  have HP := Lib.hid hp0
  have HM := Lib.hid (h.pure hp0)
  have HZ := Lib.hid (dzero_ok (h.pure hp0))
  have HSum := Lib.hid (fun W => HSum_ok seed same h.sd key hkey W)
  have hb := (h.pure hp0).box
  have HKE := Lib.hid hk
  have hsl : sumS seed same key < 18446744073709551616 := mixM_lt
  clear h hk hp0
  go_enter Try.func10, Try.ntmps10
  go_upto_region 1 with fail
  generalize ((w.alloc (.cells #[.pointer (some ⟨d, 0, none⟩)] 26)).alloc (.cells #[.string key] 9)) = W1 at *
  obtain ⟨b, hbe⟩ : ∃ b, w.heap.size = b := ⟨_, rfl⟩
  rw [hbe] at z2 z3 ⊢
  have HB := Lib.hid hbe
  clear hbe
  have HSame := Lib.hid (fun (W : World) (hW : Pure W1 W) => (⟨enters_of Try.func30 (by kernel_rfl) rfl, fun pre s W' hs hJ => by
      have := (callsIn_wide (n := 0)).2 (dfind1_ok (HM.out.pure hJ) (hJ.heap (fun h => h) z2) (hJ.heap (fun h => h) z3) s hs)
      exact this.mono (fun e w' ⟨h1, h2⟩ => ⟨h1, hJ.trans h2, ModC.of_pure h2⟩), fun pre A B hJ hm => hJ.then hm (fun i hi hs => by have := hs.1; have := hW.size; omega), fun _ h => h.elim, hW⟩ :
    SameOk Try.prog 30 #[.pointer (some ⟨b, 0, none⟩), .pointer (some ⟨b + 1, 0, none⟩)] (fun _ s => keyL L s == key) (fun _ => False) (fun _ W' => Pure W1 W') W))
  have HF := Lib.hid (fun (W : World) (hW : Pure W1 W) => IFind_ok (HM.out.ix.pure hW) _ hsl (HSame.out W hW))
  obtain ⟨hh, hhe⟩ : ∃ hh, sumS seed same key = hh := ⟨_, rfl⟩
  rw [hhe] at HF HSum hsl
  have HHE := Lib.hid hhe
  clear hhe HSame
  have hb_0 := cell_of_row _ _ 0 _ _ _ hb; have hb_1 := cell_of_row _ _ 1 _ _ _ hb; have hb_2 := cell_of_row _ _ 2 _ _ _ hb; have hb_3 := cell_of_row _ _ 3 _ _ _ hb; have hb_f := (fun j => frozen_of_row _ _ j _ _ hb); have hb_l := lt_of_block hb; simp at hb_0 hb_1 hb_2 hb_3; have H_hb := Lib.hid hb; clear hb
  have z2_0 := cell_of_row _ _ 0 _ _ _ z2; have z2_f := (fun j => frozen_of_row _ _ j _ _ z2); have z2_l := lt_of_block z2; simp at z2_0; have H_z2 := Lib.hid z2; clear z2
  have z3_0 := cell_of_row _ _ 0 _ _ _ z3; have z3_f := (fun j => frozen_of_row _ _ j _ _ z3); have z3_l := lt_of_block z3; simp at z3_0; have H_z3 := Lib.hid z3; clear z3
  go_upto_region 3 with (go_at_call 21; refine Calls.mono HZ.out ?_; rintro e w' ⟨rfl, rfl⟩)
  go_region_held3 (fun w' => w'.cell? ⟨d, 3, none⟩ = some (.pointer (some ⟨p, 0, none⟩)) ∧ w'.cell? ⟨d, 1, none⟩ = some (.int .u64 seed) ∧ w'.cell? ⟨d, 2, none⟩ = some (.bool same) ∧ w'.cell? ⟨b, 0, none⟩ = some (.pointer (some ⟨d, 0, none⟩)) ∧ w'.cell? ⟨b + 1, 0, none⟩ = some (.string key))
    (first | exact ⟨hb_3, hb_1, hb_2, z2_0, z3_0⟩ | exact ⟨hp1.cell (fun h => h) hb_3, hp1.cell (fun h => h) hb_1, hp1.cell (fun h => h) hb_2, hp1.cell (fun h => h) z2_0, hp1.cell (fun h => h) z3_0⟩ | exact ⟨(hp1.trans hp2).cell (fun h => h) hb_3, (hp1.trans hp2).cell (fun h => h) hb_1, (hp1.trans hp2).cell (fun h => h) hb_2, (hp1.trans hp2).cell (fun h => h) z2_0, (hp1.trans hp2).cell (fun h => h) z3_0⟩)
    (first
      | (go_at_call 29; refine Calls.mono (HSum.out _) ?_; rintro e w1 ⟨rfl, hp1⟩)
      | (go_at_call 28; refine Calls.mono (HF.out _ (by (repeat' (first | (with_reducible exact Mod.refl _ _) | (with_reducible refine Mod.alloc ?_ _) | (with_reducible refine Mod.drew ?_) | (with_reducible refine Mod.drewN ?_ _) | (with_reducible refine Mod.setCell ?_ ?_ _) | (refine Mod.then ?_ (by with_reducible assumption) ?_))) <;> (all_goals (intros; first | (exfalso; assumption) | omega | (simp at *; done) | (simp at *; omega))))) ?_; rintro e w2 hq; obtain ⟨r, hr, he⟩ := HKE.out.find (by rw [HHE.out]; exact hq); have hp2 : Pure w1 w2 := Mod.mono hq.1 (fun k _ ⟨_, _, _, _, hf⟩ => hf); have HRR := Lib.hid hr; clear hq hr; subst he))
  go_wp2
  all_goals
    go_ret2
    exact ⟨r, HRR.out, rfl, HP.out.trans ((Mod.of_drew hp1).trans hp2)⟩

/-! ### Of -/
theorem liveFrom_up' (L : List (Option Ent)) : ∀ i, ((liveFrom i L).map Prod.fst).Pairwise (· < ·) := by
  induction L with
  | nil => intro i; simp [liveFrom]
  | cons o L ih =>
    intro i
    cases o with
    | none => exact ih (i + 1)
    | some e =>
      simp only [liveFrom, List.map_cons, List.pairwise_cons]
      refine ⟨fun y hy => ?_, ih (i + 1)⟩
      obtain ⟨g, hg, rfl⟩ := List.mem_map.1 hy
      have := (liveFrom_mem hg).1
      omega
theorem live_of {L : List (Option Ent)} : ∀ {i s : Nat} {e : Ent}, L[s]? = some (some e) → (i + s, e) ∈ liveFrom i L := by
  induction L with
  | nil => intro i s e h; simp at h
  | cons o L ih =>
    intro i s e h
    cases s with
    | zero =>
      simp at h; subst h
      simp [liveFrom]
    | succ s =>
      have := ih (i := i + 1) (s := s) (e := e) (by simpa using h)
      rw [show i + 1 + s = i + (s + 1) by omega] at this
      cases o <;> simp [liveFrom, this]
theorem liveOf_live' (L : List (Option Ent)) : ∀ i, (liveFrom i L).length = liveOf L := by
  induction L with
  | nil => intro i; rfl
  | cons o L ih =>
    intro i
    cases o with
    | none => simp only [liveFrom, liveOf, List.countP_cons] at *; simpa using ih (i + 1)
    | some e => simp only [liveFrom, liveOf, List.countP_cons, List.length_cons] at *; simpa using ih (i + 1)
/-- The slot numbers that were gone over; the index of them. -/
def slotsOf (pre : List (Nat × Ent)) (s : Nat) : Prop := s ∈ pre.map Prod.fst
def ofM (seed : Nat) (same : Bool) (L : List (Option Ent)) (pre : List (Nat × Ent)) : List Grp := (pre.map Prod.fst).foldl (putM (sumL seed same L)) (newG 1)
theorem ofM_snoc (seed : Nat) (same : Bool) (L : List (Option Ent)) (pre : List (Nat × Ent)) (g : Nat × Ent) : ofM seed same L (pre ++ [g]) = putM (sumL seed same L) (ofM seed same L pre) g.1 := by
  unfold ofM; rw [List.map_append, List.foldl_append]; rfl
theorem Part.put {L : List (Option Ent)} {pre : List (Nat × Ent)} {g : Nat × Ent} {post : List (Nat × Ent)} (h : Part seed same L (slotsOf pre) (ofM seed same L pre)) (hu : usedN (ofM seed same L pre) = pre.length) (hl : live L = pre ++ g :: post) (hlen : L.length ≤ 4194304)
    (hn : ∀ s, slotsOf pre s → keyL L s ≠ g.2.key) :
    Part seed same L (slotsOf (pre ++ [g])) (ofM seed same L (pre ++ [g])) ∧ usedN (ofM seed same L (pre ++ [g])) = (pre ++ [g]).length ∧ g.1 ≤ 4294967295 ∧
      ∃ x, planI (ofM seed same L pre).length (usedN (ofM seed same L pre)) (tombN (ofM seed same L pre)) = some x ∧ Pow x.1 ∧ usedN (ofM seed same L pre) ≤ 8 * x.1 ∧ insM (doG (sumL seed same L) x (ofM seed same L pre)) (sumL seed same L g.1) g.1 = some (ofM seed same L (pre ++ [g])) := by
  have hup := liveFrom_up' L 0
  rw [show liveFrom 0 L = live L from rfl, hl, List.map_append, List.map_cons, List.pairwise_append] at hup
  have hnot : ¬ slotsOf pre g.1 := fun hs => by have := hup.2.2 _ hs g.1 (by simp); omega
  have hg : L[g.1]? = some (some g.2) := live_mem (by rw [hl]; simp)
  have hlt := (List.getElem?_eq_some_iff.1 hg).1
  have hpl : pre.length ≤ 4194304 := by have := live_length L; rw [hl] at this; simp at this; omega
  obtain ⟨x, k1, k2, k3, k4, k5, k6, k7, k8⟩ := h.holds.put (by rw [hu]; exact hpl) (s := g.1) (by omega) hnot
  rw [ofM_snoc]
  have hiff : ∀ s, slotsOf (pre ++ [g]) s ↔ s = g.1 ∨ slotsOf pre s := fun s => by unfold slotsOf; simp [or_comm]
  refine ⟨⟨k7.of_iff (fun s => (hiff s).symm), fun s hs => ?_, fun s t hs ht hk => ?_⟩, by rw [k8, hu]; simp, by omega, x, k1, k2, k3, k6⟩
  · rcases (hiff s).1 hs with rfl | hs
    · exact ⟨g.2, hg⟩
    · exact h.sub s hs
  · rcases (hiff s).1 hs with rfl | hs <;> rcases (hiff t).1 ht with rfl | ht
    · rfl
    · rw [keyL_some hg] at hk; exact absurd hk.symm (hn t ht)
    · rw [keyL_some hg] at hk; exact absurd hk (hn s hs)
    · exact h.uniq s t hs ht hk
end
end Go.Proofs.Ytapplindfijngaa

/- dict.Of: the walk. -/
namespace Go.Proofs.Ytapplindfijngaa
open Go.RowKit Go.Shelf
set_option maxRecDepth 100000
attribute [local go_sem] Oper.semAt_some

theorem LogAt.quiet' {N : Nat} {A B : World} {D : Nat → Prop} {p : Nat} {L : List (Option Ent)} (h : LogAt A D p L) (hq : Quiet N A B) : LogAt B D p L := by
  obtain ⟨sv, M, rfl, h⟩ := h
  exact (h.quiet hq).toAt
section
variable {w w' : World} {d q p : Nat} {sv : Value} {Dl : Nat → Prop} {seed : Nat} {same : Bool} {L : List (Option Ent)} {Gs : List Grp}
theorem DictMem.quiet {N : Nat} {A B : World} (h : DictMem A d q p sv Dl seed same L Gs) (hq : Quiet N A B) : DictMem B d q p sv Dl seed same L Gs :=
  ⟨hq.cells h.box, h.log.quiet' hq, h.ix.quiet hq, h.sd⟩
/-- The log of a dictionary is set. -/
theorem DictMem.relog {q0 : Nat} {Dl0 : Nat → Prop} {L0 : List (Option Ent)} (h : DictMem w d q0 p sv Dl0 seed same L0 Gs) (hl : LogAt w Dl q L) {Y : World} (hY : w.setCell ⟨d, 0, none⟩ (.pointer (some ⟨q, 0, none⟩)) = Y) :
    DictMem Y d q p sv Dl seed same L Gs ∧ Mod (fun k => k = d) w Y := by
  subst hY
  have hm : Mod (fun k => k = d) w (w.setCell ⟨d, 0, none⟩ (.pointer (some ⟨q, 0, none⟩))) := Mod.set1 _ _ _
  refine ⟨⟨?_, hl.frame hm (fun k hk e => ?_) (fun k _ e cs fz e2 => by subst e; rw [h.box] at e2; cases e2), h.ix.mod hm (fun k hk e => ?_), h.sd⟩, hm⟩
  · have := heap_set1 (j := 0) (v := .pointer (some ⟨q, 0, none⟩)) h.box
    simpa using this
  · subst e
    rcases hl.types hk h.box with e | e <;> cases e
  · subst e
    rcases hk with e | e
    · exact h.npd e.symm
    · exact h.nsd e
end
/-- Between two rounds of Of. -/
structure OInv (w : World) (d q : Nat) (Dl : Nat → Prop) (seed : Nat) (same : Bool) (L : List (Option Ent)) (It : Nat → Prop) (b4 b5 b7 : Nat) (pre : List Given) (W : World) : Prop where
  r4 : W.heap[b4]? = some (.cells #[.pointer none] 26 (0, 0))
  r5 : W.heap[b5]? = some (.cells #[.int .i64 0] 39 (0, 0))
  r7 : W.heap[b7]? = some (.cells #[.pointer (some ⟨d, 0, none⟩)] 26 (0, 0))
  mem : ∃ p sv, DictMem W d q p sv Dl seed same L (ofM seed same L (pre.map keyG)) ∧ w.heap.size ≤ p ∧ (∀ k, sv.ownBlock = some k → w.heap.size ≤ k) ∧ ¬ It p ∧ ∀ k, sv.ownBlock = some k → ¬ It k
  part : Part seed same L (slotsOf (pre.map keyG)) (ofM seed same L (pre.map keyG))
  used : usedN (ofM seed same L (pre.map keyG)) = pre.length
  pu : Pure w W
theorem OInv.quiet {w : World} {d q : Nat} {Dl : Nat → Prop} {seed : Nat} {same : Bool} {L : List (Option Ent)} {It : Nat → Prop} {b4 b5 b7 : Nat} {pre : List Given} {A B : World} (h : OInv w d q Dl seed same L It b4 b5 b7 pre A) {N : Nat} (hN : w.heap.size ≤ N) (hq : Quiet N A B) : OInv w d q Dl seed same L It b4 b5 b7 pre B := by
  obtain ⟨p, sv, h1, h2⟩ := h.mem
  exact ⟨hq.cells h.r4, hq.cells h.r5, hq.cells h.r7, ⟨p, sv, h1.quiet hq, h2⟩, h.part, h.used, hq.mod h.pu hN⟩
def ofPost (w : World) (seed : Nat) (same : Bool) (L : List (Option Ent)) (e : Ending) (w' : World) : Prop :=
  (KeysOk L ∧ (∃ d D, e = .returned (.tuple #[.pointer (some ⟨d, 0, none⟩), .int .i64 0]) ∧ DictAt w' D d seed same L (ofM seed same L (live L)) ∧ ∀ k, D k → w.heap.size ≤ k) ∧ Pure w w') ∨
  (¬ KeysOk L ∧ e = .returned (.tuple #[.pointer none, .int .i64 11]) ∧ Pure w w')
/-- No block of the iterator is one of these types. -/
theorem iter_types {w3 : World} {B : Nat} {sv : Value} {M : List (Option Ent × Value)} (hit : IterAt w3 B sv M) {k : Nat} {cs : Array Value} {T : TypeId} {fz : Nat × Nat} (hb : w3.heap[k]? = some (.cells cs T fz)) (h1 : T ≠ 5) (h2 : T ≠ 90) (h3 : T ≠ 36) : ¬ iterBlocks B sv M k := by
  rintro (h | h | ⟨e, v, hm, h⟩)
  · subst h; rw [hit.box] at hb; cases hb; exact h2 rfl
  · obtain ⟨cc, e2⟩ := owns_type hit.row h
    rw [hb] at e2; cases e2; exact h3 rfl
  · obtain ⟨cc, e2⟩ := owns_type (hit.vals e v hm) h
    rw [hb] at e2; cases e2; exact h1 rfl
end Go.Proofs.Ytapplindfijngaa

/- law10.known answers true. -/
namespace Go.Proofs.Ytapplindfijngaa
open Go.RowKit Go.Shelf
set_option maxRecDepth 100000
attribute [local go_sem] Oper.semAt_some

@[go_sem] theorem eql_seq3 (w : World) (fn : Fn) (fi ca : Array Value) : (binOp .eql 55 (.func fn fi ca) .nilFunc).run Try.prog w = .ok (.bool false) w := by
  simp only [binOp]
  simp [Op.equal, Op.maxDepth, run_equal_func w 9999 _ fn fi ca Try.underlying55]
theorem hnew10 (seed : Int) (same : Bool) (w : World) : Calls Try.prog 7 #[.int .u64 seed, .bool same] w fun e w' => e = .returned (.agg #[.int .u64 seed, .bool same]) ∧ Pure w w' := by
  go_enter Try.func7, Try.ntmps7
  go_wp2
  refine bodyPost_ret (v := .agg #[.int .u64 seed, .bool same]) (by simp [results, Try.results7, go_sem]) rfl ⟨rfl, ?_⟩
  (repeat' (first | (with_reducible exact Mod.refl _ _) | (with_reducible refine Mod.alloc ?_ _) | (with_reducible refine Mod.drew ?_) | (with_reducible refine Mod.drewN ?_ _) | (with_reducible refine Mod.setCell ?_ ?_ _) | (refine Mod.then ?_ (by with_reducible assumption) ?_)))
  (all_goals (intros; first | (exfalso; assumption) | omega | (simp at *; done) | (simp at *; omega)))
def eK (k : UInt8) : Option Ent := some ⟨⟨#[k]⟩, [], 0, 1⟩
theorem okK (k : UInt8) : (Ent.mk ⟨#[k]⟩ [] 0 1).Ok := ⟨by show 0 < 1; omega, by show 1 ≤ 250; omega, by show 0 ≤ 65536; omega, by show (0 : Int) < 1; omega⟩
/-- The index behind the examples, and behind the entries c .. -/
def H10 (L : List (Option Ent)) : Nat → Nat := sumL 0 true L
def gk1 : List Grp := putM (H10 [eK 97]) (newG 1) 0
def gk2 : List Grp := putM (H10 [eK 97, eK 98]) gk1 1
def gk3 : List Grp := remM (H10 [eK 97, eK 98]) (H10 [none, eK 98]) gk2 0
def gk4 : List Grp := putM (H10 [none, eK 98, eK 97]) gk3 2
def kb : Nat → UInt8
  | 0 => 99
  | 1 => 100
  | 2 => 101
  | 3 => 102
  | 4 => 103
  | _ => 104
def LK : Nat → List (Option Ent)
  | 0 => [none, eK 98, eK 97]
  | i + 1 => LK i ++ [eK (kb i)]
def GK : Nat → List Grp
  | 0 => gk4
  | i + 1 => putM (H10 (LK (i + 1))) (GK i) (LK i).length
theorem gk2_sizes : gk2.length = 1 ∧ tombN gk2 = 0 := by decide +kernel
theorem gk4_sizes : gk4.length = 1 ∧ tombN gk4 = 0 := by decide +kernel
theorem GK6_sizes : (GK 6).length = 2 ∧ tombN (GK 6) = 0 := by decide +kernel

theorem dremG {w W : World} {d : Nat} {L : List (Option Ent)} {Gs : List Grp} (h : DG w W d 0 true L Gs) {s : Nat} {x : Ent} (hx : L[s]? = some (some x)) :
    Calls Try.prog 11 #[dPtr d, .int .u32 s] W fun e w' => ∃ a n c, e = .returned (.tuple #[.agg #[.string x.key, .slice a n c, .int .u64 x.dl, .int .u64 x.birth], .int .i64 0]) ∧ DG w w' d 0 true (L.set s none) (remM (H10 L) (H10 (L.set s none)) Gs s) := by
  obtain ⟨D, h1, h2, h3⟩ := h
  refine Calls.mono (drem_ok h1 hx) ?_
  rintro e w' ⟨a, n, c, rfl, _, _, D', g1, g2, g3⟩
  exact ⟨a, n, c, rfl, DG.step h2 h3 g1 g2 g3⟩
theorem DG.quiet {N : Nat} {w A B : World} {d seed : Nat} {same : Bool} {L : List (Option Ent)} {Gs : List Grp} (h : DG w A d seed same L Gs) (hN : w.heap.size ≤ N) (hq : Quiet N A B) : DG w B d seed same L Gs := by
  obtain ⟨D, ⟨q, p, sv, Dl, h1, h2, h3⟩, h4, h5⟩ := h
  exact ⟨D, ⟨q, p, sv, Dl, h1.quiet hq, h2, h3⟩, hq.mod h4 hN, h5⟩
def catK (G : List (Nat × Ent)) : ByteArray := G.foldl (fun s g => s ++ g.2.key) ⟨#[]⟩
structure KI (w : World) (d b5 : Nat) (pre : List Given) (W : World) : Prop where
  dg : DG w W d 0 true (LK 0) (GK 0)
  r5 : W.heap[b5]? = some (.cells #[.string (catK (pre.map keyG))] 9 (0, 0))
  sz : (catK (pre.map keyG)).size ≤ 250 * pre.length
set_option maxHeartbeats 4000000 in
theorem known10_true (w : World) : Calls Try.prog 5 #[] w fun e w' => e = .returned (.bool true) ∧ Pure w w' := by
  have HN : Hid (∀ W, Calls Try.prog 7 #[.int .u64 0, .bool true] W fun e w' => e = .returned (.agg #[.int .u64 0, .bool true]) ∧ Pure W w') := fun W => hnew10 0 true W
  (refine (callsIn_wide (n := 0)).1 (callsIn_of_wp_marks Try.func5 rfl trivial (wpIn_wide.2 ?_) rfl); simp only [Try.ntmps5, List.size_toArray, List.length_cons, List.length_nil, Nat.reduceAdd, Nat.reduceSub, Array.replicate_succ, Array.replicate_zero, List.push_toArray, List.append_toArray, List.nil_append, List.cons_append])
  go_upto_region 2 with (first
    | (go_at_call 7; refine Calls.mono (HN.out _) ?_; rintro e w1 ⟨rfl, hp1⟩)
    | (go_at_call 6; refine Calls.mono (newG' (w := w) 0 true (by decide) hp1) ?_; rintro e w2 ⟨d, rfl, hd, _⟩))
  have HD := Lib.hid hd
  clear hd hp1 HN
  have T1 : True := trivial; have T2 : True := trivial
  go_upto_region 4 with (first
    | (go_at_call 16; clear T1; refine Calls.mono (inserts_ok HD.out ⟨#[97]⟩ (okK 97) (by decide) (by decide) 0 rfl) ?_; rintro e w3 ⟨rfl, hd3, _⟩; replace HD : Hid (DG w w3 d 0 true [eK 97] gk1) := hd3; clear hd3)
    | (go_at_call 16; clear T2; refine Calls.mono (inserts_ok HD.out ⟨#[98]⟩ (okK 98) (by decide) (by decide) 1 rfl) ?_; rintro e w4 ⟨rfl, hd4, _⟩; replace HD : Hid (DG w w4 d 0 true [eK 97, eK 98] gk2) := hd4; clear hd4))
  have HB := Lib.hid (show Calls Try.prog 8 #[dPtr d, .agg #[.string ⟨#[97]⟩, .slice none 0 0, .int .u64 0, .int .u64 1]] w4 (dins0 w4 11) from by
    obtain ⟨D9, q1, q2, q3⟩ := HD.out
    exact dins_busy q1 ⟨⟨#[97]⟩, [], 0, 1⟩ (okK 97) (t := 0) (by decide) none 0 0 (ReadAt.nil _ _))
  have T1 : True := trivial; have T2 : True := trivial
  go_upto_region 7 with (first
    | (go_at_call 8; refine Calls.mono HB.out ?_; rintro e w5 ⟨rfl, hp5⟩; replace HD := Lib.hid (HD.out.pure hp5); clear hp5)
    | (go_at_call 13; clear T1; refine Calls.mono (finds10_ok HD.out ⟨#[98]⟩ (by decide) 1 0 (by decide) (by decide)) ?_; rintro e w6 ⟨rfl, hp6⟩; replace HD := Lib.hid (HD.out.pure hp6); clear hp6)
    | (go_at_call 13; clear T2; refine Calls.mono (finds10_ok HD.out ⟨#[99]⟩ (by decide) 0 9 (by decide) (by decide)) ?_; rintro e w7 ⟨rfl, hp7⟩; replace HD := Lib.hid (HD.out.pure hp7); clear hp7)
    | (go_at_call 17; refine Calls.mono (sizes10_ok HD.out 2 1 0 rfl (by rw [gk2_sizes.1]; rfl) (by rw [gk2_sizes.2]; rfl)) ?_; rintro e w8 ⟨rfl, hp8⟩; replace HD := Lib.hid (HD.out.pure hp8); clear hp8))
  have HR := Lib.hid (dremG HD.out (s := 0) (x := ⟨⟨#[97]⟩, [], 0, 1⟩) rfl)
  go_upto_region 8 with (go_at_call 11; refine Calls.mono HR.out ?_; rintro e w9 ⟨a9, n9, c9, rfl, hd9⟩)
  have hpa : Pure w9 (w9.alloc (.cells #[.string ⟨#[97]⟩, .slice a9 n9 c9, .int .u64 0, .int .u64 1] 36)) := (Mod.refl _ w9).alloc _
  have z4 := heap_new (w := w9) (o := .cells #[.string ⟨#[97]⟩, .slice a9 n9 c9, .int .u64 0, .int .u64 1] 36 (0, 0)) rfl
  replace HD : Hid (DG w (w9.alloc (.cells #[.string ⟨#[97]⟩, .slice a9 n9 c9, .int .u64 0, .int .u64 1] 36)) d 0 true [none, eK 98] gk3) := DG.pure hd9 hpa
  clear hd9 hpa HB HR
  generalize w9.alloc (.cells #[.string ⟨#[97]⟩, .slice a9 n9 c9, .int .u64 0, .int .u64 1] 36) = W9 at *
  generalize w9.heap.size = b4 at *
  have z4_0 := cell_of_row _ _ 0 _ _ _ z4; have z4_1 := cell_of_row _ _ 1 _ _ _ z4; have z4_2 := cell_of_row _ _ 2 _ _ _ z4; have z4_3 := cell_of_row _ _ 3 _ _ _ z4; have z4_f := (fun j => frozen_of_row _ _ j _ _ z4); have z4_l := lt_of_block z4; simp at z4_0 z4_1 z4_2 z4_3; have H_z4 := Lib.hid z4; clear z4
  have T1 : True := trivial; have T2 : True := trivial
  go_upto_region 10 with (first
    | (go_at_call 13; clear T1; refine Calls.mono (finds10_ok HD.out ⟨#[97]⟩ (by decide) 0 9 (by decide) (by decide)) ?_; rintro e w10 ⟨rfl, hp10⟩; replace HD := Lib.hid (HD.out.pure hp10); clear hp10)
    | (go_at_call 16; refine Calls.mono (inserts_ok HD.out ⟨#[97]⟩ (okK 97) (by decide) (by decide) 2 rfl) ?_; rintro e w11 ⟨rfl, hd11, _⟩; replace HD : Hid (DG w w11 d 0 true (LK 0) (GK 0)) := hd11; clear hd11)
    | (go_at_call 13; clear T2; refine Calls.mono (finds10_ok HD.out ⟨#[97]⟩ (by decide) 2 0 (by decide) (by decide)) ?_; rintro e w12 ⟨rfl, hp12⟩; replace HD := Lib.hid (HD.out.pure hp12); clear hp12)
    | (go_at_call 17; refine Calls.mono (sizes10_ok HD.out 3 1 0 rfl (by show ((gk4.length : Nat) : Int) = 1; rw [gk4_sizes.1]; rfl) (by show ((tombN gk4 : Nat) : Int) = 0; rw [gk4_sizes.2]; rfl)) ?_; rintro e w13 ⟨rfl, hp13⟩; replace HD := Lib.hid (HD.out.pure hp13); clear hp13))
  clear z4_0 z4_1 z4_2 z4_3 z4_f z4_l
  clear H_z4
  have HAl := Lib.hid (show Calls Try.prog 18 #[.pointer (some ⟨d, 0, none⟩)] w13 (allA w13 (LK 0)) from by obtain ⟨D9, q1, q2, q3⟩ := HD.out; exact dall_ok q1)
  go_upto_region 11 with (go_at_call 18; refine Calls.mono HAl.out ?_; rintro e w14 ⟨M, B, a3, c3, hM, rfl, hit, hp14, hB, hfr⟩)
  have hpb : Pure w14 (w14.alloc (.cells #[.string ⟨#[]⟩] 9)) := (Mod.refl _ w14).alloc _
  have z5 := heap_new (w := w14) (o := .cells #[.string ⟨#[]⟩] 9 (0, 0)) rfl
  have hit' := hit.keeps (KeepsIt.of_pure hpb)
  have hb5ww : w.heap.size ≤ w14.heap.size := (HD.out.pure hp14).pu.size
  replace HD := Lib.hid ((HD.out.pure hp14).pure hpb)
  clear hit hp14 hpb hB hfr HAl
  generalize w14.alloc (.cells #[.string ⟨#[]⟩] 9) = W14 at *
  generalize w14.heap.size = b5 at *
  have HIT := Lib.hid hit'
  have hItlt : ∀ k, iterBlocks B (.slice a3 M.length c3) M k → k < W14.heap.size := by
    rintro k (rfl | h | ⟨e, v, hm, h⟩)
    · exact lt_of_block hit'.box
    · exact owns_lt hit'.row h
    · exact owns_lt (hit'.vals e v hm) h
  have hI0 : KI w d b5 [] W14 := ⟨HD.out, z5, by decide⟩
  have n5 := Lib.hid (iter_types hit' z5 (by decide) (by decide) (by decide))
  have hw14 : w.heap.size ≤ W14.heap.size := HD.out.pu.size
  have hb5 : b5 < W14.heap.size := lt_of_block z5
  have hb5w : w.heap.size ≤ b5 := hb5ww
  clear hit' z5
  generalize hItd : iterBlocks B (.slice a3 M.length c3) M = It at *
  go_wp2
  refine wpIn_wide.1 (wp_range2 (gf := 64) (lb := #[.pointer (some ⟨B, 0, none⟩)]) rfl (enters_of Try.func64 (by kernel_rfl) rfl) (It := It) (hItd ▸ All_iter HIT.out W14.heap.size (Nat.le_refl _)) hItlt (fun _ => rfl)
    (fun pre W => KI w d b5 pre W ∧ W14.heap.size ≤ W.heap.size) (fun _ _ _ => False) ?hI ?hIx ⟨hI0, Nat.le_refl _⟩ ?round ?done ?stop)
  case hI => exact fun pre A B ⟨h, hz⟩ hq => ⟨⟨h.dg.quiet hw14 hq, hq.cells h.r5, h.sz⟩, Nat.le_trans hz (Mod.size hq)⟩
  case hIx => exact fun _ _ _ _ h _ => h
  case stop => exact fun _ _ _ _ _ h _ => h.elim
  case done =>
    rintro l xs W hl hS ⟨hI, hWs⟩ hK
    have hS' : xs.map keyG = live (LK 0) := by rw [← hM]; exact hS
    have r5 := hI.r5
    rw [hS', show catK (live (LK 0)) = ⟨#[98, 97]⟩ from by decide] at r5
    have HG := Lib.hid hI.dg
    clear hI hI0 hItlt hS hS' hWs
    have HK := Lib.hid hK
    clear hK
    go_wp2
    go_loopw [9] (fun v9 wr => ∃ i, v9 = .int .i64 (i : Nat) ∧ i ≤ 6 ∧ DG w wr d 0 true (LK i) (GK i) ∧ wr.heap[b5]? = some (.cells #[.string ⟨#[98, 97]⟩] 9 (0, 0)) ∧ wr.heap[l]? = some (.deferred (some []))) (fun v9 _ => 6 - (intOf v9).toNat)
    case atStart => exact ⟨0, rfl, by omega, HG.out, r5, HK.out⟩
    case round =>
      obtain ⟨i, rfl, hi, hg, hr5, hrl⟩ := hrel
      have HGi := Lib.hid hg
      clear hg
      have hcase : i = 0 ∨ i = 1 ∨ i = 2 ∨ i = 3 ∨ i = 4 ∨ i = 5 ∨ i = 6 := by omega
      have HR5 := Lib.hid hr5; have HRL := Lib.hid hrl
      clear hr5 hrl
      rcases hcase with rfl | rfl | rfl | rfl | rfl | rfl | rfl
      · have hkx : (⟨#[99, 100, 101, 102, 103, 104]⟩ : ByteArray).extract 0 1 = ⟨#[99]⟩ := by decide
        go_upto_region 18 with (go_at_call 16; refine Calls.mono (inserts_ok HGi.out ⟨#[99]⟩ (okK 99) (by decide) (by decide) 3 (by decide)) ?_; rintro e w16 ⟨rfl, hd16, hk16⟩)
        have q5 := hk16 b5 _ HR5.out (by intro cs T fz e; cases e; decide)
        have ql := hk16 l _ HRL.out (by intro cs T fz e; cases e)
        clear hk16
        go_wp2
        go_roundw
        case rel => exact ⟨1, by go_num, by omega, hd16, q5, ql⟩
        case measure => simp [intOf]
      · have hkx : (⟨#[99, 100, 101, 102, 103, 104]⟩ : ByteArray).extract 1 2 = ⟨#[100]⟩ := by decide
        go_upto_region 18 with (go_at_call 16; refine Calls.mono (inserts_ok HGi.out ⟨#[100]⟩ (okK 100) (by decide) (by decide) 4 (by decide)) ?_; rintro e w16 ⟨rfl, hd16, hk16⟩)
        have q5 := hk16 b5 _ HR5.out (by intro cs T fz e; cases e; decide)
        have ql := hk16 l _ HRL.out (by intro cs T fz e; cases e)
        clear hk16
        go_wp2
        go_roundw
        case rel => exact ⟨2, by go_num, by omega, hd16, q5, ql⟩
        case measure => simp [intOf]
      · have hkx : (⟨#[99, 100, 101, 102, 103, 104]⟩ : ByteArray).extract 2 3 = ⟨#[101]⟩ := by decide
        go_upto_region 18 with (go_at_call 16; refine Calls.mono (inserts_ok HGi.out ⟨#[101]⟩ (okK 101) (by decide) (by decide) 5 (by decide)) ?_; rintro e w16 ⟨rfl, hd16, hk16⟩)
        have q5 := hk16 b5 _ HR5.out (by intro cs T fz e; cases e; decide)
        have ql := hk16 l _ HRL.out (by intro cs T fz e; cases e)
        clear hk16
        go_wp2
        go_roundw
        case rel => exact ⟨3, by go_num, by omega, hd16, q5, ql⟩
        case measure => simp [intOf]
      · have hkx : (⟨#[99, 100, 101, 102, 103, 104]⟩ : ByteArray).extract 3 4 = ⟨#[102]⟩ := by decide
        go_upto_region 18 with (go_at_call 16; refine Calls.mono (inserts_ok HGi.out ⟨#[102]⟩ (okK 102) (by decide) (by decide) 6 (by decide)) ?_; rintro e w16 ⟨rfl, hd16, hk16⟩)
        have q5 := hk16 b5 _ HR5.out (by intro cs T fz e; cases e; decide)
        have ql := hk16 l _ HRL.out (by intro cs T fz e; cases e)
        clear hk16
        go_wp2
        go_roundw
        case rel => exact ⟨4, by go_num, by omega, hd16, q5, ql⟩
        case measure => simp [intOf]
      · have hkx : (⟨#[99, 100, 101, 102, 103, 104]⟩ : ByteArray).extract 4 5 = ⟨#[103]⟩ := by decide
        go_upto_region 18 with (go_at_call 16; refine Calls.mono (inserts_ok HGi.out ⟨#[103]⟩ (okK 103) (by decide) (by decide) 7 (by decide)) ?_; rintro e w16 ⟨rfl, hd16, hk16⟩)
        have q5 := hk16 b5 _ HR5.out (by intro cs T fz e; cases e; decide)
        have ql := hk16 l _ HRL.out (by intro cs T fz e; cases e)
        clear hk16
        go_wp2
        go_roundw
        case rel => exact ⟨5, by go_num, by omega, hd16, q5, ql⟩
        case measure => simp [intOf]
      · have hkx : (⟨#[99, 100, 101, 102, 103, 104]⟩ : ByteArray).extract 5 6 = ⟨#[104]⟩ := by decide
        go_upto_region 18 with (go_at_call 16; refine Calls.mono (inserts_ok HGi.out ⟨#[104]⟩ (okK 104) (by decide) (by decide) 8 (by decide)) ?_; rintro e w16 ⟨rfl, hd16, hk16⟩)
        have q5 := hk16 b5 _ HR5.out (by intro cs T fz e; cases e; decide)
        have ql := hk16 l _ HRL.out (by intro cs T fz e; cases e)
        clear hk16
        go_wp2
        go_roundw
        case rel => exact ⟨6, by go_num, by omega, hd16, q5, ql⟩
        case measure => simp [intOf]
      · have hq : DG w wr d 0 true (LK 6) (GK 6) := HGi.out
        have r5 := HR5.out
        have HS := Lib.hid (sizes10_ok hq 9 2 0 (by decide) (by rw [GK6_sizes.1]; rfl) (by rw [GK6_sizes.2]; rfl))
        have HLn := Lib.hid (fun (W' : World) (hW : Pure wr W') => len10_ok (hq.pure hW) 8 (by decide))
        have HPU := Lib.hid hq.pu
        clear hq
        have r5_0 := cell_of_row _ _ 0 _ _ _ r5; have r5_f := (fun j => frozen_of_row _ _ j _ _ r5); have r5_l := lt_of_block r5; simp at r5_0; have H_r5 := Lib.hid r5; clear r5
        go_wp2_with (first
          | (go_at_call 17; refine Calls.mono HS.out ?_; rintro e w17 ⟨rfl, hp17⟩)
          | (go_at_call 15; refine Calls.mono (HLn.out _ hp17) ?_; rintro e w18 ⟨rfl, rfl⟩))
        have hk := hp17.heap (fun h => h) HRL.out
        have hlw : w.heap.size ≤ l := Nat.le_trans hw14 hl
        exact bodyPostM_drained (v := .bool true) hk (by simp [results, Try.results5, go_sem]) ⟨rfl, (Quiet.putObj (N := W14.heap.size) (.deferred none) hl hk rfl).mod (HPU.out.trans hp17) hw14⟩
  case round =>
    rintro l pre ⟨i, x, v⟩ W K ⟨hI, hWs⟩ hG hK
    obtain ⟨va, vc, hv, _⟩ := owns_form hG.2.1
    dsimp only at hv
    subst hv
    dsimp only [encG]
    obtain ⟨⟨post, hpost⟩, _, _⟩ := hG
    rw [hM] at hpost
    have hmem := live_mem (g := (i, x)) (by rw [hpost]; simp [keyG])
    have hkx : x.key.size ≤ 250 := by
      obtain ⟨D9, q1, q2, q3⟩ := hI.dg
      exact (q1.ok.ent x (List.mem_of_getElem? hmem)).k1
    have hpl : pre.length ≤ 4194304 := by
      obtain ⟨D9, q1, q2, q3⟩ := hI.dg
      have := Nat.le_trans (live_length _) q1.ok.len; rw [hpost] at this; simp at this; omega
    have HCI := Lib.hid hI; have HK := Lib.hid hK
    clear hI hK hI0 HIT hItlt hpost hmem
    gi_wp2
    have hP : Pure W (W.alloc (.cells #[.string x.key, .slice va (bytesOf x.val).length vc, .int .u64 x.dl, .int .u64 x.birth] 36)) := (Mod.refl _ W).alloc _
    have z9 := heap_new (w := W) (o := .cells #[.string x.key, .slice va (bytesOf x.val).length vc, .int .u64 x.dl, .int .u64 x.birth] 36 (0, 0)) rfl
    refine HK.out _ _ hP (fun l' W2 hl hr hq => ?_)
    have hdg := (HCI.out.dg.pure hP).quiet hw14 hq
    have r5 := hq.cells (hP.heap (fun h => h) HCI.out.r5)
    have hsz := HCI.out.sz
    have zz9 := hq.cells z9
    have hsz2 : W14.heap.size ≤ W2.heap.size := by have := Mod.size hq; have := hP.size; omega
    clear HK hP hq z9 HCI
    generalize W.heap.size = b8 at zz9 ⊢
    have hcat : catK ((pre ++ [(i, x, Value.slice va (bytesOf x.val).length vc)]).map keyG) = catK (pre.map keyG) ++ x.key := by simp [catK, keyG]
    have HCAT := Lib.hid hcat
    clear hcat
    generalize catK (pre.map keyG) = ks at *
    have hsum : ¬ (9223372036854775807 < ks.size + x.key.size) := by omega
    have hsum2 : ks.size + x.key.size ≤ 9223372036854775807 := by omega
    have HDG := Lib.hid hdg
    have R5 := Lib.hid r5
    clear hdg
    have zz9_0 := cell_of_row _ _ 0 _ _ _ zz9; have zz9_1 := cell_of_row _ _ 1 _ _ _ zz9; have zz9_2 := cell_of_row _ _ 2 _ _ _ zz9; have zz9_3 := cell_of_row _ _ 3 _ _ _ zz9; have zz9_f := (fun j => frozen_of_row _ _ j _ _ zz9); have zz9_l := lt_of_block zz9; simp at zz9_0 zz9_1 zz9_2 zz9_3; have H_zz9 := Lib.hid zz9; clear zz9
    have r5_0 := cell_of_row _ _ 0 _ _ _ r5; have r5_f := (fun j => frozen_of_row _ _ j _ _ r5); have r5_l := lt_of_block r5; simp at r5_0; have H_r5 := Lib.hid r5; clear r5
    gi_wp2
    have hm : Mod (fun k => k = b5) W2 (W2.setCell ⟨b5, 0, none⟩ (.string (ks ++ x.key))) := Mod.set1 _ _ _
    refine ⟨KeepsRec.of_mod hm (fun k hk h => by omega), KeepsIt.of_mod hm (fun k hk h => by subst h; exact n5.out hk), ⟨?_, ?_, ?_⟩, Nat.le_trans hsz2 hm.size⟩
    · obtain ⟨D9, q1, q2, q3⟩ := HDG.out
      refine ⟨D9, q1.frame hm (fun k hk e => ?_) (fun k _ e cs fz e2 => by subst e; rw [R5.out] at e2; cases e2), q2.then hm (fun k hk e => by omega), q3⟩
      subst e; rcases q1.types hk R5.out with e | e | e | e | e <;> cases e
    · rw [HCAT.out]; exact heap_set1 (j := 0) R5.out
    · rw [HCAT.out, ByteArray.size_append, List.length_append]; simp; omega
end Go.Proofs.Ytapplindfijngaa
