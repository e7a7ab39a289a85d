/- Lemmas and contracts of functions, strung together out of 3 texts. No condition. -/
import Derived.Test.YtapplindfijngaaGreatJPfCompactDicts27
import Derived.Test.YtapplindfijngaaGreatJPfCompactDicts26
import Derived.Test.YtapplindfijngaaGreatJPfCompactDicts23
import Derived.Test.YtapplindfijngaaGreatJPfCompactDicts22
/- A dictionary and the reference's, side by side: what one's calls leave of the other. -/
namespace Go.Proofs.YtapplindfijngaaGreat
open Go.RowKit Go.Shelf
set_option maxRecDepth 100000

theorem RefD.dmod {W W' : World} {D : Nat → Prop} {d seed : Nat} {same : Bool} {L : List (Option Ent)} {Gs Gr : List Grp} {r : RA} {Q : List RQ} (h : RefD W r Q Gr) (hd : DictAt W D d seed same L Gs) (hm : Mod D W W') (hn : ∀ k, (Value.slice r.aL Q.length r.cL).ownBlock = some k → ¬ D k) : RefD W' r Q Gr := by
  have ht : ∀ i, D i → i < W.heap.size → ∃ cs T fz, W.heap[i]? = some (.cells cs T fz) ∧ T ≠ 4 ∧ T ≠ 5 ∧ T ≠ 43 := fun i hi _ => by
    obtain ⟨cs, T, fz, e⟩ := hd.celled hi
    refine ⟨cs, T, fz, e, ?_⟩
    rcases hd.types hi e with rfl | rfl | rfl | rfl | rfl <;> decide
  exact ⟨⟨owns_mod h.l.L hm (fun k hk e => hn k hk e), owns_modT h.l.G hm (fun i hi hl => by obtain ⟨cs, T, fz, e, h1, _⟩ := ht i hi hl; exact ⟨cs, T, fz, e, h1⟩),
    fun q hq => owns_modT (h.l.vals q hq) hm (fun i hi hl => by obtain ⟨cs, T, fz, e, _, h1, _⟩ := ht i hi hl; exact ⟨cs, T, fz, e, h1⟩), h.l.ok, h.l.len⟩,
    h.x.modT hm (fun i hi hl => by obtain ⟨cs, T, fz, e, _, h1⟩ := ht i hi hl; exact ⟨cs, T, fz, e, h1⟩)⟩
/-- The dictionary of the entries L in block d (made since w), the reference's of Q, and blocks E that neither holds. -/
def DR (w W : World) (d seed : Nat) (same : Bool) (L : List (Option Ent)) (Gs : List Grp) (r : RA) (Q : List RQ) (Gr : List Grp) (E : Nat → Prop) : Prop :=
  ∃ D, DictAt W D d seed same L Gs ∧ Pure w W ∧ (∀ k, D k → w.heap.size ≤ k) ∧ RefD W r Q Gr ∧ (∀ k, (Value.slice r.aL Q.length r.cL).ownBlock = some k → ¬ D k) ∧ ∀ k, E k → ¬ D k ∧ k < W.heap.size
section
variable {w W W' : World} {d seed : Nat} {same : Bool} {L : List (Option Ent)} {Gs Gr : List Grp} {r : RA} {Q : List RQ} {E : Nat → Prop}
theorem DR.pure (h : DR w W d seed same L Gs r Q Gr E) (hp : Pure W W') : DR w W' d seed same L Gs r Q Gr E := by
  obtain ⟨D, h1, h2, h3, h4, h5, h6⟩ := h
  exact ⟨D, h1.pure hp, h2.trans hp, h3, h4.pure hp, h5, fun k hk => ⟨(h6 k hk).1, hp.lt (h6 k hk).2⟩⟩
theorem DR.pu (h : DR w W d seed same L Gs r Q Gr E) : Pure w W := by obtain ⟨D, h1, h2, _⟩ := h; exact h2
theorem DR.rf (h : DR w W d seed same L Gs r Q Gr E) : RefD W r Q Gr := by obtain ⟨D, _, _, _, h4, _⟩ := h; exact h4
theorem DR.keeps (h : DR w W d seed same L Gs r Q Gr E) : Keeps seed same L Gs := by obtain ⟨D, h1, _⟩ := h; exact h1.keeps
theorem DR.ok (h : DR w W d seed same L Gs r Q Gr E) : LogOk L := by obtain ⟨D, h1, _⟩ := h; exact h1.ok
theorem DR.dg (h : DR w W d seed same L Gs r Q Gr E) : DG w W d seed same L Gs := by obtain ⟨D, h1, h2, h3, _⟩ := h; exact ⟨D, h1, h2, h3⟩
theorem DR.drop (h : DR w W d seed same L Gs r Q Gr E) {E' : Nat → Prop} (he : ∀ k, E' k → E k) : DR w W d seed same L Gs r Q Gr E' := by
  obtain ⟨D, h1, h2, h3, h4, h5, h6⟩ := h
  exact ⟨D, h1, h2, h3, h4, h5, fun k hk => h6 k (he k hk)⟩
theorem DR.one (h : DR w W d seed same L Gs r Q Gr E) (hp : Pure W W') {b : Nat} (h1 : W.heap.size ≤ b) (h2 : b < W'.heap.size) : DR w W' d seed same L Gs r Q Gr (fun k => k = b) := by
  obtain ⟨D, g1, g2, g3, g4, g5, g6⟩ := h
  exact ⟨D, g1.pure hp, g2.trans hp, g3, g4.pure hp, g5, fun k hk => by subst hk; exact ⟨fun e => by have := g1.lt e; omega, h2⟩⟩
theorem DR.step {D D' : Nat → Prop} {L2 : List (Option Ent)} {G2 : List Grp} (h1 : DictAt W D d seed same L Gs) (h2 : Pure w W) (h3 : ∀ k, D k → w.heap.size ≤ k) (h4 : RefD W r Q Gr) (h5 : ∀ k, (Value.slice r.aL Q.length r.cL).ownBlock = some k → ¬ D k) (h6 : ∀ k, E k → ¬ D k ∧ k < W.heap.size)
    (g1 : DictAt W' D' d seed same L2 G2) (g2 : Mod D W W') (g3 : Grew D D' W) : DR w W' d seed same L2 G2 r Q Gr E ∧ OKeep W W' ∧ ∀ k o, E k → W.heap[k]? = some o → W'.heap[k]? = some o := by
  refine ⟨⟨D', g1, h2.then g2 (fun i hi e => by have := h3 i e; omega), fun k hk => ?_, h4.dmod h1 g2 h5, fun k hk e => ?_, fun k hk => ⟨fun e => ?_, Nat.lt_of_lt_of_le (h6 k hk).2 g2.size⟩⟩, OKeep.of h1 g2, fun k o hk ho => g2.heap (h6 k hk).1 ho⟩
  · rcases g3 k hk with e | e
    · exact h3 k e
    · exact Nat.le_trans h2.size e
  · rcases g3 k e with e | e
    · exact h5 k hk e
    · have := owns_lt h4.l.L hk; omega
  · rcases g3 k e with e | e
    · exact (h6 k hk).1 e
    · have := (h6 k hk).2; omega
theorem insR (h : DR w W d seed same L Gs r Q Gr E) (x : Ent) (hok : x.Ok) (hL : L.length < 4194304) (hf : findK L x.key = none) (a : Option Addr) (n c : Nat) (hx : ReadAt W (.slice a n c) 1 (bytesOf x.val)) :
    Calls Tryz.prog 11 #[dPtr d, .agg #[.string x.key, .slice a n c, .int .u64 x.dl, .int .u64 x.birth]] W fun e w' => e = .returned (.tuple #[.int .u32 L.length, .int .i64 0]) ∧
      DR w w' d seed same (L ++ [some x]) (putM (sumL seed same (L ++ [some x])) Gs L.length) r Q Gr E ∧ OKeep W w' ∧ ∀ k o, E k → W.heap[k]? = some o → w'.heap[k]? = some o := by
  obtain ⟨D, h1, h2, h3, h4, h5, h6⟩ := h
  refine Calls.mono (dins_ok h1 x hok hL hf a n c hx) ?_
  rintro e w' ⟨rfl, D', g1, g2, g3⟩
  exact ⟨rfl, DR.step h1 h2 h3 h4 h5 h6 g1 g2 g3⟩
theorem remR (h : DR w W d seed same L Gs r Q Gr E) {s : Nat} {x : Ent} (hx : L[s]? = some (some x)) :
    Calls Tryz.prog 16 #[dPtr d, .int .u32 s] W fun e w' => ∃ a n c, e = .returned (.tuple #[.agg #[.string x.key, .slice a n c, .int .u64 x.dl, .int .u64 x.birth], .int .i64 0]) ∧ BytesAt w' (.slice a n c) (bytesOf x.val) ∧ Fresh W (.slice a n c) ∧
      DR w w' d seed same (L.set s none) (remM (sumL seed same L) (sumL seed same (L.set s none)) Gs s) r Q Gr E ∧ OKeep W w' ∧ ∀ k o, E k → W.heap[k]? = some o → w'.heap[k]? = some o := by
  obtain ⟨D, h1, h2, h3, h4, h5, h6⟩ := h
  refine Calls.mono (drem_ok h1 hx) ?_
  rintro e w' ⟨a, n, c, rfl, hb, hf, D', g1, g2, g3⟩
  exact ⟨a, n, c, rfl, hb, hf, DR.step h1 h2 h3 h4 h5 h6 g1 g2 g3⟩
theorem remR0 (h : DR w W d seed same L Gs r Q Gr E) {s : Nat} (hs : s ≤ 4294967295) (hx : hasL L s = false) : Calls Tryz.prog 16 #[dPtr d, .int .u32 s] W (drem0 W) := by
  obtain ⟨D, h1, _⟩ := h
  exact drem_miss h1 hs hx
theorem DR.refStep {r' : RA} {Q' : List RQ} {G' : List Grp} (h : DR w W d seed same L Gs r Q Gr E) (hp : Pure W W') (hr : RefD W' r' Q' G') (hf : Fresh W (.slice r'.aL Q'.length r'.cL)) : DR w W' d seed same L Gs r' Q' G' E := by
  obtain ⟨D, h1, h2, h3, h4, h5, h6⟩ := h
  exact ⟨D, h1.pure hp, h2.trans hp, h3, hr, fun k hk e => by have := hf k hk; have := h1.lt e; omega, fun k hk => ⟨(h6 k hk).1, hp.lt (h6 k hk).2⟩⟩
theorem rinsR (h : DR w W d seed same L Gs r Q Gr E) (hk : Keeps seed same (slotsR (Q.map absQ)) Gr) (x : Ent) (hok : x.Ok) (hQ : Q.length < 4194304) (hf : findK (slotsR (Q.map absQ)) x.key = none) (a : Option Addr) (n c : Nat) (hx : ReadAt W (.slice a n c) 1 (bytesOf x.val)) :
    Calls Tryz.prog 12 #[rdV seed same r Q.length (8 * Gr.length), .agg #[.string x.key, .slice a n c, .int .u64 x.dl, .int .u64 x.birth]] W fun e w' => ∃ r' Q',
      e = .returned (.tuple #[rdV seed same r' Q'.length (8 * (putM (sumL seed same (slotsR (Q.map absQ) ++ [some x])) Gr Q.length).length), .int .u32 Q.length, .int .i64 0]) ∧ Q'.map absQ = Q.map absQ ++ [(x, false)] ∧
      DR w w' d seed same L Gs r' Q' (putM (sumL seed same (slotsR (Q.map absQ) ++ [some x])) Gr Q.length) E ∧ Pure W w' := by
  have hsd : seed < 18446744073709551616 := by obtain ⟨D, h1, _⟩ := h; exact h1.sd
  refine Calls.mono (rdins_ok h.rf seed same hsd hk x hok hQ hf a n c hx) ?_
  rintro e w' ⟨r', Q', rfl, e1, e2, e3, e4⟩
  exact ⟨r', Q', rfl, e1, h.refStep e4 e2 e3, e4⟩
theorem rremR (h : DR w W d seed same L Gs r Q Gr E) (hk : Keeps seed same (slotsR (Q.map absQ)) Gr) {s : Nat} {x : Ent} {v : Value} (hx : Q[s]? = some (x, v, false)) :
    Calls Tryz.prog 17 #[rdV seed same r Q.length (8 * Gr.length), .int .u32 s] W fun e w' => ∃ r' Q',
      e = .returned (.tuple #[rdV seed same r' Q'.length (8 * (remM (sumL seed same (slotsR (Q.map absQ))) (sumL seed same ((slotsR (Q.map absQ)).set s none)) Gr s).length), .agg #[.string x.key, v, .int .u64 x.dl, .int .u64 x.birth], .int .i64 0]) ∧ Q'.map absQ = (Q.map absQ).set s (x, true) ∧
      DR w w' d seed same L Gs r' Q' (remM (sumL seed same (slotsR (Q.map absQ))) (sumL seed same ((slotsR (Q.map absQ)).set s none)) Gr s) E ∧ Pure W w' := by
  have hsd : seed < 18446744073709551616 := by obtain ⟨D, h1, _⟩ := h; exact h1.sd
  refine Calls.mono (rdrem_ok h.rf seed same hsd hk hx) ?_
  rintro e w' ⟨r', Q', rfl, e1, e2, e3, e4⟩
  exact ⟨r', Q', rfl, e1, h.refStep e4 e2 e3, e4⟩
theorem hasQ_L (Q : List RQ) (s : Nat) : hasQ Q s = hasL (slotsR (Q.map absQ)) s := by
  rw [Bool.eq_iff_iff, hasL_iff]
  constructor
  · intro hh
    unfold hasQ at hh
    split at hh
    · rename_i q hq
      obtain ⟨x, v, g⟩ := q
      simp at hh; subst hh
      exact ⟨x, by unfold slotsR; rw [List.getElem?_map, List.getElem?_map, hq]; rfl⟩
    · cases hh
  · intro hh
    obtain ⟨x, v, hq⟩ := slots_get hh
    unfold hasQ; rw [hq]; rfl
theorem liveQ_L (Q : List RQ) : liveQ Q = liveOf (slotsR (Q.map absQ)) := by
  unfold liveQ liveOf slotsR
  rw [List.countP_map, List.countP_map]
  refine List.countP_congr (fun q _ => ?_)
  obtain ⟨x, v, g⟩ := q
  cases g <;> simp [absQ]
/-- The first call of both. -/
theorem newR (seed : Nat) (same : Bool) (hsd : seed < 18446744073709551616) (hp : Pure w W) {D : Nat → Prop} (h1 : DictAt W D d seed same [] (newG 1)) (h3 : ∀ k, D k → w.heap.size ≤ k) :
    Calls Tryz.prog 10 #[.int .u64 seed, .bool same] W fun e w' => ∃ r, e = .returned (rdV seed same r 0 (8 * (newG 1).length)) ∧ DR w w' d seed same [] (newG 1) r [] (newG 1) (fun _ => False) ∧ Pure W w' := by
  refine Calls.mono (rdNew_ok seed same W) ?_
  rintro e w' ⟨r, rfl, h5, h6, h7⟩
  refine ⟨r, rfl, ⟨D, h1.pure h7, hp.trans h7, h3, h5, fun k hk => ?_, fun _ h => h.elim⟩, h7⟩
  rw [h6] at hk; cases hk
end
end Go.Proofs.YtapplindfijngaaGreat

/- Remove of a dictionary and of the reference's, whether or not there is an entry. -/
namespace Go.Proofs.YtapplindfijngaaGreat
open Go.RowKit Go.Shelf
set_option maxRecDepth 100000

theorem slots_at {Q : List RQ} {s : Nat} {x : Ent} (h : (slotsR (Q.map absQ))[s]? = some (some x)) : ∃ v, Q[s]? = some (x, v, false) := by
  obtain ⟨x', v, hq⟩ := slots_get ⟨x, h⟩
  unfold slotsR at h
  rw [List.getElem?_map, List.getElem?_map, hq] at h
  simp [absQ] at h
  subst h
  exact ⟨v, hq⟩
theorem set_none {L : List (Option Ent)} {s : Nat} (h : hasL L s = false) : L.set s none = L := by
  by_cases hs : s < L.length
  · refine List.ext_getElem? (fun i => ?_)
    by_cases hi : s = i
    · subst hi
      rw [List.getElem?_set_self hs, List.getElem?_eq_getElem hs]
      cases he : L[s] with
      | none => rfl
      | some x => unfold hasL at h; rw [List.getElem?_eq_getElem hs, he] at h; cases h
    · rw [List.getElem?_set_ne hi]
  · exact List.set_eq_of_length_le (by omega)
abbrev zE : Ent := ⟨⟨#[]⟩, [], 0, 0⟩
/-- What Remove returns, and what is left of the index. -/
def remX (L : List (Option Ent)) (s : Nat) : Ent × Nat := match L[s]? with
  | some (some x) => (x, 0)
  | _ => (zE, 9)
def remG (seed : Nat) (same : Bool) (L : List (Option Ent)) (Gs : List Grp) (s : Nat) : List Grp := if hasL L s = true then remM (sumL seed same L) (sumL seed same (L.set s none)) Gs s else Gs
theorem remX_hit {L : List (Option Ent)} {s : Nat} {x : Ent} (h : L[s]? = some (some x)) : remX L s = (x, 0) := by unfold remX; rw [h]
theorem remX_miss {L : List (Option Ent)} {s : Nat} (h : hasL L s = false) : remX L s = (zE, 9) := by
  unfold remX
  unfold hasL at h
  split at h
  · cases h
  · split
    · rename_i h1 _ _ h2; exact absurd h2 (h1 _)
    · rfl
section
variable {w W W' : World} {d seed : Nat} {same : Bool} {L : List (Option Ent)} {Gs Gr : List Grp} {r : RA} {Q : List RQ} {E : Nat → Prop}
theorem remX_ok (h : DR w W d seed same L Gs r Q Gr E) {s : Nat} (hs : s ≤ 4294967295) :
    Calls Tryz.prog 16 #[dPtr d, .int .u32 s] W fun e w' => ∃ a n c, e = .returned (.tuple #[.agg #[.string (remX L s).1.key, .slice a n c, .int .u64 (remX L s).1.dl, .int .u64 (remX L s).1.birth], .int .i64 ((remX L s).2 : Nat)]) ∧ BytesAt w' (.slice a n c) (bytesOf (remX L s).1.val) ∧ Fresh W (.slice a n c) ∧
      DR w w' d seed same (L.set s none) (remG seed same L Gs s) r Q Gr E ∧ OKeep W w' ∧ ∀ k o, E k → W.heap[k]? = some o → w'.heap[k]? = some o := by
  by_cases hh : hasL L s = true
  · obtain ⟨x, hx⟩ := hasL_iff.1 hh
    rw [remX_hit hx, remG, if_pos hh]
    exact remR h hx
  · rw [Bool.not_eq_true] at hh
    rw [remX_miss hh, remG, if_neg (by rw [hh]; decide), set_none hh]
    refine Calls.mono (remR0 h hs hh) ?_
    rintro e w' ⟨rfl, hp⟩
    exact ⟨none, 0, 0, rfl, World.ownsRow_nil _ _ _ _, (fun g hg => by cases hg), h.pure hp, fun k o hk _ => hp.heap (fun h => h) hk, fun k o _ hk => hp.heap (fun h => h) hk⟩
theorem rremX_ok (h : DR w W d seed same L Gs r Q Gr E) (hk : Keeps seed same (slotsR (Q.map absQ)) Gr) {s : Nat} (hs : s ≤ 4294967295) :
    Calls Tryz.prog 17 #[rdV seed same r Q.length (8 * Gr.length), .int .u32 s] W fun e w' => ∃ r' Q' a n c,
      e = .returned (.tuple #[rdV seed same r' Q'.length (8 * (remG seed same (slotsR (Q.map absQ)) Gr s).length), .agg #[.string (remX (slotsR (Q.map absQ)) s).1.key, .slice a n c, .int .u64 (remX (slotsR (Q.map absQ)) s).1.dl, .int .u64 (remX (slotsR (Q.map absQ)) s).1.birth], .int .i64 ((remX (slotsR (Q.map absQ)) s).2 : Nat)]) ∧
      BytesAt w' (.slice a n c) (bytesOf (remX (slotsR (Q.map absQ)) s).1.val) ∧ slotsR (Q'.map absQ) = (slotsR (Q.map absQ)).set s none ∧
      DR w w' d seed same L Gs r' Q' (remG seed same (slotsR (Q.map absQ)) Gr s) E ∧ Pure W w' := by
  by_cases hh : hasL (slotsR (Q.map absQ)) s = true
  · obtain ⟨x, hx⟩ := hasL_iff.1 hh
    obtain ⟨v, hq⟩ := slots_at hx
    have hv := h.rf.l.vals _ (List.mem_of_getElem? hq)
    dsimp only at hv
    obtain ⟨a, c, rfl, _⟩ := owns_form hv
    rw [remX_hit hx, remG, if_pos hh]
    refine Calls.mono (rremR h hk hq) ?_
    rintro e w' ⟨r', Q', rfl, e1, e2, e3⟩
    exact ⟨r', Q', _, _, _, rfl, owns_mod hv e3 (fun _ _ h => h), by rw [e1, slotsR_set], e2, e3⟩
  · rw [Bool.not_eq_true] at hh
    rw [remX_miss hh, remG, if_neg (by rw [hh]; decide), set_none hh]
    refine Calls.mono (rdrem_miss h.rf seed same hs ((hasQ_L Q s).trans hh) (8 * Gr.length)) ?_
    rintro e w' ⟨rfl, hp⟩
    exact ⟨r, Q, none, 0, 0, rfl, World.ownsRow_nil _ _ _ _, rfl, h.pure hp, hp⟩
theorem remX_ok' (hL : LogOk L) (s : Nat) : (remX L s).1.val.length ≤ 65536 := by
  unfold remX
  split
  · rename_i x hx
    have := (hL.ent x (List.mem_of_getElem? hx)).v1
    exact this
  · show 0 ≤ 65536; omega
theorem DR.put6 (h : DR w W d seed same L Gs r Q Gr E) {b : Nat} (hb : w.heap.size ≤ b) {cs : Array Value} {fz : Nat × Nat} (he : W.heap[b]? = some (.cells cs 38 fz)) (hm : Mod (fun k => k = b) W W') : DR w W' d seed same L Gs r Q Gr E := by
  obtain ⟨D, h1, h2, h3, h4, h5, h6⟩ := h
  refine ⟨D, h1.frame hm (fun k hk e => ?_) (fun k _ e cs fz e2 => ?_), h2.then hm (fun i hi e => by omega), h3, h4.modX hm (fun i hi _ => by subst hi; exact ⟨_, _, _, he, by decide, by decide, by decide, by decide⟩), h5, fun k hk => ⟨(h6 k hk).1, Nat.lt_of_lt_of_le (h6 k hk).2 hm.size⟩⟩
  · subst e
    rcases h1.types hk he with e | e | e | e | e <;> cases e
  · subst e; rw [he] at e2; cases e2
end
end Go.Proofs.YtapplindfijngaaGreat

/- law11.CompactDicts answers true. Condition: the slot numbers are read. -/
namespace Go.Proofs.YtapplindfijngaaGreat
open Go.RowKit Go.Shelf
set_option maxRecDepth 100000

/-! ### plain -/
def KeyAt (R : List (Ent × Bool)) : Prop := ∀ (i : Nat) (x : Ent) (g : Bool), R[i]? = some (x, g) → x = mkE i
theorem baseR_keyAt (n : Nat) : KeyAt (baseR n) := by
  intro i x g h
  unfold baseR at h
  rw [List.getElem?_map] at h
  cases hr : (List.range n)[i]? with
  | none => rw [hr] at h; cases h
  | some k =>
    rw [hr] at h
    obtain ⟨hl, hk⟩ := List.getElem?_eq_some_iff.1 hr
    rw [List.getElem_range] at hk
    subst hk
    simp at h
    exact h.1.symm
theorem rmR_keyAt {R : List (Ent × Bool)} (h : KeyAt R) (s : Nat) : KeyAt (rmR R s) := by
  unfold rmR
  split
  · rename_i x hx
    intro i y g hy
    by_cases hi : s = i
    · subst hi
      rw [List.getElem?_set_self (List.getElem?_eq_some_iff.1 hx).1] at hy
      cases hy
      exact h _ _ _ hx
    · rw [List.getElem?_set_ne hi] at hy
      exact h i y g hy
  · exact h
theorem madeR_keyAt (n : Nat) (gs : List Nat) : KeyAt (madeR n gs) := by
  unfold madeR
  suffices ∀ R, KeyAt R → KeyAt (gs.foldl rmR R) from this _ (baseR_keyAt n)
  induction gs with
  | nil => exact fun R h => h
  | cons g gs ih => exact fun R h => ih _ (rmR_keyAt h g)
theorem madeR_keys (n : Nat) (hn : n ≤ 100) (gs : List Nat) : KeysOk (slotsR (madeR n gs)) := by
  have key : ∀ (s : Nat) (e : Ent), (slotsR (madeR n gs))[s]? = some (some e) → e = mkE s ∧ s < 100 := fun s e h => by
    unfold slotsR at h
    rw [List.getElem?_map] at h
    cases hr : (madeR n gs)[s]? with
    | none => rw [hr] at h; cases h
    | some p =>
      obtain ⟨x, g⟩ := p
      rw [hr] at h
      have hl := (List.getElem?_eq_some_iff.1 hr).1
      rw [madeR_length] at hl
      have hx := madeR_keyAt n gs s x g hr
      cases g
      · simp at h; subst h; exact ⟨hx, by omega⟩
      · simp at h
  intro s t e f h1 h2 hk
  obtain ⟨rfl, l1⟩ := key s e h1
  obtain ⟨rfl, l2⟩ := key t f h2
  unfold mkE at hk
  have h3 := congrArg (fun b : ByteArray => b.data.toList) hk
  simp at h3
  have h4 := congrArg UInt8.toNat h3
  simp at h4
  omega
theorem packL_length (L : List (Option Ent)) : (packL L).length = (live L).length := by simp [packL]
theorem packL_at {L : List (Option Ent)} {i : Nat} (h : i < (packL L).length) : ∃ e, (packL L)[i]? = some (some e) := by
  unfold packL at h ⊢
  rw [List.length_map] at h
  exact ⟨_, by rw [List.getElem?_map, List.getElem?_eq_getElem h]; rfl⟩

structure CDa (w : World) (b10 d : Nat) (D : Nat → Prop) (seed : Nat) (same : Bool) (aL : Option Addr) (cL : Nat) (aG : Option Addr) (cG n : Nat) (Q : List RQ) (L : List (Option Ent)) (Gs : List Grp) (W : World) : Prop where
  pu : Pure w W
  r10 : W.heap[b10]? = some (.cells #[.slice aL n cL, .slice aG n cG] 32 (0, 0))
  ref : RefRow W aL cL aG cG Q
  di : DictAt W D d seed same L Gs
  len : Q.length = n
  eq : slotsR (Q.map absQ) = L
theorem CDa.pure {w : World} {b10 d : Nat} {D : Nat → Prop} {seed : Nat} {same : Bool} {aL : Option Addr} {cL : Nat} {aG : Option Addr} {cG n : Nat} {Q : List RQ} {L : List (Option Ent)} {Gs : List Grp} {W W' : World} (h : CDa w b10 d D seed same aL cL aG cG n Q L Gs W) (hq : Pure W W') : CDa w b10 d D seed same aL cL aG cG n Q L Gs W' :=
  ⟨h.pu.trans hq, hq.heap (fun h => h) h.r10, h.ref.pure hq, h.di.pure hq, h.len, h.eq⟩
structure CDb (b14 seed : Nat) (same : Bool) (r : RA) (n m : Nat) (Q : List RQ) (Gs : List Grp) (W : World) : Prop where
  r14 : W.heap[b14]? = some (rdO seed same r n m)
  rf : RefD W r Q Gs
  len : Q.length = n
theorem CDb.pure {b14 seed : Nat} {same : Bool} {r : RA} {n m : Nat} {Q : List RQ} {Gs : List Grp} {W W' : World} (h : CDb b14 seed same r n m Q Gs W) (hq : Pure W W') : CDb b14 seed same r n m Q Gs W' :=
  ⟨hq.heap (fun h => h) h.r14, h.rf.pure hq, h.len⟩
structure CDc (b17 d : Nat) (D : Nat → Prop) (seed : Nat) (same : Bool) (a : Option Addr) (c j n : Nat) (xs : List Nat) (L : List (Option Ent)) (Gs : List Grp) (W : World) : Prop where
  r17 : W.heap[b17]? = some (.cells #[.slice a j c, .int .i64 n] 81 (0, 0))
  di : DictAt W D d seed same L Gs
  row : U32Row W a c xs
  len : xs.length = j
theorem CDc.pure {b17 d : Nat} {D : Nat → Prop} {seed : Nat} {same : Bool} {a : Option Addr} {c j n : Nat} {xs : List Nat} {L : List (Option Ent)} {Gs : List Grp} {W W' : World} (h : CDc b17 d D seed same a c j n xs L Gs W) (hq : Pure W W') : CDc b17 d D seed same a c j n xs L Gs W' :=
  ⟨hq.heap (fun h => h) h.r17, h.di.pure hq, owns_mod h.row hq (fun _ _ h => h), h.len⟩
structure CDd (b18 b19 seed : Nat) (same : Bool) (r : RA) (k m : Nat) (Q : List RQ) (Gs : List Grp) (aN : Option Addr) (cN n j : Nat) (xs : List Nat) (L : List (Option Ent)) (W : World) : Prop where
  r18 : W.heap[b18]? = some (rdO seed same r k m)
  r19 : W.heap[b19]? = some (.cells #[.slice aN n cN, .int .i64 j] 86 (0, 0))
  rf : RefD W r Q Gs
  mv : MvX W aN cN n xs
  len : Q.length = k
  eq : slotsR (Q.map absQ) = L
  gl : 8 * Gs.length = m
theorem CDd.pure {b18 b19 seed : Nat} {same : Bool} {r : RA} {k m : Nat} {Q : List RQ} {Gs : List Grp} {aN : Option Addr} {cN n j : Nat} {xs : List Nat} {L : List (Option Ent)} {W W' : World} (h : CDd b18 b19 seed same r k m Q Gs aN cN n j xs L W) (hq : Pure W W') : CDd b18 b19 seed same r k m Q Gs aN cN n j xs L W' :=
  ⟨hq.heap (fun h => h) h.r18, hq.heap (fun h => h) h.r19, h.rf.pure hq, h.mv.pure hq, h.len, h.eq, h.gl⟩
def SCd (b17 b19 b18 b10 : Nat) (v0 v1 u0 u1 x2 x3 y0 y1 : Value) (w' : World) : Prop :=
  w'.cell? ⟨b17, 0, none⟩ = some v0 ∧ w'.cell? ⟨b17, 1, none⟩ = some v1 ∧ w'.cell? ⟨b19, 0, none⟩ = some u0 ∧ w'.cell? ⟨b19, 1, none⟩ = some u1 ∧ w'.cell? ⟨b18, 2, none⟩ = some x2 ∧ w'.cell? ⟨b18, 3, none⟩ = some x3 ∧ w'.cell? ⟨b10, 0, none⟩ = some y0 ∧ w'.cell? ⟨b10, 1, none⟩ = some y1
theorem SCd.pure {b17 b19 b18 b10 : Nat} {v0 v1 u0 u1 x2 x3 y0 y1 : Value} {X W : World} (h : SCd b17 b19 b18 b10 v0 v1 u0 u1 x2 x3 y0 y1 X) (hp : Pure X W) : SCd b17 b19 b18 b10 v0 v1 u0 u1 x2 x3 y0 y1 W := by
  obtain ⟨h1, h2, h3, h4, h5, h6, h7, h8⟩ := h
  exact ⟨hp.cell (fun h => h) h1, hp.cell (fun h => h) h2, hp.cell (fun h => h) h3, hp.cell (fun h => h) h4, hp.cell (fun h => h) h5, hp.cell (fun h => h) h6, hp.cell (fun h => h) h7, hp.cell (fun h => h) h8⟩
theorem ofC {w : World} {D : Nat → Prop} {q : Nat} {L : List (Option Ent)} (h : LogAt w D q L) (hk : KeysOk L) (seed : Nat) (same : Bool) (hsd : seed < 18446744073709551616) :
    Calls Tryz.prog 26 #[.agg #[.int .u64 seed, .bool same], .pointer (some ⟨q, 0, none⟩)] w fun e w' => ∃ d D2, e = .returned (.tuple #[.pointer (some ⟨d, 0, none⟩), .int .i64 0]) ∧ DictAt w' D2 d seed same L (ofM seed same L (live L)) ∧ Pure w w' := by
  refine Calls.mono (of_ok h seed same hsd) ?_
  rintro e w' (⟨_, ⟨d, D2, rfl, h1, _⟩, hp⟩ | ⟨h1, _⟩)
  · exact ⟨d, D2, rfl, h1, hp⟩
  · exact absurd hk h1
theorem compDC {w : World} {D : Nat → Prop} {d seed : Nat} {same : Bool} {L : List (Option Ent)} {Gs : List Grp} (h : DictAt w D d seed same L Gs) (n : Nat) (hn : L.length = n) (j : Nat) (hj : (olds L).length = j) :
    Calls Tryz.prog 35 #[dPtr d] w fun e w' => ∃ d2 D2 a c, e = .returned (.tuple #[.pointer (some ⟨d2, 0, none⟩), .agg #[.slice a j c, .int .i64 n], .int .i64 0]) ∧ DictAt w' D2 d2 seed same (packL L) (ofM seed same (packL L) (live (packL L))) ∧ U32Row w' a c (olds L) ∧ Pure w w' := by
  subst hn hj
  refine Calls.mono (compD_ok h) ?_
  rintro e w' ⟨d2, D2, a, c, rfl, h1, h2, h3, _⟩
  refine ⟨d2, D2, a, c, by rw [olds_length], h1, ?_, h3⟩
  unfold U32Row u32s
  rw [olds_length]
  unfold olds
  rw [List.map_map]
  exact h2
set_option maxHeartbeats 8000000 in
theorem CompactDicts_true {w : World} (seed : Int) (hs0 : 0 ≤ seed) (hs1 : seed ≤ 18446744073709551615) (same : Bool) (n : Int) (a : Option Addr) (c : Nat) (gs : List Nat) (hg : ReadAt w (.slice a gs.length c) 1 (u32s gs)) (hgu : ∀ s ∈ gs, s ≤ 4294967295) (hgl : gs.length ≤ 9223372036854775807) :
    Calls Tryz.prog 6 #[.int .u64 seed, .bool same, .int .i64 n, .slice a gs.length c] w fun e w' => e = .returned (.bool true) ∧ Pure w w' := by
  obtain ⟨seed, rfl⟩ := Int.eq_ofNat_of_zero_le hs0
  by_cases hm : (decide (n < 0) || decide (100 < n) || decide (100 < (gs.length : Int))) = true
  · have HM := Lib.hid hm
    clear hm hg hgu
    go_enter Tryz.func6, Tryz.ntmps6
    go_wp2_with (first
      | (go_at_call 32; refine Calls.mono (many_any n a _ c _ hgl true HM.out) ?_; rintro e w1 ⟨rfl, rfl⟩)
      | (go_at_call 33; refine Calls.mono (known_true _) ?_; rintro e w1 ⟨rfl, hp⟩))
    go_ret
    exact ⟨rfl, hp⟩
  · have hm2 : (decide (n < 0) || decide (100 < n) || decide (100 < (gs.length : Int))) = false := by simpa using hm
    have h0 : 0 ≤ n ∧ n ≤ 100 ∧ gs.length ≤ 100 := by simp at hm; omega
    obtain ⟨k, rfl⟩ := Int.eq_ofNat_of_zero_le h0.1
    have HM := Lib.hid hm2
    have hk : k ≤ 100 := by omega
    have hg2 : gs.length ≤ 100 := h0.2.2
    have HG := Lib.hid hg
    have HGU := Lib.hid hgu
    have hsd : seed < 18446744073709551616 := by omega
    have HKM := Lib.hid (madeR_keys k hk gs)
    have HNh := Lib.hid (fun W => hnew10 (seed : Int) same W)
    clear hm hm2 hg hgu h0 hs0 hs1
    go_enter Tryz.func6, Tryz.ntmps6
    go_upto_region 4 with (first
      | (go_at_call 32; refine Calls.mono (many_any _ a _ c _ hgl false HM.out) ?_; rintro e w1 ⟨rfl, rfl⟩)
      | (go_at_call 34; refine Calls.mono (made_any k hk a c gs HG.out hg2 HGU.out) ?_; rintro e w1 ⟨p, D, aL, cL, aG, cG, Q, rfl, hl, hD, hQ, hR, hA, hp⟩))
    have hal : Pure w1 (w1.alloc (.cells #[.slice aL Q.length cL, .slice aG Q.length cG] 32)) := (Mod.refl _ w1).alloc _
    have hql : Q.length ≤ 100 := by have := congrArg List.length hQ; rw [List.length_map, madeR_length] at this; omega
    rw [← hQ] at hl
    have HKO : Hid (KeysOk (slotsR (Q.map absQ))) := Lib.hid (by rw [hQ]; exact HKM.out)
    obtain ⟨m, hqm⟩ : ∃ m, Q.length = m := ⟨_, rfl⟩
    have h10 := heap_new (w := w1) (o := .cells #[.slice aL Q.length cL, .slice aG Q.length cG] 32 (0, 0)) rfl
    rw [hqm] at h10 ⊢
    have hm100 : m ≤ 100 := by omega
    obtain ⟨L, hL⟩ : ∃ L, slotsR (Q.map absQ) = L := ⟨_, rfl⟩
    rw [hL] at hl HKO
    have hsl : L.length = m := by rw [← hL, slotsR_length, List.length_map, hqm]
    have HLg := Lib.hid (hl.pure hal); have HRf := Lib.hid (hR.pure hal); have HPu := Lib.hid (hp.trans hal); have HQM := Lib.hid hqm; have HLL := Lib.hid hL; have HSL := Lib.hid hsl
    rw [hqm] at HLg HRf HPu
    have H10 := Lib.hid h10
    clear hl hD hQ hR hA hp hal hql hqm hL hsl h10 HKM
    generalize w1.alloc (.cells #[.slice aL m cL, .slice aG m cG] 32) = W1 at *
    generalize w1.heap.size = b10 at *
    obtain ⟨G0, hG0⟩ : ∃ G0, ofM seed same L (live L) = G0 := ⟨_, rfl⟩
    have HG0 := Lib.hid hG0
    clear hG0
    go_upto_region 7 with (first
      | (go_at_call 9; refine Calls.mono (HNh.out _) ?_; rintro e w2 ⟨rfl, hp2⟩)
      | (go_at_call 26; refine Calls.mono (ofC (HLg.out.pure hp2) HKO.out seed same hsd) ?_; rintro e w3 ⟨d, D1, rfl, hd, hp3⟩))
    rw [HG0.out] at hd
    have HA : Hid (CDa w b10 d D1 seed same aL cL aG cG m Q L G0 w3) := Lib.hid ⟨HPu.out.trans (hp2.trans hp3), (hp2.trans hp3).heap (fun h => h) H10.out, HRf.out.pure (hp2.trans hp3), hd, HQM.out, HLL.out⟩
    clear hp2 hp3 hd HLg HRf HPu H10
    have r10 := HA.out.r10
    have r10_0 := cell_of_row _ _ 0 _ _ _ r10; have r10_1 := cell_of_row _ _ 1 _ _ _ r10; have r10_f := (fun j => frozen_of_row _ _ j _ _ r10); have r10_l := lt_of_block r10; simp at r10_0 r10_1; have H_r10 := Lib.hid r10; clear r10
    have hof := rdOf_ok HA.out.ref seed same hsd (by rw [HLL.out]; exact HKO.out)
    unfold rdofPost at hof
    rw [HLL.out, HG0.out, HQM.out] at hof
    have HOf := Lib.hid hof
    clear hof
    go_upto_region 8 with (go_at_call 27; refine Calls.mono HOf.out ?_; rintro e w4 ⟨⟨aL1, cL1, aG1, cG1, aC1, cC1, aS1, cS1⟩, Q1, rfl, hq1, hr1, _, hp4⟩)
    have hQ1 : Q1.length = m := by have := congrArg List.length hq1; rw [List.length_map, List.length_map, HQM.out] at this; exact this
    obtain ⟨m1, hm1⟩ : ∃ m1, 8 * G0.length = m1 := ⟨_, rfl⟩
    rw [hQ1, hm1]
    have hal : Pure w4 (w4.alloc (rdO seed same ⟨aL1, cL1, aG1, cG1, aC1, cC1, aS1, cS1⟩ m m1)) := (Mod.refl _ w4).alloc _
    replace HA := Lib.hid (HA.out.pure (hp4.trans hal))
    have HBb : Hid (CDb w4.heap.size seed same ⟨aL1, cL1, aG1, cG1, aC1, cC1, aS1, cS1⟩ m m1 Q1 G0 (w4.alloc (rdO seed same ⟨aL1, cL1, aG1, cG1, aC1, cC1, aS1, cS1⟩ m m1))) := Lib.hid ⟨heap_new rfl, hr1.pure hal, hQ1⟩
    have HL1 : Hid (slotsR (Q1.map absQ) = L) := Lib.hid (by rw [hq1]; exact HLL.out)
    clear r10_0 r10_1 r10_f r10_l
    clear H_r10 hq1 hr1 hp4 hal hQ1 HOf hm1
    dsimp only [rdO] at HA HBb ⊢
    generalize w4.alloc (.cells #[.int .u64 seed, .bool same, .slice aL1 m cL1, .slice aG1 m cG1, .slice aC1 m1 cC1, .slice aS1 m1 cS1] 38) = W4 at *
    generalize w4.heap.size = b14 at *
    obtain ⟨xs, hxs⟩ : ∃ xs, olds L = xs := ⟨_, rfl⟩
    obtain ⟨j, hj⟩ : ∃ j, xs.length = j := ⟨_, rfl⟩
    have hri : Rising xs := by rw [← hxs]; exact olds_rising (by rw [HSL.out]; omega)
    have hlt : ∀ x ∈ xs, x < m := by rw [← hxs, ← HSL.out]; exact olds_lt
    obtain ⟨P, hP⟩ : ∃ P, packL L = P := ⟨_, rfl⟩
    obtain ⟨G1, hG1⟩ : ∃ G1, ofM seed same P (live P) = G1 := ⟨_, rfl⟩
    have hcd := compDC HA.out.di m HSL.out j (by rw [hxs]; exact hj)
    rw [hxs, hP, hG1] at hcd
    have hrc := fun W (hW : Pure W4 W) => rcompD_ok (HBb.out.rf.pure hW) seed same hsd m1 (by rw [HL1.out]; exact HKO.out)
    unfold rcompPost at hrc
    rw [HL1.out, hP, hG1, HBb.out.len, hxs, hj] at hrc
    have hpk : P.length = j := by rw [← hP, packL_length, ← hj, ← hxs, olds_length]
    have HKP : Hid (KeysOk P) := Lib.hid (by rw [← hP]; exact packL_keys HKO.out)
    have HAT : Hid (∀ i, i < P.length → ∃ e, P[i]? = some (some e)) := Lib.hid (by rw [← hP]; exact fun i h => packL_at h)
    have HXS := Lib.hid hxs; have HJ := Lib.hid hj; have HRI := Lib.hid hri; have HLT := Lib.hid hlt; have HPK := Lib.hid hpk; have HCD := Lib.hid hcd; have HRC := Lib.hid hrc
    clear hxs hj hri hlt hpk hcd hrc hP hG1
    go_upto_region 11 with (go_at_call 35; refine Calls.mono HCD.out ?_; rintro e w5 ⟨d2, D2, a2, c2, rfl, hd2, hr2, hp5⟩)
    have hal : Pure w5 (w5.alloc (.cells #[.slice a2 j c2, .int .i64 m] 81)) := (Mod.refl _ w5).alloc _
    replace HA := Lib.hid (HA.out.pure (hp5.trans hal))
    replace HBb := Lib.hid (HBb.out.pure (hp5.trans hal))
    have HCc : Hid (CDc w5.heap.size d2 D2 seed same a2 c2 j m xs P G1 (w5.alloc (.cells #[.slice a2 j c2, .int .i64 m] 81))) := Lib.hid ⟨heap_new rfl, hd2.pure hal, owns_mod hr2 hal (fun _ _ h => h), HJ.out⟩
    have hrc := HRC.out _ (hp5.trans hal)
    have HRC2 := Lib.hid hrc
    clear hd2 hr2 hp5 hal HCD HRC hrc
    generalize w5.alloc (.cells #[.slice a2 j c2, .int .i64 m] 81) = W5 at *
    generalize w5.heap.size = b17 at *
    have r14 := HBb.out.r14
    dsimp only [rdO] at r14
    have r14_0 := cell_of_row _ _ 0 _ _ _ r14; have r14_1 := cell_of_row _ _ 1 _ _ _ r14; have r14_2 := cell_of_row _ _ 2 _ _ _ r14; have r14_3 := cell_of_row _ _ 3 _ _ _ r14; have r14_4 := cell_of_row _ _ 4 _ _ _ r14; have r14_5 := cell_of_row _ _ 5 _ _ _ r14; have r14_f := (fun j => frozen_of_row _ _ j _ _ r14); have r14_l := lt_of_block r14; simp at r14_0 r14_1 r14_2 r14_3 r14_4 r14_5; have H_r14 := Lib.hid r14; clear r14
    go_upto_region 12 with (go_at_call 36; refine Calls.mono HRC2.out ?_; rintro e w6 ⟨⟨aL3, cL3, aG3, cG3, aC3, cC3, aS3, cS3⟩, Q3, aN, cN, rfl, hq3, hr3, hmv, _, hp6⟩)
    have hQ3 : Q3.length = j := by have := congrArg List.length hq3; rw [slotsR_length, List.length_map, HPK.out] at this; exact this
    obtain ⟨m3, hm3⟩ : ∃ m3, 8 * G1.length = m3 := ⟨_, rfl⟩
    rw [hQ3, hm3]
    have hal : Pure w6 ((w6.alloc (rdO seed same ⟨aL3, cL3, aG3, cG3, aC3, cC3, aS3, cS3⟩ j m3)).alloc (.cells #[.slice aN m cN, .int .i64 j] 86)) := ((Mod.refl _ w6).alloc _).alloc _
    replace HA := Lib.hid (HA.out.pure (hp6.trans hal))
    replace HCc := Lib.hid (HCc.out.pure (hp6.trans hal))
    have HDd : Hid (CDd w6.heap.size (w6.heap.size + 1) seed same ⟨aL3, cL3, aG3, cG3, aC3, cC3, aS3, cS3⟩ j m3 Q3 G1 aN cN m j xs P ((w6.alloc (rdO seed same ⟨aL3, cL3, aG3, cG3, aC3, cC3, aS3, cS3⟩ j m3)).alloc (.cells #[.slice aN m cN, .int .i64 j] 86))) :=
      Lib.hid ⟨heap_keep (heap_new rfl), heap_new (by simp), hr3.pure hal, hmv.pure hal, hQ3, hq3, hm3⟩
    clear r14_0 r14_1 r14_2 r14_3 r14_4 r14_5 r14_f r14_l
    clear H_r14 hq3 hr3 hmv hp6 hal hQ3 hm3 HRC2 HBb HL1
    dsimp only [rdO] at HA HCc HDd ⊢
    generalize (w6.alloc (.cells #[.int .u64 seed, .bool same, .slice aL3 j cL3, .slice aG3 j cG3, .slice aC3 m3 cC3, .slice aS3 m3 cS3] 38)).alloc (.cells #[.slice aN m cN, .int .i64 j] 86) = X at *
    generalize w6.heap.size + 1 = b19 at *
    generalize w6.heap.size = b18 at *
    have hp18 := HDd.out.r18
    have hp19 := HDd.out.r19
    have hp17 := HCc.out.r17
    have hp10 := HA.out.r10
    dsimp only [rdO] at hp18
    have hp18_0 := cell_of_row _ _ 0 _ _ _ hp18; have hp18_1 := cell_of_row _ _ 1 _ _ _ hp18; have hp18_2 := cell_of_row _ _ 2 _ _ _ hp18; have hp18_3 := cell_of_row _ _ 3 _ _ _ hp18; have hp18_4 := cell_of_row _ _ 4 _ _ _ hp18; have hp18_5 := cell_of_row _ _ 5 _ _ _ hp18; have hp18_f := (fun j => frozen_of_row _ _ j _ _ hp18); have hp18_l := lt_of_block hp18; simp at hp18_0 hp18_1 hp18_2 hp18_3 hp18_4 hp18_5; have H_hp18 := Lib.hid hp18; clear hp18
    have hp19_0 := cell_of_row _ _ 0 _ _ _ hp19; have hp19_1 := cell_of_row _ _ 1 _ _ _ hp19; have hp19_f := (fun j => frozen_of_row _ _ j _ _ hp19); have hp19_l := lt_of_block hp19; simp at hp19_0 hp19_1; have H_hp19 := Lib.hid hp19; clear hp19
    have hp17_0 := cell_of_row _ _ 0 _ _ _ hp17; have hp17_1 := cell_of_row _ _ 1 _ _ _ hp17; have hp17_f := (fun j => frozen_of_row _ _ j _ _ hp17); have hp17_l := lt_of_block hp17; simp at hp17_0 hp17_1; have H_hp17 := Lib.hid hp17; clear hp17
    have hp10_0 := cell_of_row _ _ 0 _ _ _ hp10; have hp10_1 := cell_of_row _ _ 1 _ _ _ hp10; have hp10_f := (fun j => frozen_of_row _ _ j _ _ hp10); have hp10_l := lt_of_block hp10; simp at hp10_0 hp10_1; have H_hp10 := Lib.hid hp10; clear hp10
    have HMv := Lib.hid (fun W (hW : Pure X W) => moves_trueC (HCc.out.pure hW).row HRI.out (HDd.out.pure hW).mv (by omega) HLT.out j HJ.out)
    have HLx := Lib.hid (fun W (hW : Pure X W) => dlog_ok (HCc.out.pure hW).di)
    have HLd := Lib.hid (fun W (hW : Pure X W) => dlog_ok (HA.out.pure hW).di)
    have HSx := Lib.hid (fun (W : World) (hW : Pure X W) (D : Nat → Prop) (q : Nat) (hl : LogAt W D q P) => same_trueC hl (HDd.out.pure hW).rf.l j HDd.out.len HDd.out.eq.symm)
    have HSd := Lib.hid (fun (W : World) (hW : Pure X W) (D : Nat → Prop) (q : Nat) (hl : LogAt W D q L) => same_trueC hl (HA.out.pure hW).ref m HA.out.len HA.out.eq.symm)
    have HHx := Lib.hid (fun W (hW : Pure X W) => dhash_ok (HCc.out.pure hW).di)
    have HHd := Lib.hid (fun W (hW : Pure X W) => dhash_ok (HA.out.pure hW).di)
    dsimp only at HSx
    have HS := Lib.hid (show SCd b17 b19 b18 b10 (.slice a2 j c2) (.int .i64 m) (.slice aN m cN) (.int .i64 j) (.slice aL3 j cL3) (.slice aG3 j cG3) (.slice aL m cL) (.slice aG m cG) X from ⟨hp17_0, hp17_1, hp19_0, hp19_1, hp18_2, hp18_3, hp10_0, hp10_1⟩)
    have t1 : Hid True := Lib.hid trivial; have t2 := t1; have t3 := t1; have t4 := t1; have t5 := t1; have t6 := t1
    go_region_held3 (fun w' => w'.cell? ⟨b17, 0, none⟩ = some (.slice a2 j c2) ∧ w'.cell? ⟨b17, 1, none⟩ = some (.int .i64 m) ∧ w'.cell? ⟨b19, 0, none⟩ = some (.slice aN m cN) ∧ w'.cell? ⟨b19, 1, none⟩ = some (.int .i64 j) ∧ w'.cell? ⟨b18, 2, none⟩ = some (.slice aL3 j cL3) ∧ w'.cell? ⟨b18, 3, none⟩ = some (.slice aG3 j cG3) ∧ w'.cell? ⟨b10, 0, none⟩ = some (.slice aL m cL) ∧ w'.cell? ⟨b10, 1, none⟩ = some (.slice aG m cG))
      (first | exact HS.out | exact HS.out.pure hq0 | exact HS.out.pure hq1 | exact HS.out.pure hq2 | exact HS.out.pure hq3 | exact HS.out.pure hq4 | exact HS.out.pure hq5 | exact HS.out.pure hq6)
      (first
        | (go_at_call 37; refine Calls.mono (HMv.out _ (by first | exact Mod.refl _ _ | exact (Mod.refl _ _).drew)) ?_; rintro e u0 ⟨rfl, hp0⟩; have hq0 : Pure X u0 := (by first | exact hp0 | exact Mod.of_drew hp0))
        | (go_at_call 39; have := t1.out; clear this t1; refine Calls.mono (HLx.out _ hq0) ?_; rintro e u1 ⟨q1, D3, rfl, hl1, hp1, _⟩; have hq1 : Pure X u1 := Mod.trans hq0 hp1)
        | (go_at_call 38; have := t2.out; clear this t2; refine Calls.mono (HSx.out _ hq1 D3 q1 hl1) ?_; rintro e u2 ⟨rfl, hp2⟩; have hq2 : Pure X u2 := Mod.trans hq1 hp2)
        | (go_at_call 39; have := t3.out; clear this t3; refine Calls.mono (HLd.out _ hq2) ?_; rintro e u3 ⟨q2, D4, rfl, hl2, hp3, _⟩; have hq3 : Pure X u3 := Mod.trans hq2 hp3)
        | (go_at_call 38; have := t4.out; clear this t4; refine Calls.mono (HSd.out _ hq3 D4 q2 hl2) ?_; rintro e u4 ⟨rfl, hp4⟩; have hq4 : Pure X u4 := Mod.trans hq3 hp4)
        | (go_at_call 40; have := t5.out; clear this t5; refine Calls.mono (HHx.out _ hq4) ?_; rintro e u5 ⟨rfl, hp5⟩; have hq5 : Pure X u5 := Mod.trans hq4 hp5)
        | (go_at_call 40; have := t6.out; clear this t6; refine Calls.mono (HHd.out _ hq5) ?_; rintro e u6 ⟨rfl, hp6⟩; have hq6 : Pure X u6 := Mod.trans hq5 hp6))
    replace HA := Lib.hid (HA.out.pure hq6)
    replace HCc := Lib.hid (HCc.out.pure hq6)
    replace HDd := Lib.hid (HDd.out.pure hq6)
    clear hp18_0 hp18_1 hp18_2 hp18_3 hp18_4 hp18_5 hp18_f hp18_l
    clear hp19_0 hp19_1 hp19_f hp19_l
    clear hp17_0 hp17_1 hp17_f hp17_l
    clear hp10_0 hp10_1 hp10_f hp10_l
    clear H_hp18 H_hp19 H_hp17 H_hp10 HMv HLx HLd HSx HSd HHx HHd HS hp0 hq0 hl1 hp1 hq1 hp2 hq2 hl2 hp3 hq3 hp4 hq4 hp5 hq5 hp6 hq6
    have hsz := dsizes_ok HCc.out.di
    unfold dsizesPost at hsz
    rw [HPK.out] at hsz
    have HSz := Lib.hid hsz
    have HCg := Lib.hid (fun W (hW : Pure u6 W) => rdgroups HDd.out.rf HDd.out.gl hW)
    have HCt := Lib.hid (fun W (hW : Pure u6 W) => rdtombs HDd.out.rf HDd.out.gl hW)
    dsimp only at HCg HCt
    clear hsz
    generalize (G1.length : Int) = gz at HCg HSz
    generalize (tombN G1 : Int) = tz at HCt HSz
    have hj100 : j ≤ 100 := by have h1 := live_length L; rw [HSL.out, ← olds_length, HXS.out, HJ.out] at h1; omega
    have wj : IntKind.i64.wrap (j : Int) = j := IntWalk.i64_in _ (by omega)
    go_upto_region 15 with (go_at_call 41; refine Calls.mono HSz.out ?_; rintro e u7 ⟨rfl, hp7⟩)
    have hp18 := hp7.heap (fun h => h) HDd.out.r18
    dsimp only [rdO] at hp18
    have hp18_0 := cell_of_row _ _ 0 _ _ _ hp18; have hp18_1 := cell_of_row _ _ 1 _ _ _ hp18; have hp18_2 := cell_of_row _ _ 2 _ _ _ hp18; have hp18_3 := cell_of_row _ _ 3 _ _ _ hp18; have hp18_4 := cell_of_row _ _ 4 _ _ _ hp18; have hp18_5 := cell_of_row _ _ 5 _ _ _ hp18; have hp18_f := (fun j => frozen_of_row _ _ j _ _ hp18); have hp18_l := lt_of_block hp18; simp at hp18_0 hp18_1 hp18_2 hp18_3 hp18_4 hp18_5; have H_hp18 := Lib.hid hp18; clear hp18
    go_upto_region 17 with (first
      | (go_at_call 14; refine Calls.mono (HCg.out _ hp7) ?_; rintro e u8 ⟨rfl, hp8⟩; clear hp18_0 hp18_1 hp18_2 hp18_3 hp18_4 hp18_5 hp18_f hp18_l; clear H_hp18; have hp18 := (hp7.trans hp8).heap (fun h => h) HDd.out.r18; dsimp only [rdO] at hp18; have hp18_0 := cell_of_row _ _ 0 _ _ _ hp18; have hp18_1 := cell_of_row _ _ 1 _ _ _ hp18; have hp18_2 := cell_of_row _ _ 2 _ _ _ hp18; have hp18_3 := cell_of_row _ _ 3 _ _ _ hp18; have hp18_4 := cell_of_row _ _ 4 _ _ _ hp18; have hp18_5 := cell_of_row _ _ 5 _ _ _ hp18; have hp18_f := (fun j => frozen_of_row _ _ j _ _ hp18); have hp18_l := lt_of_block hp18; simp at hp18_0 hp18_1 hp18_2 hp18_3 hp18_4 hp18_5; have H_hp18 := Lib.hid hp18; clear hp18)
      | (go_at_call 15; refine Calls.mono (HCt.out _ (hp7.trans hp8)) ?_; rintro e u9 ⟨rfl, hp9⟩; clear hp18_0 hp18_1 hp18_2 hp18_3 hp18_4 hp18_5 hp18_f hp18_l; clear H_hp18; have hp18 := (hp7.trans (hp8.trans hp9)).heap (fun h => h) HDd.out.r18; dsimp only [rdO] at hp18; have hp18_0 := cell_of_row _ _ 0 _ _ _ hp18; have hp18_1 := cell_of_row _ _ 1 _ _ _ hp18; have hp18_2 := cell_of_row _ _ 2 _ _ _ hp18; have hp18_3 := cell_of_row _ _ 3 _ _ _ hp18; have hp18_4 := cell_of_row _ _ 4 _ _ _ hp18; have hp18_5 := cell_of_row _ _ 5 _ _ _ hp18; have hp18_f := (fun j => frozen_of_row _ _ j _ _ hp18); have hp18_l := lt_of_block hp18; simp at hp18_0 hp18_1 hp18_2 hp18_3 hp18_4 hp18_5; have H_hp18 := Lib.hid hp18; clear hp18))
    have hpa := hp7.trans (hp8.trans hp9)
    replace HA := Lib.hid (HA.out.pure hpa)
    replace HCc := Lib.hid (HCc.out.pure hpa)
    replace HDd := Lib.hid (HDd.out.pure hpa)
    clear hp18_0 hp18_1 hp18_2 hp18_3 hp18_4 hp18_5 hp18_f hp18_l
    clear H_hp18 HSz HCg HCt hpa hp7 hp8 hp9
    have hp18 := HDd.out.r18
    dsimp only [rdO] at hp18
    have hp18_0 := cell_of_row _ _ 0 _ _ _ hp18; have hp18_1 := cell_of_row _ _ 1 _ _ _ hp18; have hp18_2 := cell_of_row _ _ 2 _ _ _ hp18; have hp18_3 := cell_of_row _ _ 3 _ _ _ hp18; have hp18_4 := cell_of_row _ _ 4 _ _ _ hp18; have hp18_5 := cell_of_row _ _ 5 _ _ _ hp18; have hp18_f := (fun j => frozen_of_row _ _ j _ _ hp18); have hp18_l := lt_of_block hp18; simp at hp18_0 hp18_1 hp18_2 hp18_3 hp18_4 hp18_5; have H_hp18 := Lib.hid hp18; clear hp18
    go_upto_region 18 with fail
    clear hp18_0 hp18_1 hp18_2 hp18_3 hp18_4 hp18_5 hp18_f hp18_l
    clear H_hp18
    go_loopw [140] (fun v140 wr => ∃ i, v140 = .int .i64 (i : Nat) ∧ i ≤ j ∧ Pure u9 wr) (fun v140 _ => j - (intOf v140).toNat)
    case atStart => exact ⟨0, rfl, Nat.zero_le _, Mod.refl _ _⟩
    case round =>
      obtain ⟨i, rfl, hi, hpw⟩ := hrel
      have HPW := Lib.hid hpw
      clear hpw
      by_cases hlt : i < j
      · have hlt' : (i : Int) < (j : Int) := by omega
        have i0 : (0 : Int) ≤ (i : Int) := by omega
        have wi : IntKind.i64.wrap ((i : Int) + 1) = (i : Int) + 1 := IntWalk.i64_in _ (by omega)
        have wu : IntKind.u32.wrap (i : Int) = (i : Int) := by simp [IntKind.wrap, IntKind.signed, IntKind.bits]; omega
        obtain ⟨x, hx⟩ := HAT.out i (by rw [HPK.out]; exact hlt)
        obtain ⟨v, hq⟩ := slots_at (Q := Q3) (s := i) (x := x) (by rw [HDd.out.eq]; exact hx)
        have hrw := (HDd.out.pure HPW.out).rf.l
        have hv := hrw.vals _ (List.mem_of_getElem? hq)
        obtain ⟨va, vc, hve, _⟩ := owns_form hv
        dsimp only at hve
        subst hve
        obtain ⟨g, _, hsv, _, hgz, hc, hf, _⟩ := owns_at hrw.L (by rw [HDd.out.len]; omega)
        cases hsv
        have hcc : ∀ (jj : Nat) u, (cellsQ (x, .slice va (bytesOf x.val).length vc, false))[jj]? = some u → wr.cell? ⟨g, i * 4 + jj, none⟩ = some u := by
          intro jj u hu
          have hj : jj < 4 := by rw [← cellsQ_length (x, .slice va (bytesOf x.val).length vc, false)]; exact (List.getElem?_eq_some_iff.1 hu).1
          refine hc _ _ ?_
          rw [flat_get cellsQ 4 cellsQ_length jj hj, hq]
          exact hu
        have s0 : wr.cell? ⟨g, i * 4, none⟩ = _ := hcc 0 _ rfl; have s1 := hcc 1 _ rfl; have s2 := hcc 2 _ rfl; have s3 := hcc 3 _ rfl
        dsimp only at s0 s1 s2 s3
        have hfk : findV P x.key = (i, 0) := by unfold findV; rw [findK_eq HKP.out hx]
        have hkx : x.key.size ≤ 140737488355328 := by have := (HCc.out.di.ok.ent x (List.mem_of_getElem? hx)).k1; omega
        have hfd := fun W (hW : Pure u9 W) => Find_any (HCc.out.di.pure hW) x.key hkx
        unfold dfindPost at hfd
        rw [hfk] at hfd
        have HFd := Lib.hid hfd
        clear hx hq hrw hv hgz hc hf hcc hfk hkx hfd
        generalize (bytesOf x.val).length = vn at *
        go_upto_region 20 with fail
        have hal : Pure wr (wr.alloc (.cells #[.string x.key, .slice va vn vc, .int .u64 x.dl, .int .u64 x.birth] 42)) := (Mod.refl _ wr).alloc _
        have h24 := heap_new (w := wr) (o := .cells #[.string x.key, .slice va vn vc, .int .u64 x.dl, .int .u64 x.birth] 42 (0, 0)) rfl
        replace HPW := Lib.hid (HPW.out.trans hal)
        clear s0 s1 s2 s3 hal
        generalize wr.alloc (.cells #[.string x.key, .slice va vn vc, .int .u64 x.dl, .int .u64 x.birth] 42) = W7 at *
        generalize wr.heap.size = b24 at *
        have h24_0 := cell_of_row _ _ 0 _ _ _ h24; have h24_1 := cell_of_row _ _ 1 _ _ _ h24; have h24_2 := cell_of_row _ _ 2 _ _ _ h24; have h24_3 := cell_of_row _ _ 3 _ _ _ h24; have h24_f := (fun j => frozen_of_row _ _ j _ _ h24); have h24_l := lt_of_block h24; simp at h24_0 h24_1 h24_2 h24_3; have H_h24 := Lib.hid h24; clear h24
        go_upto_region 21 with (go_at_call 42; refine Calls.mono (HFd.out _ HPW.out) ?_; rintro e w8 ⟨rfl, hp8⟩)
        go_wp2
        go_roundw
        case rel => exact ⟨i + 1, by go_num, hlt, HPW.out.trans hp8⟩
        case measure => simp [intOf]; omega
      · have hij : j = i := by omega
        subst hij
        go_wp2_with (go_at_call 33; refine Calls.mono (known_true _) ?_; rintro e w8 ⟨rfl, hp8⟩)
        go_ret
        exact ⟨rfl, HA.out.pu.trans (HPW.out.trans hp8)⟩
end Go.Proofs.YtapplindfijngaaGreat
