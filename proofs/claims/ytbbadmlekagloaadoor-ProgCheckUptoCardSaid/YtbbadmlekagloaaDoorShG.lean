/- Slices that the call itself made: make, literals, append; own work. -/
import Derived.Test.YtbbadmlekagloaaDoorShF
import Derived.Maps.AppendAt
import Derived.Laws.AppendOwnNone
import Derived.Laws.OwnMore
namespace Go.Sh
open Go.RowKit
section
variable {α : Type} {enc : α → List Value} {sz : Nat} {e : TypeId} {w w' : World} {B : Nat} {A : Option Addr} {c : Nat} {l : List α}
def Own (enc : α → List Value) (sz : Nat) (e : TypeId) (w : World) (B : Nat) (A : Option Addr) (c : Nat) (l : List α) : Prop :=
  (∀ x ∈ l, (enc x).length = sz) ∧ w.ownsRow B e sz (.slice A l.length c) l.length (l.flatMap enc)
theorem Own.nil : Own enc sz e w B none 0 ([] : List α) := ⟨by simp, by simp, .inl ⟨rfl, rfl⟩⟩
theorem flatMap_at (h : ∀ x ∈ l, (enc x).length = sz) : ∀ (i : Nat) (x : α), l[i]? = some x → ∀ (j : Nat) (v : Value), (enc x)[j]? = some v → (l.flatMap enc)[i * sz + j]? = some v := by
  induction l with
  | nil => intro i x h; simp at h
  | cons y r ih =>
    intro i x hx j v hv
    have hy := h y (by simp)
    cases i with
    | zero =>
      simp at hx; subst hx
      simp only [List.flatMap_cons, Nat.zero_mul, Nat.zero_add]
      rw [List.getElem?_append_left (by have := (List.getElem?_eq_some_iff.1 hv).1; omega)]
      exact hv
    | succ i =>
      simp at hx
      simp only [List.flatMap_cons]
      rw [List.getElem?_append_right (by rw [hy, Nat.add_mul]; omega)]
      have := ih (fun x hx => h x (by simp [hx])) i x hx j v hv
      rw [hy, show (i + 1) * sz + j - sz = i * sz + j by rw [Nat.add_mul]; omega]
      exact this
theorem Own.rd (h : Own enc sz e w B A c l) : RdS enc sz w A l := by
  obtain ⟨hl, hlen, hr⟩ := h
  rcases hr with ⟨hv, hn⟩ | ⟨g, cap, cur, hv, hg, hh, hcap, hmax, hcs, htk⟩
  · have : l = [] := List.eq_nil_of_length_eq_zero hn
    subst this
    exact Rd.nil
  · simp only [Value.slice.injEq] at hv
    obtain ⟨rfl, _, rfl⟩ := hv
    refine ⟨fun hn => ⟨by simp, ?_⟩, fun i x hx => ⟨enc x, hl x (List.mem_of_getElem? hx), rfl, fun j v hv => ?_⟩⟩
    · exact (Array.getElem?_eq_some_iff.1 hh).1
    · have hi := (List.getElem?_eq_some_iff.1 hx).1
      have hj := (List.getElem?_eq_some_iff.1 hv).1
      have hj' : j < sz := by rw [← hl x (List.mem_of_getElem? hx)]; exact hj
      have := flatMap_at hl i x hx j v hv
      rw [← htk] at this
      have hlt : i * sz + j < l.length * sz := by
        calc i * sz + j < i * sz + sz := by omega
          _ = (i + 1) * sz := by rw [Nat.add_mul]; omega
          _ ≤ l.length * sz := Nat.mul_le_mul_right _ hi
      rw [List.getElem?_take_of_lt hlt] at this
      simp only [gA]
      rw [add_lit, Nat.zero_add]
      simp [World.cell?, hh]
      simpa using this
def obk (A : Option Addr) : Option Nat := A.map (·.block)
theorem obk_eq (A : Option Addr) (n m : Nat) : (Value.slice A n m).ownBlock = obk A := by cases A <;> rfl
def Grow (A : Option Addr) (w w' : World) : Prop := w.grownBy w' (Value.slice A 0 0).ownBlock
theorem own_block (A : Option Addr) (n m n' m' : Nat) : (Value.slice A n m).ownBlock = (Value.slice A n' m').ownBlock := by cases A <;> rfl
theorem Own.block (h : Own enc sz e w B A c l) : ∀ k, (Value.slice A 0 0).ownBlock = some k → B ≤ k := by
  intro k hk
  rcases h.2.2 with ⟨hv, _⟩ | ⟨g, cap, cur, hv, hg, _⟩
  · simp only [Value.slice.injEq] at hv
    rw [hv.1] at hk; simp [Value.ownBlock] at hk
  · simp only [Value.slice.injEq] at hv
    rw [hv.1] at hk; simp [Value.ownBlock] at hk; omega
theorem Grow.below (g : Grow A w w') (h : Own enc sz e w B A c l) (hB : B ≤ w.heap.size) : Below B w w' := (Below.refl B w).grown g hB h.block
theorem Blk.grow {b : Nat} {t : TypeId} {cs : List Value} (hb : Blk w b t cs) (g : Grow A w w') (h : Own enc sz e w B A c l) (hne : t ≠ e) : Blk w' b t cs := by
  refine (g.block b hb.lt fun he => ?_).trans hb
  rcases h.2.2 with ⟨hv, _⟩ | ⟨g', cap, cur, hv, hg, hh, _⟩
  · simp only [Value.slice.injEq] at hv
    rw [hv.1] at he; simp [Value.ownBlock] at he
  · simp only [Value.slice.injEq] at hv
    rw [hv.1] at he
    simp [Value.ownBlock] at he
    subst he
    unfold Blk at hb
    rw [hb] at hh
    simp at hh
    exact hne hh.2
theorem Own.ext (h : Own enc sz e w B A c l) (x : Ext w w') : Own enc sz e w' B A c l := by
  obtain ⟨hl, hlen, hr⟩ := h
  refine ⟨hl, hlen, ?_⟩
  rcases hr with h1 | ⟨g, cap, cur, hv, hg, hh, r⟩
  · exact .inl h1
  · exact .inr ⟨g, cap, cur, hv, hg, (Below.block x g (Array.getElem?_eq_some_iff.1 hh).1).trans hh, r⟩
theorem Own.from (x : Ext w w') (h : Own enc sz e w B A c l) : Own enc sz e w' B A c l := h.ext x
theorem Own.upd {b : Nat} {t : TypeId} {cs : List Value} (h : Own enc sz e w B A c l) (u : Upd b w w') (hb : Blk w b t cs) (hne : t ≠ e) : Own enc sz e w' B A c l := by
  obtain ⟨hl, hlen, hr⟩ := h
  refine ⟨hl, hlen, ?_⟩
  rcases hr with h1 | ⟨g, cap, cur, hv, hg, hh, r⟩
  · exact .inl h1
  · refine .inr ⟨g, cap, cur, hv, hg, (u.block g fun he => ?_).trans hh, r⟩
    subst he
    unfold Blk at hb
    rw [hb] at hh
    simp at hh
    exact hne hh.2
theorem Own.grow {A2 : Option Addr} {c2 : Nat} {l2 : List α} (h : Own enc sz e w B A2 c2 l2) (g : Grow A w w') (hne : obk A2 = none ∨ obk A2 ≠ obk A) : Own enc sz e w' B A2 c2 l2 := by
  obtain ⟨hl, hlen, hr⟩ := h
  refine ⟨hl, hlen, ?_⟩
  rcases hr with h1 | ⟨g', cap, cur, hv, hg, hh, r⟩
  · exact .inl h1
  · refine .inr ⟨g', cap, cur, hv, hg, (g.block g' (Array.getElem?_eq_some_iff.1 hh).1 fun he => ?_).trans hh, r⟩
    simp only [Value.slice.injEq] at hv
    rw [hv.1] at hne
    rw [obk_eq] at he
    rcases hne with h1 | h1
    · simp [obk] at h1
    · exact h1 (by rw [← he]; rfl)
theorem Blk.grow' {b : Nat} {t : TypeId} {cs : List Value} (hb : Blk w b t cs) (g : Grow A w w') (hne : obk A ≠ some b) : Blk w' b t cs :=
  (g.block b hb.lt fun he => hne (by rw [he, obk_eq])).trans hb
theorem Own.upd' {b : Nat} (h : Own enc sz e w B A c l) (u : Upd b w w') (hne : obk A ≠ some b) : Own enc sz e w' B A c l := by
  obtain ⟨hl, hlen, hr⟩ := h
  refine ⟨hl, hlen, ?_⟩
  rcases hr with h1 | ⟨g, cap, cur, hv, hg, hh, r⟩
  · exact .inl h1
  · refine .inr ⟨g, cap, cur, hv, hg, (u.block g fun he => ?_).trans hh, r⟩
    simp only [Value.slice.injEq] at hv
    rw [hv.1] at hne
    exact hne (by rw [← he]; rfl)
theorem Own.obk_lt (h : Own enc sz e w B A c l) : ∀ k, obk A = some k → k < w.heap.size ∧ B ≤ k := by
  intro k hk
  rcases h.2.2 with ⟨hv, _⟩ | ⟨g, cap, cur, hv, hg, hh, _⟩
  · simp only [Value.slice.injEq] at hv
    rw [hv.1] at hk; simp [obk] at hk
  · simp only [Value.slice.injEq] at hv
    rw [hv.1] at hk; simp [obk] at hk
    subst hk
    exact ⟨(Array.getElem?_eq_some_iff.1 hh).1, hg⟩
theorem Blk.ne {b b' : Nat} {t t' : TypeId} {cs cs' : List Value} (h : Blk w b t cs) (h' : Blk w b' t' cs') (hne : t ≠ t') : b ≠ b' := fun e' => by
  subst e'
  unfold Blk at h h'
  rw [h] at h'
  simp at h'
  exact hne h'.2
theorem Grow.ext {w0 : World} (x : Ext w0 w) (g : Grow A w w') (h : Own enc sz e w B A c l) (hB : w0.heap.size ≤ B) : Ext w0 w' :=
  Below.trans x ((Below.refl w0.heap.size w).grown g x.size fun k hk => Nat.le_trans hB (h.block k hk))
def Fresh (w : World) (A : Option Addr) : Prop := ∀ b, obk A = some b → w.heap.size ≤ b
theorem RdS.keep (h : RdS enc sz w A l) (hs : w.heap.size ≤ w'.heap.size) (hb : ∀ b, obk A = some b → b < w.heap.size → w'.heap[b]? = w.heap[b]?) : RdS enc sz w' A l := by
  refine ⟨fun hn => ⟨(h.some hn).1, Nat.lt_of_lt_of_le (h.some hn).2 hs⟩, fun i x hx => ?_⟩
  obtain ⟨vs, h1, h2, h3⟩ := h.at_ i x hx
  refine ⟨vs, h1, h2, fun j v hv => ?_⟩
  obtain ⟨hn, hlt⟩ := h.some (fun e => by subst e; simp at hx)
  obtain ⟨ad, rfl⟩ := Option.ne_none_iff_exists'.1 hn
  rw [World.cell?_of_block (w := w)]
  · exact h3 j v hv
  · rw [block_add]; exact hb _ rfl hlt
theorem RdS.lt (h : RdS enc sz w A l) (hn : l ≠ []) : ∀ b, obk A = some b → b < w.heap.size := fun b hb => by
  obtain ⟨h1, h2⟩ := h.some hn
  obtain ⟨ad, rfl⟩ := Option.ne_none_iff_exists'.1 h1
  simp [obk] at hb; subst hb; exact h2
theorem obk_new {A A2 B' : Option Addr} {n : Nat} (h : obk A = none ∨ obk A ≠ obk A2) (hb : obk B' = obk A2 ∨ obk B' = some n) (hlt : ∀ b, obk A = some b → b < n) : obk A = none ∨ obk A ≠ obk B' := by
  rcases h with h | h
  · exact .inl h
  · rcases hb with h2 | h2 <;> rw [h2]
    · exact .inr h
    · exact .inr fun e => by have := hlt n e; omega
theorem RdS.upd {b : Nat} (h : RdS enc sz w A l) (u : Upd b w w') (hne : obk A ≠ some b) : RdS enc sz w' A l :=
  h.keep (by rw [u.size]; exact Nat.le_refl _) fun c hc _ => u.block c fun e => hne (by rw [hc, e])
theorem RdS.grow {A2 : Option Addr} (h : RdS enc sz w A l) (g : Grow A2 w w') (hne : obk A = none ∨ obk A ≠ obk A2) : RdS enc sz w' A l :=
  h.keep g.size fun c hc hlt => g.block c hlt fun e => by
    rw [obk_eq] at e
    rcases hne with h1 | h1
    · rw [hc] at h1; cases h1
    · exact h1 (by rw [hc, e])
variable {P : Program} {T : Tab}
theorem Sm.app (hT : TabOk P T) {t ty : TypeId} {ti ei : TI} {X : Option Addr} {m : List α} {n n2 c2 : Nat} {k : Value → World → Prop} {Y : List PanicEntry → World → Prop}
    (ht : getT T.ts t = some ti) (hd : ti.desc = .slice e) (he : getT T.ts e = some ei) (hsz : ei.size = sz) (hz : ei.zero.cells.size = sz) (hpos : 0 < sz)
    (h : Own enc sz e w B A c l) (hn : n = l.length) (hr : RdS enc sz w X m) (hn2 : n2 = m.length) (hm : ∀ x ∈ m, (enc x).length = sz) (h1 : ∀ x ∈ m, ∀ v ∈ enc x, v.oneCell' = true)
    (hlen : (l.length + m.length) * ei.bytes ≤ 140737488355328) (hlen2 : l.length + m.length ≤ 140737488355328) (hB : B ≤ w.heap.size)
    (hk : ∀ A' c' w', Own enc sz e w' B A' c' (l ++ m) → Grow A w w' → (obk A' = obk A ∨ obk A' = some w.heap.size) → k (.slice A' (l ++ m).length c') w') : Sm P (Builtin.append_ #[t, t] ty #[.slice A n c, .slice X n2 c2]) w k Y := by
  subst hn hn2
  obtain ⟨j, hj, hjz, hjs, hjb⟩ := info_of hT.1 he
  have hu := (hT.1.get ht).1
  rw [hd] at hu
  have hfl : (m.flatMap enc).length = m.length * sz := by
    clear hlen hlen2 hr hk h1
    induction m with
    | nil => simp
    | cons x r ih =>
      simp only [List.flatMap_cons, List.length_append, List.length_cons]
      rw [ih (fun y hy => hm y (by simp [hy])), hm x (by simp), Nat.add_mul]; omega
  have fin : ∀ v' w2, w2.ownsRow B e sz v' (l.length + m.length) (l.flatMap enc ++ m.flatMap enc) → w.grownBy w2 (Value.slice A l.length c).ownBlock → (v'.ownBlock = (Value.slice A l.length c).ownBlock ∨ v'.ownBlock = some w.heap.size) → k v' w2 := by
    intro v' w2 h2 h3 h4
    have key : ∃ A' c', v' = .slice A' (l ++ m).length c' := by
      rcases h2.2 with ⟨rfl, h0⟩ | ⟨g, cap, cur, rfl, _⟩
      · have h00 : l.length + m.length = 0 := h0
        have : (l ++ m).length = 0 := by rw [List.length_append]; exact h00
        exact ⟨none, 0, by rw [this]⟩
      · exact ⟨some ⟨g, 0, none⟩, cap, by simp⟩
    obtain ⟨A', c', rfl⟩ := key
    refine hk A' c' w2 ⟨fun x hx => ?_, ?_⟩ ?_ (by rw [← obk_eq A' (l ++ m).length c', ← obk_eq A l.length c]; exact h4)
    · rcases List.mem_append.1 hx with hx | hx
      · exact h.1 x hx
      · exact hm x hx
    · simpa using h2
    · unfold Grow; rw [own_block A 0 0 l.length c]; exact h3
  refine ⟨?_⟩
  cases X with
  | none =>
    have hm0 : m = [] := by
      rcases m with _ | ⟨x, r⟩
      · rfl
      · exact absurd rfl (hr.some (by simp)).1
    subst hm0
    have hrun : (Builtin.append_ #[t, t] ty #[.slice A l.length c, .slice none 0 c2]).run P w = Result.ok (.slice A l.length c) w := by
      rcases h.2.2 with ⟨hv, hn⟩ | ⟨g, cap, cur, hv, _, _, hnc, _⟩
      · simp only [Value.slice.injEq] at hv
        obtain ⟨rfl, h0, rfl⟩ := hv
        simp [h0, Builtin.append_, Go.underlying, hu, Go.sizeOf, typeInfo, hj, Builtin.lenOf, Builtin.firstCells]
      · simp only [Value.slice.injEq] at hv
        obtain ⟨rfl, _, rfl⟩ := hv
        simp [Builtin.append_, Go.underlying, hu, Go.sizeOf, typeInfo, hj, Builtin.lenOf, Builtin.firstCells, hnc, storeCells]
    simp only [List.length_nil]
    rw [hrun]
    exact fin _ _ (by simpa using h.2) ⟨rfl, rfl, rfl, Nat.le_refl _, fun _ _ _ => rfl⟩ (.inl rfl)
  | some ad =>
    have hnews : ∀ j u, (m.flatMap enc)[j]? = some u → w.cell? (ad.add j) = some u := by
      intro j u hu
      have hjl := (List.getElem?_eq_some_iff.1 hu).1
      rw [hfl] at hjl
      have hq : j / sz < m.length := Nat.div_lt_of_lt_mul (by rw [Nat.mul_comm]; exact hjl)
      obtain ⟨vs, g1, g2, g3⟩ := hr.at_ (j / sz) m[j / sz] (List.getElem?_eq_getElem hq)
      unfold Fl at g2
      subst g2
      have hr := Nat.mod_lt j hpos
      have hx : (enc m[j / sz])[j % sz]? = some ((enc m[j / sz])[j % sz]'(by rw [g1]; exact hr)) := List.getElem?_eq_getElem _
      have e1 := flatMap_at hm (j / sz) _ (List.getElem?_eq_getElem hq) (j % sz) _ hx
      have e2 := g3 (j % sz) _ hx
      have hdm : j / sz * sz + j % sz = j := by rw [Nat.mul_comm]; exact Nat.div_add_mod j sz
      rw [hdm] at e1 e2
      rw [hu] at e1
      simp only [gA] at e2
      rw [e2, ← e1]
    have := run_append_own_at (P := P) w B t ty e j ei.zero sz ei.bytes hu hj hjz (hjs.trans hsz) hjb hz hpos (.slice A l.length c) l.length (l.flatMap enc) h.2 ad m.length c2 (m.flatMap enc) hfl hnews
      (fun u hu => by obtain ⟨x, hx, hv⟩ := List.mem_flatMap.1 hu; exact h1 x hx u hv) (by simp only [maxLen]; omega) hlen hB
    obtain ⟨v', w2, hrun, h2, h3, _, h5⟩ := this
    rw [hrun]
    exact fin _ _ h2 h3 h5
theorem own_of_blk {p : Nat} {cs : List Value} {c : Nat} (hb : Blk w p e cs) (hB : B ≤ p) (hl : ∀ x ∈ l, (enc x).length = sz) (hf : (l.flatMap enc).length = l.length * sz) (hc : l.length ≤ c) (hm : c ≤ maxLen) (hcs : cs.length = c * sz) (htk : cs.take (l.length * sz) = l.flatMap enc) :
    Own enc sz e w B (some ⟨p, 0, none⟩) c l :=
  ⟨hl, hf, .inr ⟨p, c, cs.toArray, rfl, hB, hb, hc, hm, by simpa using hcs, by simpa using htk⟩⟩
theorem madeL {z : List Value} {n : Nat} (hz : z.length = sz) (hpos : 0 < sz) : madeCells z.toArray (n * sz) = ((List.replicate n z).flatten).toArray := by
  apply Array.ext'
  simp only [madeCells, Array.toList_map, Array.toList_range, List.size_toArray, hz]
  apply List.ext_getElem?
  intro i
  simp only [List.getElem?_map]
  have hfl : (List.replicate n z).flatten = (List.replicate n z).flatMap id := by simp [List.flatMap]
  rw [hfl]
  by_cases hi : i < n * sz
  · have hq : i / sz < n := Nat.div_lt_of_lt_mul (by rw [Nat.mul_comm]; exact hi)
    have hr := Nat.mod_lt i hpos
    have hm := flatMap_at (enc := id) (sz := sz) (l := List.replicate n z) (fun x hx => by rw [List.eq_of_mem_replicate hx]; exact hz) (i / sz) z (by simp [hq]) (i % sz) _ (List.getElem?_eq_getElem (by simp; omega))
    have hdm : i / sz * sz + i % sz = i := by rw [Nat.mul_comm]; exact Nat.div_add_mod i sz
    rw [hdm] at hm
    rw [hm, List.getElem?_range hi]
    simp
    rw [List.getElem?_eq_getElem (by omega)]
    rfl
  · rw [List.getElem?_eq_none (by simp; omega)]
    symm
    have hlen : ((List.replicate n z).flatMap id).length = n * sz := by simp [hz]
    simp only [List.getElem?_eq_none_iff, hlen, Option.map_none]
    omega
/-- a literal of a slice: one new block -/
theorem Sm.lit (hT : TabOk P T) {t : TypeId} {ti ei : TI} {len : Nat} {parts : List (Nat × Value)} {cs : List Value} {k : Value → World → Prop} {Y : List PanicEntry → World → Prop}
    (ht : getT T.ts t = some ti) (hd : ti.desc = .slice e) (he : getT T.ts e = some ei) (hz : Nat.beq ei.zero.cells.toList.length ei.size = true)
    (hcs : puBuild ((List.range len).map fun i => (i * ei.size, ei.size)) (List.replicate len ei.zero.cells.toList).flatten (parts.map fun (i, v) => (i, some v)) = some cs)
    (hsmall : Nat.ble (len * ei.size) 16777216 = true) (hne : Nat.blt 0 (len * ei.size) = true)
    (hk : ∀ p w', w.heap.size = p → Blk w' p e cs → Ext w w' → w'.heap.size = p + 1 → k (.slice (some ⟨p, 0, none⟩) len len) w') : Sm P (Instr.buildSlice t len parts.toArray) w k Y := by
  have hsmall := Nat.le_of_ble_eq_true hsmall
  have hne : 0 < len * ei.size := by simpa using hne
  have hz := Nat.eq_of_beq_eq_true hz
  have hpos : 0 < ei.size := Nat.pos_of_mul_pos_left hne
  have hlen : 0 < len := Nat.pos_of_mul_pos_right hne
  have hmade := madeL (n := len) hz hpos
  have hfill := fill_sound ((List.range len).map fun i => (i * ei.size, ei.size)) (fun i => some (i * ei.size, ei.size)) (fun i x h => by
      simp only [List.getElem?_map, Option.map_eq_some_iff] at h
      obtain ⟨j, hj, rfl⟩ := h
      have := (List.getElem?_eq_some_iff.1 hj)
      obtain ⟨h1, h2⟩ := this
      simp at h2; subst h2; rfl) (parts.map fun (i, v) => (i, some v)) parts _ cs (by simp)
    (fun k i v? hk v hv => by
      simp only [List.getElem?_map, Option.map_eq_some_iff] at hk
      obtain ⟨y, hy, he⟩ := hk
      simp only [Prod.mk.injEq] at he
      obtain ⟨rfl, rfl⟩ := he
      simp at hv; subst hv
      exact hy) hcs
  refine ⟨?_⟩
  have hrun : (Instr.buildSlice t len parts.toArray).run P w = Result.ok (.slice (some ⟨w.heap.size, 0, none⟩) len len) (w.alloc (.cells cs.toArray e)) := by
    simp only [Instr.buildSlice, Sem.run_bind, run_und hT.1 ht, hd, Result.andThen_ok, run_size hT.1 he]
    rw [if_neg (by omega), if_neg (by omega)]
    simp only [Sem.run_bind, Result.andThen_ok, run_zero hT.1 he, Sem.run_pure]
    have e1 : ((Array.range (len * ei.size)).map (ei.zero.cells[· % ei.zero.cells.size]!)) = (List.replicate len ei.zero.cells.toList).flatten.toArray := by
      rw [← hmade]; simp [madeCells]
    rw [e1]
    simp only [hfill]
    simp [newRow]
  rw [hrun]
  exact hk _ _ rfl (by unfold Blk; show (w.heap.push _)[w.heap.size]? = _; simp) (Ext.alloc w _) (by show (w.heap.push _).size = _; simp)
/-- make([]T, n) -/
theorem Sm.make (hT : TabOk P T) {t : TypeId} {ti ei : TI} {n : Nat} {kl kc : IntKind} {a b : Int} {z : α} {k : Value → World → Prop} {Y : List PanicEntry → World → Prop}
    (ht : getT T.ts t = some ti) (hd : ti.desc = .slice e) (he : getT T.ts e = some ei) (ha : a = (n : Int)) (hb : b = (n : Int)) (hsz : ei.size = sz) (hz : ei.zero.cells.toList = enc z) (hzl : (enc z).length = sz) (hpos : 0 < sz)
    (hbytes : ei.bytes * n ≤ 281474976710656) (h63 : n ≤ 140737488355328)
    (hk : ∀ p w', w.heap.size = p → Blk w' p e ((List.replicate n z).flatMap enc) → Ext w w' → k (.slice (some ⟨p, 0, none⟩) n n) w') : Sm P (Instr.makeSlice t (.int kl a) (.int kc b)) w k Y := by
  subst ha hb
  obtain ⟨j, hj, hjz, hjs, hjb⟩ := info_of hT.1 he
  have hu := (hT.1.get ht).1
  rw [hd] at hu
  obtain ⟨w', hrun, ho, hg⟩ := run_make_full (P := P) w 0 t e j ei.zero sz hu hj hjz (hjs.trans hsz) kl kc n (by rw [hjb]; exact hbytes) (by simp only [maxLen]; omega) (by omega)
  refine ⟨?_⟩
  rw [hrun]
  refine hk _ _ rfl ?_ ⟨hg.os, hg.tape, hg.output, hg.size, fun i hi => hg.block i hi (by simp)⟩
  have hcells : madeCells ei.zero.cells (n * sz) = ((List.replicate n z).flatMap enc).toArray := by
    have hzc : ei.zero.cells = (enc z).toArray := by apply Array.ext'; simpa using hz
    rw [hzc, madeL hzl hpos]
    simp [List.flatMap]
  obtain ⟨hl, hr⟩ := ho
  rcases hr with ⟨hv, hn⟩ | ⟨g, cap, cur, hv, hg', hh, hcap, hmax, hcs, htk⟩
  · simp at hv
  · simp only [Value.slice.injEq, Option.some.injEq, Addr.mk.injEq] at hv
    obtain ⟨⟨rfl, _⟩, _, rfl⟩ := hv
    unfold Blk
    rw [hh]
    congr 2
    apply Array.ext'
    rw [← hcells]
    rw [← htk, ← hcs, List.take_of_length_le (by simp)]
end
end Go.Sh
