/- Maps that the call itself made: make, lookup, update, range; own work. -/
import Derived.Test.YtbbadmlekagloaaDoorShH
namespace Go.Sh
set_option linter.unusedSectionVars false
set_option linter.unusedVariables false
set_option linter.unusedSimpArgs false
open Go.RowKit
/-- keys that compare as their Lean values do -/
structure KeyOK (P : Program) {κ : Type} [DecidableEq κ] (K : TypeId) (kv : κ → Value) : Prop where
  check : ∀ b x w, (Instr.checkKey b 10000 K (kv x)).run P w = Result.ok () w
  find : ∃ d, P.underlying K = some d ∧ ((∀ x y, Instr.sameNow d (kv x) (kv y) = some (decide (x = y))) ∨
    ((∀ x y, Instr.sameNow d (kv x) (kv y) = none) ∧ ∀ x y w, (Op.equal K (kv x) (kv y)).run P w = Result.ok (decide (x = y)) w))
  bits : ∀ x, Instr.sameBits 10000 (kv x) (kv x) = true
section
variable {P : Program} {κ ν : Type} [DecidableEq κ] {K : TypeId} {kv : κ → Value} {vv : ν → Value}
/-- the entries of a map, keys and values, in the order of their births -/
structure Ents (kv : κ → Value) (vv : ν → Value) (es : List MapEntry) (clk : Nat) (m : List (κ × ν)) : Prop where
  len : es.length = m.length
  at_ : ∀ (i : Nat) (k : κ) (v : ν), m[i]? = some (k, v) → ∃ b : Nat, es[i]? = some (⟨kv k, vv v, b⟩ : MapEntry) ∧ b < clk
  inc : ∀ (i j : Nat) (a b : MapEntry), i < j → es[i]? = some a → es[j]? = some b → a.born < b.born
def fnd (m : List (κ × ν)) (k : κ) : Option ν := (m.find? fun x => decide (x.1 = k)).map (·.2)
def idx (m : List (κ × ν)) (k : κ) : Nat → Option (Nat × ν) := fun i => match m with
  | [] => none
  | (k', v) :: r => if k = k' then some (i, v) else idx r k (i + 1)
theorem idx_fnd (k : κ) : ∀ (m : List (κ × ν)) (i : Nat), (idx m k i).map (·.2) = fnd m k
  | [], i => rfl
  | (k', v) :: r, i => by
    unfold idx fnd
    by_cases h : k = k'
    · subst h; simp
    · have h' : ¬ k' = k := fun e => h e.symm
      simp only [h, if_false, List.find?_cons, h', decide_false]
      exact idx_fnd k r (i + 1)
theorem idx_some (k : κ) : ∀ (m : List (κ × ν)) (i j : Nat) (v : ν), idx m k i = some (j, v) → i ≤ j ∧ m[j - i]? = some (k, v)
  | [], i, j, v, h => by simp [idx] at h
  | (k', v') :: r, i, j, v, h => by
    unfold idx at h
    by_cases e : k = k'
    · subst e; simp at h; obtain ⟨rfl, rfl⟩ := h; simp
    · rw [if_neg e] at h
      obtain ⟨h1, h2⟩ := idx_some k r (i + 1) j v h
      refine ⟨by omega, ?_⟩
      rw [show j - i = (j - (i + 1)) + 1 by omega]
      simpa using h2
theorem idx_none (k : κ) : ∀ (m : List (κ × ν)) (i : Nat), idx m k i = none ↔ ∀ x ∈ m, x.1 ≠ k
  | [], i => by simp [idx]
  | (k', v) :: r, i => by
    unfold idx
    by_cases h : k = k'
    · subst h; simp
    · rw [if_neg h, idx_none k r]
      simp only [List.mem_cons, forall_eq_or_imp]
      exact ⟨fun a => ⟨fun e => h e.symm, a⟩, fun a => a.2⟩
theorem run_findKey (hK : KeyOK P K kv) (k : κ) (w : World) : ∀ (es : List MapEntry) (m : List (κ × ν)) (h : es.map (fun e => (e.key, e.val)) = m.map fun x => (kv x.1, vv x.2)),
    (Instr.findKey K (kv k) es).run P w = Result.ok ((idx m k 0).map fun x => (x.1, vv x.2)) w := by
  obtain ⟨d, hd, hf⟩ := hK.find
  intro es m h
  have now : ∀ (hn : ∀ x y, Instr.sameNow d (kv x) (kv y) = some (decide (x = y))) (es : List MapEntry) (m : List (κ × ν)) (i : Nat), es.map (fun e => (e.key, e.val)) = m.map (fun x => (kv x.1, vv x.2)) →
      Instr.findNow d (kv k) es i = some ((idx m k i).map fun x => (x.1, vv x.2)) := by
    intro hn es
    induction es with
    | nil => intro m i h; cases m with | nil => rfl | cons x r => simp at h
    | cons e r ih =>
      intro m i h
      cases m with
      | nil => simp at h
      | cons x r' =>
        simp only [List.map_cons, List.cons.injEq, Prod.mk.injEq] at h
        obtain ⟨⟨h1, h2⟩, h3⟩ := h
        obtain ⟨x1, x2⟩ := x
        unfold Instr.findNow idx
        rw [h1, hn]
        by_cases e : k = x1
        · simp [e, h2]
        · simp [e, ih r' (i + 1) h3]
  unfold Instr.findKey
  simp only [Sem.run_bind, Go.underlying]
  simp only [Sem.run_bind, run_program, Result.andThen_ok, hd, Sem.run_pure]
  rcases hf with hn | ⟨hn, ha⟩
  · rw [now hn es m 0 h]; rfl
  · have ask : ∀ (es : List MapEntry) (m : List (κ × ν)) (i : Nat), es.map (fun e => (e.key, e.val)) = m.map (fun x => (kv x.1, vv x.2)) →
        (Instr.findAsking K (kv k) es i).run P w = Result.ok ((idx m k i).map fun x => (x.1, vv x.2)) w := by
      intro es
      induction es with
      | nil => intro m i h; cases m with | nil => rfl | cons x r => simp at h
      | cons e r ih =>
        intro m i h
        cases m with
        | nil => simp at h
        | cons x r' =>
          simp only [List.map_cons, List.cons.injEq, Prod.mk.injEq] at h
          obtain ⟨⟨h1, h2⟩, h3⟩ := h
          obtain ⟨x1, x2⟩ := x
          unfold Instr.findAsking idx
          rw [h1]
          simp only [Sem.run_bind, ha, Result.andThen_ok]
          by_cases e : k = x1
          · simp [e, h2]
          · simp [e, ih r' (i + 1) h3]
    cases es with
    | nil =>
      cases m with
      | nil => rfl
      | cons x r => simp at h
    | cons e r =>
      cases m with
      | nil => simp at h
      | cons x r' =>
        have h' := h
        simp only [List.map_cons, List.cons.injEq, Prod.mk.injEq] at h'
        have : Instr.findNow d (kv k) (e :: r) 0 = none := by
          unfold Instr.findNow
          rw [h'.1.1, hn]
        rw [this]
        exact ask _ _ 0 h
theorem Ents.map {es : List MapEntry} {clk : Nat} {m : List (κ × ν)} (h : Ents kv vv es clk m) : es.map (fun e => (e.key, e.val)) = m.map fun x => (kv x.1, vv x.2) := by
  apply List.ext_getElem?
  intro i
  simp only [List.getElem?_map]
  cases hm : m[i]? with
  | none =>
    have : es[i]? = none := by rw [List.getElem?_eq_none_iff, h.len]; exact List.getElem?_eq_none_iff.1 hm
    rw [this]; rfl
  | some x =>
    obtain ⟨b, hb, _⟩ := h.at_ i x.1 x.2 hm
    rw [hb]; rfl
def MapO (kv : κ → Value) (vv : ν → Value) (w : World) (r : Nat) (m : List (κ × ν)) : Prop := ∃ es clk, w.heap[r]? = some (.map es.toArray clk) ∧ Ents kv vv es clk m
theorem MapO.lt {w : World} {r : Nat} {m : List (κ × ν)} (h : MapO kv vv w r m) : r < w.heap.size := by
  obtain ⟨es, clk, h1, _⟩ := h
  exact (Array.getElem?_eq_some_iff.1 h1).1
theorem MapO.ext {w w' : World} {r : Nat} {m : List (κ × ν)} (h : MapO kv vv w r m) (e : Ext w w') : MapO kv vv w' r m := by
  have := h.lt
  obtain ⟨es, clk, h1, h2⟩ := h
  exact ⟨es, clk, (Below.block e r this).trans h1, h2⟩
theorem MapO.from {w w' : World} {r : Nat} {m : List (κ × ν)} (e : Ext w w') (h : MapO kv vv w r m) : MapO kv vv w' r m := h.ext e
theorem MapO.upd {w w' : World} {r b : Nat} {m : List (κ × ν)} (h : MapO kv vv w r m) (u : Upd b w w') (hne : r ≠ b) : MapO kv vv w' r m := by
  obtain ⟨es, clk, h1, h2⟩ := h
  exact ⟨es, clk, (u.block r hne).trans h1, h2⟩
theorem MapO.grow {w w' : World} {A : Option Addr} {r : Nat} {m : List (κ × ν)} (h : MapO kv vv w r m) (g : Grow A w w') (hne : obk A ≠ some r) : MapO kv vv w' r m := by
  have := h.lt
  obtain ⟨es, clk, h1, h2⟩ := h
  exact ⟨es, clk, (g.block r this fun e => hne (by rw [e, obk_eq])).trans h1, h2⟩
theorem MapO.ne_blk {w : World} {r b : Nat} {m : List (κ × ν)} {t : TypeId} {cs : List Value} (h : MapO kv vv w r m) (hb : Blk w b t cs) : r ≠ b := by
  intro e; subst e
  obtain ⟨es, clk, h1, _⟩ := h
  unfold Blk at hb
  rw [h1] at hb; simp at hb
variable {T : Tab} {w : World} {k : Value → World → Prop} {X : List PanicEntry → World → Prop}
theorem upd_set (w : World) (r : Nat) (o : Obj) : Upd r w { w with heap := w.heap.setIfInBounds r o } :=
  ⟨rfl, rfl, rfl, by simp, fun j hj => by
    show (w.heap.setIfInBounds r o)[j]? = w.heap[j]?
    rw [Array.getElem?_setIfInBounds, if_neg (fun e : r = j => hj e.symm)]⟩
theorem Sm.mkmap {t : TypeId} (hk : ∀ r w', w.heap.size = r → MapO kv vv w' r ([] : List (κ × ν)) → Ext w w' → k (.map (some r)) w') : Sm P (Instr.makeMap t none) w k X := by
  refine ⟨?_⟩
  have : (Instr.makeMap t none).run P w = Result.ok (.map (some w.heap.size)) (w.alloc (.map #[] 0)) := by simp [Instr.makeMap]
  rw [this]
  refine hk _ _ rfl ⟨[], 0, ?_, ⟨rfl, fun i k v h => by simp at h, fun i j a b _ h => by simp at h⟩⟩ (Ext.alloc w _)
  show (w.heap.push _)[w.heap.size]? = _; simp
theorem Sm.lkp (hT : TabOk P T) {t E : TypeId} {ti ei : TI} {r : Nat} {x : κ} {m : List (κ × ν)} {z : ν} (ht : getT T.ts t = some ti) (hd : ti.desc = .map K E) (he : getT T.ts E = some ei) (hz : ei.zero = vv z)
    (hK : KeyOK P K kv) (h : MapO kv vv w r m) (hk : k (.tuple #[vv ((fnd m x).getD z), .bool (fnd m x).isSome]) w) : Sm P (Instr.lookup t (.map (some r)) (kv x) true) w k X := by
  obtain ⟨es, clk, h1, h2⟩ := h
  refine ⟨?_⟩
  have : (Instr.lookup t (.map (some r)) (kv x) true).run P w = Result.ok (.tuple #[vv ((fnd m x).getD z), .bool (fnd m x).isSome]) w := by
    simp only [Instr.lookup, Sem.run_bind, run_und hT.1 ht, hd, Result.andThen_ok]
    have hg : (getObj r).run P w = Result.ok (.map es.toArray clk) w := by simp [getObj, Sem.run, h1]
    simp only [hg, Result.andThen_ok, Sem.run_bind, Sem.run_pure]
    rw [hK.check]
    simp only [Result.andThen_ok]
    rw [run_findKey (vv := vv) hK x w es m h2.map, ← idx_fnd x m 0]
    simp only [Result.andThen_ok]
    cases hi : idx m x 0 with
    | none => simp [run_zero hT.1 he, hz]
    | some y => simp
  rw [this]; exact hk
theorem Sm.lkp1 (hT : TabOk P T) {t E : TypeId} {ti ei : TI} {r : Nat} {x : κ} {m : List (κ × ν)} {z : ν} (ht : getT T.ts t = some ti) (hd : ti.desc = .map K E) (he : getT T.ts E = some ei) (hz : ei.zero = vv z)
    (hK : KeyOK P K kv) (h : MapO kv vv w r m) (hk : k (vv ((fnd m x).getD z)) w) : Sm P (Instr.lookup t (.map (some r)) (kv x) false) w k X := by
  obtain ⟨es, clk, h1, h2⟩ := h
  refine ⟨?_⟩
  have : (Instr.lookup t (.map (some r)) (kv x) false).run P w = Result.ok (vv ((fnd m x).getD z)) w := by
    simp only [Instr.lookup, Sem.run_bind, run_und hT.1 ht, hd, Result.andThen_ok]
    have hg : (getObj r).run P w = Result.ok (.map es.toArray clk) w := by simp [getObj, Sem.run, h1]
    simp only [hg, Result.andThen_ok, Sem.run_bind, Sem.run_pure]
    rw [hK.check]
    simp only [Result.andThen_ok]
    rw [run_findKey (vv := vv) hK x w es m h2.map, ← idx_fnd x m 0]
    simp only [Result.andThen_ok]
    cases hi : idx m x 0 with
    | none => simp [run_zero hT.1 he, hz]
    | some y => simp
  rw [this]; exact hk
def mput (m : List (κ × ν)) (x : κ) (v : ν) : List (κ × ν) := match idx m x 0 with | some (i, _) => m.set i (x, v) | none => m ++ [(x, v)]
theorem SmU.mput (hT : TabOk P T) {t E : TypeId} {ti : TI} {r : Nat} {x : κ} {v : ν} {m : List (κ × ν)} {ku : World → Prop} (ht : getT T.ts t = some ti) (hd : ti.desc = .map K E)
    (hK : KeyOK P K kv) (h : MapO kv vv w r m) (hk : ∀ w', Upd r w w' → MapO kv vv w' r (mput m x v) → ku w') : SmU P (Instr.mapUpdate t (.map (some r)) (kv x) (vv v)) w ku X := by
  have hlt := h.lt
  obtain ⟨es, clk, h1, h2⟩ := h
  refine ⟨?_⟩
  have hg : (getObj r).run P w = Result.ok (.map es.toArray clk) w := by simp [getObj, Sem.run, h1]
  have hset : ∀ o, (setObj r o).run P w = Result.ok () { w with heap := w.heap.setIfInBounds r o } := fun o => by simp [setObj, Sem.run, h1]
  have hnew : ∀ o : Obj, ({ w with heap := w.heap.setIfInBounds r o } : World).heap[r]? = some o := fun o => by simp [hlt]
  cases hi : idx m x 0 with
  | none =>
    have : (Instr.mapUpdate t (.map (some r)) (kv x) (vv v)).run P w = Result.ok () { w with heap := w.heap.setIfInBounds r (.map (es.toArray.push ⟨kv x, vv v, clk⟩) (clk + 1)) } := by
      simp only [Instr.mapUpdate, Sem.run_bind, run_und hT.1 ht, hd, Result.andThen_ok, hg, hK.check, run_findKey (vv := vv) hK x w es m h2.map, hi, Option.map_none, hset]
    rw [this]
    refine hk _ (upd_set w r _) ⟨es ++ [⟨kv x, vv v, clk⟩], clk + 1, (hnew _).trans (by simp), ?_⟩
    unfold Go.Sh.mput
    rw [hi]
    refine ⟨by simp [h2.len], fun i k' v' hm => ?_, fun i j a b hij ha hb => ?_⟩
    · rcases Nat.lt_or_ge i m.length with hlt' | hge
      · rw [List.getElem?_append_left hlt'] at hm
        obtain ⟨b, hb, hc⟩ := h2.at_ i k' v' hm
        exact ⟨b, by rw [List.getElem?_append_left (by rw [h2.len]; exact hlt')]; exact hb, by omega⟩
      · rw [List.getElem?_append_right hge] at hm
        have hi0 : i - m.length = 0 := by
          rcases Nat.eq_zero_or_pos (i - m.length) with h0 | h0
          · exact h0
          · rw [List.getElem?_eq_none (by simp; omega)] at hm; simp at hm
        rw [hi0] at hm; simp at hm
        obtain ⟨rfl, rfl⟩ := hm
        exact ⟨clk, by rw [List.getElem?_append_right (by rw [h2.len]; exact hge), h2.len, hi0]; rfl, by omega⟩
    · have hjl := (List.getElem?_eq_some_iff.1 hb).1
      simp at hjl
      rcases Nat.lt_or_ge j es.length with h3 | h3
      · rw [List.getElem?_append_left h3] at hb
        rw [List.getElem?_append_left (by omega)] at ha
        exact h2.inc i j a b hij ha hb
      · have : j = es.length := by omega
        subst this
        rw [List.getElem?_append_right (Nat.le_refl _)] at hb
        simp at hb; subst hb
        rw [List.getElem?_append_left hij] at ha
        have hil : i < m.length := by rw [← h2.len]; exact hij
        obtain ⟨b, hb, hc⟩ := h2.at_ i m[i].1 m[i].2 (by rw [List.getElem?_eq_getElem hil])
        rw [ha] at hb; simp at hb; subst hb; exact hc
  | some y =>
    obtain ⟨i, v0⟩ := y
    obtain ⟨_, hm⟩ := idx_some x m 0 i v0 hi
    simp only [Nat.sub_zero] at hm
    obtain ⟨b, hb, hc⟩ := h2.at_ i x v0 hm
    have hil := (List.getElem?_eq_some_iff.1 hb).1
    have : (Instr.mapUpdate t (.map (some r)) (kv x) (vv v)).run P w = Result.ok () { w with heap := w.heap.setIfInBounds r (.map (es.toArray.modify i fun e => { e with key := kv x, val := vv v }) clk) } := by
      have hks : (Instr.keyThatStays (kv x) (kv x)).run P w = Result.ok (kv x) w := by simp [Instr.keyThatStays, hK.bits]
      have he : ((es.toArray[i]?).map (·.key)).getD (kv x) = kv x := by simp [hb]
      simp only [Instr.mapUpdate, Sem.run_bind, run_und hT.1 ht, hd, Result.andThen_ok, hg, hK.check, run_findKey (vv := vv) hK x w es m h2.map, hi, Option.map_some, he, hks, hset]
    rw [this]
    have hmod : (es.toArray.modify i fun e => { e with key := kv x, val := vv v }) = (es.set i ⟨kv x, vv v, b⟩).toArray := by
      apply Array.ext'
      apply List.ext_getElem?
      intro j
      simp only [Array.getElem?_toList, Array.getElem?_modify, List.getElem?_toArray, List.getElem?_set]
      by_cases e : i = j
      · subst e; rw [if_pos rfl, if_pos rfl, if_pos hil, hb]; rfl
      · simp [e]
    refine hk _ (upd_set w r _) ⟨es.set i ⟨kv x, vv v, b⟩, clk, (hnew _).trans (by rw [hmod]), ?_⟩
    unfold Go.Sh.mput
    rw [hi]
    refine ⟨by simp [h2.len], fun j k' v' hm' => ?_, fun j l a c hjl ha hc' => ?_⟩
    · rw [List.getElem?_set] at hm' ⊢
      by_cases e : i = j
      · subst e
        simp only [if_true] at hm' ⊢
        rw [if_pos (by rw [← h2.len]; exact hil)] at hm'
        simp at hm'; obtain ⟨rfl, rfl⟩ := hm'
        exact ⟨b, by simp [hil], hc⟩
      · rw [if_neg e] at hm' ⊢
        exact h2.at_ j k' v' hm'
    · have key : ∀ (j : Nat) (a : MapEntry), (es.set i ⟨kv x, vv v, b⟩)[j]? = some a → ∃ a', es[j]? = some a' ∧ a'.born = a.born := by
        intro j a ha
        rw [List.getElem?_set] at ha
        by_cases e : i = j
        · subst e
          simp [hil] at ha; subst ha
          exact ⟨_, hb, rfl⟩
        · rw [if_neg e] at ha
          exact ⟨a, ha, rfl⟩
      obtain ⟨a', ha', e1⟩ := key j a ha
      obtain ⟨c', hc'', e2⟩ := key l c hc'
      rw [← e1, ← e2]
      exact h2.inc j l a' c' hjl ha' hc''
end
end Go.Sh
