/- Slices cut at either end, appended to wherever they begin; the loop over a map; own work. -/
import Derived.Test.YtbbadmlekagloaaDoorShM
import Derived.Test.YtbbadmlekagloaaDoorShG
import Derived.Maps.RangeRun
namespace Go.Sh
set_option linter.unusedSectionVars false
set_option linter.unusedVariables false
set_option linter.unusedSimpArgs false
open Go.RowKit
section
variable {α : Type} {enc : α → List Value} {sz : Nat} {e : TypeId} {w w' : World} {B : Nat} {A : Option Addr} {c : Nat} {l : List α}
/-- a slice of the call's own, which may begin in the middle of its block -/
structure Que (enc : α → List Value) (sz : Nat) (e : TypeId) (w : World) (B : Nat) (A : Option Addr) (c : Nat) (l : List α) : Prop where
  sizes : ∀ x ∈ l, (enc x).length = sz
  le : l.length ≤ c
  place : (A = none ∧ c = 0) ∨ ∃ b off cs, A = some ⟨b, off, none⟩ ∧ B ≤ b ∧ Blk w b e cs ∧ off + c * sz ≤ cs.length ∧ ∀ j v, (l.flatMap enc)[j]? = some v → cs[off + j]? = some v
theorem Que.nil : Que enc sz e w B none 0 ([] : List α) := ⟨by simp, by simp, .inl ⟨rfl, rfl⟩⟩
theorem Que.of_blk {p off : Nat} {cs : List Value} (hb : Blk w p e cs) (hB : B ≤ p) (hl : ∀ x ∈ l, (enc x).length = sz) (hc : l.length ≤ c) (hcs : off + c * sz ≤ cs.length) (hat : ∀ j v, (l.flatMap enc)[j]? = some v → cs[off + j]? = some v) :
    Que enc sz e w B (some ⟨p, off, none⟩) c l := ⟨hl, hc, .inr ⟨p, off, cs, rfl, hB, hb, hcs, hat⟩⟩
theorem flat_len (h : ∀ x ∈ l, (enc x).length = sz) : (l.flatMap enc).length = l.length * sz := by
  induction l with
  | nil => simp
  | cons x r ih =>
    simp only [List.flatMap_cons, List.length_append, List.length_cons]
    rw [ih (fun y hy => h y (by simp [hy])), h x (by simp), Nat.add_mul]; omega
theorem Que.of_full {p : Nat} (hb : Blk w p e (l.flatMap enc)) (hB : B ≤ p) (hl : ∀ x ∈ l, (enc x).length = sz) : Que enc sz e w B (some ⟨p, 0, none⟩) l.length l :=
  .of_blk hb hB hl (Nat.le_refl _) (by rw [flat_len hl]; omega) fun j v h => by rw [Nat.zero_add]; exact h
theorem Que.ext (h : Que enc sz e w B A c l) (x : Ext w w') : Que enc sz e w' B A c l := by
  refine ⟨h.sizes, h.le, ?_⟩
  rcases h.place with h1 | ⟨b, off, cs, hA, hB, hb, r⟩
  · exact .inl h1
  · exact .inr ⟨b, off, cs, hA, hB, hb.ext x, r⟩
theorem Que.from (x : Ext w w') (h : Que enc sz e w B A c l) : Que enc sz e w' B A c l := h.ext x
theorem Que.upd {b : Nat} (h : Que enc sz e w B A c l) (u : Upd b w w') (hne : obk A ≠ some b) : Que enc sz e w' B A c l := by
  refine ⟨h.sizes, h.le, ?_⟩
  rcases h.place with h1 | ⟨b', off, cs, hA, hB, hb, r⟩
  · exact .inl h1
  · refine .inr ⟨b', off, cs, hA, hB, hb.upd u fun e => hne (by rw [hA, e]; rfl), r⟩
theorem Que.grow {A2 : Option Addr} (h : Que enc sz e w B A c l) (g : Grow A2 w w') (hne : obk A = none ∨ obk A ≠ obk A2) : Que enc sz e w' B A c l := by
  refine ⟨h.sizes, h.le, ?_⟩
  rcases h.place with h1 | ⟨b', off, cs, hA, hB, hb, r⟩
  · exact .inl h1
  · refine .inr ⟨b', off, cs, hA, hB, hb.grow' g fun e => ?_, r⟩
    rcases hne with h2 | h2
    · rw [hA] at h2; simp [obk] at h2
    · exact h2 (by rw [e, hA]; rfl)
theorem Que.obk_lt (h : Que enc sz e w B A c l) : ∀ k, obk A = some k → k < w.heap.size ∧ B ≤ k := by
  intro k hk
  rcases h.place with ⟨rfl, _⟩ | ⟨b, off, cs, rfl, hB, hb, _⟩
  · simp [obk] at hk
  · simp [obk] at hk; subst hk; exact ⟨hb.lt, hB⟩
theorem Que.ne_t {b : Nat} {t : TypeId} {cs : List Value} (h : Que enc sz e w B A c l) (hb : Blk w b t cs) (hne : t ≠ e) : obk A ≠ some b := by
  rcases h.place with ⟨rfl, _⟩ | ⟨b', off, cs, rfl, hB, hb', _⟩
  · simp [obk]
  · intro e'; simp [obk] at e'; subst e'; exact hb.ne hb' hne rfl
theorem Que.ne_map {κ ν : Type} [DecidableEq κ] {kv : κ → Value} {vv : ν → Value} {r : Nat} {m : List (κ × ν)} (h : Que enc sz e w B A c l) (hm : MapO kv vv w r m) : obk A ≠ some r := by
  rcases h.place with ⟨rfl, _⟩ | ⟨b', off, cs, rfl, hB, hb', _⟩
  · simp [obk]
  · intro e'; simp [obk] at e'; exact hm.ne_blk hb' e'.symm
theorem Grow.extQ {w0 : World} (x : Ext w0 w) (g : Grow A w w') (h : Que enc sz e w B A c l) (hB : w0.heap.size ≤ B) : Ext w0 w' :=
  Below.trans x ((Below.refl w0.heap.size w).grown g x.size fun k hk => Nat.le_trans hB (h.obk_lt k (by rw [obk_eq] at hk; exact hk)).2)
theorem Que.rd (h : Que enc sz e w B A c l) : RdS enc sz w A l := by
  rcases h.place with ⟨rfl, h0⟩ | ⟨b, off, cs, rfl, hB, hb, hl, hat⟩
  · have : l = [] := List.length_eq_zero_iff.1 (by have := h.le; omega)
    subst this; exact RdS.nil
  · refine ⟨fun _ => ⟨by simp, hb.lt⟩, fun i x hx => ⟨enc x, h.sizes x (List.mem_of_getElem? hx), rfl, fun j v hv => ?_⟩⟩
    simp only [gA]
    rw [add_lit, hb.cell]
    exact hat _ _ (flatMap_at h.sizes i x hx j v hv)
/-- where a slice begins when k places are cut off ahead -/
def cutA (A : Option Addr) (c k sz : Nat) : Option Addr := if c = k then A else A.map (·.add (k * sz))
theorem obk_cutA (A : Option Addr) (c k sz : Nat) : obk (cutA A c k sz) = obk A := by
  unfold cutA
  split
  · rfl
  · cases A with
    | none => rfl
    | some a => simp [obk, block_add]
theorem Que.cut {k : Nat} (h : Que enc sz e w B A c l) (hk : k ≤ l.length) : Que enc sz e w B (cutA A c k sz) (c - k) (l.drop k) := by
  have hle := h.le
  refine ⟨fun x hx => h.sizes x (List.mem_of_mem_drop hx), by simp; omega, ?_⟩
  rcases h.place with ⟨rfl, h0⟩ | ⟨b, off, cs, rfl, hB, hb, hl, hat⟩
  · refine .inl ⟨?_, by omega⟩
    unfold cutA; split <;> rfl
  · unfold cutA
    by_cases hck : c = k
    · rw [if_pos hck]
      have h0 : l.drop k = [] := List.drop_eq_nil_of_le (by omega)
      refine .inr ⟨b, off, cs, rfl, hB, hb, by rw [hck, Nat.sub_self, Nat.zero_mul]; rw [hck] at hl; omega, fun j v hv => ?_⟩
      rw [h0] at hv; simp at hv
    · rw [if_neg hck]
      refine .inr ⟨b, off + k * sz, cs, ?_, hB, hb, ?_, fun j v hv => ?_⟩
      · simp [add_lit]
      · have : c * sz = k * sz + (c - k) * sz := by rw [← Nat.add_mul]; congr 1; omega
        omega
      · rw [Nat.add_assoc]
        refine hat _ _ ?_
        have e1 : l.flatMap enc = (l.take k).flatMap enc ++ (l.drop k).flatMap enc := by rw [← List.flatMap_append, List.take_append_drop]
        have e2 : ((l.take k).flatMap enc).length = k * sz := by
          rw [flat_len (fun x hx => h.sizes x (List.mem_of_mem_take hx)), List.length_take, Nat.min_eq_left hk]
        rw [e1, List.getElem?_append_right (by omega), e2, Nat.add_sub_cancel_left]
        exact hv
theorem RdS.cut {k : Nat} (h : RdS enc sz w A l) (hk : k ≤ l.length) (hc : l.length ≤ c) : RdS enc sz w (cutA A c k sz) (l.drop k) := by
  by_cases hck : c = k
  · have h0 : l.drop k = [] := List.drop_eq_nil_of_le (by omega)
    rw [h0]; exact RdS.nil
  · unfold cutA
    rw [if_neg hck]
    refine ⟨fun hn => ?_, fun i x hx => ?_⟩
    · have hn' : l ≠ [] := fun e => by subst e; simp at hn
      obtain ⟨h1, h2⟩ := h.some hn'
      obtain ⟨a, rfl⟩ := Option.ne_none_iff_exists'.1 h1
      exact ⟨by simp, by simp only [Option.map_some, gA] at h2 ⊢; rw [block_add]; exact h2⟩
    · rw [List.getElem?_drop] at hx
      obtain ⟨vs, g1, g2, g3⟩ := h.at_ _ x hx
      refine ⟨vs, g1, g2, fun j v hv => ?_⟩
      have hn' : l ≠ [] := fun e => by subst e; simp at hx
      obtain ⟨h1, h2⟩ := h.some hn'
      obtain ⟨a, rfl⟩ := Option.ne_none_iff_exists'.1 h1
      have := g3 j v hv
      simp only [Option.map_some, gA] at this ⊢
      rw [add_add, ← Nat.add_assoc, ← Nat.add_mul]
      exact this
theorem RdS.take {k : Nat} (h : RdS enc sz w A l) : RdS enc sz w A (l.take k) := by
  refine ⟨fun hn => h.some (fun e => by subst e; simp at hn), fun i x hx => h.at_ i x ?_⟩
  rw [List.getElem?_take] at hx
  split at hx
  · exact hx
  · simp at hx
variable {P : Program} {T : Tab} {k : Value → World → Prop} {Y : List PanicEntry → World → Prop}
theorem run_slice_of (hT : TabOk P T) {t : TypeId} {ti ei : TI} {n : Nat} (ht : getT T.ts t = some ti) (hd : ti.desc = .slice e) (he : getT T.ts e = some ei) (hsz : ei.size = sz) (lo hi : Option Value) :
    (Instr.sliceAt t (.slice A n c) lo hi none).run P w = ((Instr.sliceBounds true n c lo hi none).run P w).andThen fun b w => .ok (.slice (if b.2.2 = b.1 then A else A.map (·.add (b.1 * sz))) (b.2.1 - b.1) (b.2.2 - b.1)) w := by
  have hu := run_und hT.1 ht (w := w)
  have h1 : (Instr.sliceAt t (.slice A n c) lo hi none).run P w = (Instr.slice t (.slice A n c) lo hi none).run P w := by
    simp [Instr.sliceAt, hu, hd]
  rw [h1]
  simp only [Instr.slice, Sem.run_bind, hu, hd, Result.andThen_ok]
  cases hb : (Instr.sliceBounds true n c lo hi none).run P w with
  | ok b w1 => simp [Result.andThen, run_size hT.1 he, hsz]
  | halt x w1 => simp [Result.andThen]
theorem run_bound {kl : IntKind} {i y : Nat} {cd : BoundsCode} (h : i ≤ y) : (Instr.sliceBound (.int kl (i : Int)) y cd).run P w = .ok i w := by
  simp [Instr.sliceBound, asIntOf, h]
/-- l[k:] -/
theorem Sm.cutLo (hT : TabOk P T) {t : TypeId} {ti ei : TI} {n i : Nat} {kl : IntKind} {a : Int} (ht : getT T.ts t = some ti) (hd : ti.desc = .slice e) (he : getT T.ts e = some ei) (hsz : ei.size = sz)
    (ha : a = (i : Int)) (hi : i ≤ n) (hk : k (.slice (cutA A c i sz) (n - i) (c - i)) w) : Sm P (Instr.sliceAt t (.slice A n c) (some (.int kl a)) none none) w k Y := by
  subst ha
  refine ⟨?_⟩
  have hb : (Instr.sliceBounds true n c (some (.int kl (i : Int))) none none).run P w = .ok (i, n, c) w := by
    simp [Instr.sliceBounds, run_bound hi]
  rw [run_slice_of hT ht hd he hsz, hb]
  exact hk
/-- l[:k] -/
theorem Sm.cutHi (hT : TabOk P T) {t : TypeId} {ti ei : TI} {n i : Nat} {kl : IntKind} {a : Int} (ht : getT T.ts t = some ti) (hd : ti.desc = .slice e) (he : getT T.ts e = some ei) (hsz : ei.size = sz)
    (ha : a = (i : Int)) (hi : i ≤ c) (hk : k (.slice A i c) w) : Sm P (Instr.sliceAt t (.slice A n c) none (some (.int kl a)) none) w k Y := by
  subst ha
  refine ⟨?_⟩
  have hb : (Instr.sliceBounds true n c none (some (.int kl (i : Int))) none).run P w = .ok (0, i, c) w := by
    simp [Instr.sliceBounds, run_bound hi]
  rw [run_slice_of hT ht hd he hsz, hb]
  simp only [Result.andThen_ok, Nat.zero_mul, Nat.sub_zero]
  have : (if c = 0 then A else A.map (·.add 0)) = A := by
    split
    · rfl
    · cases A with
      | none => rfl
      | some a => simp [Addr.add]
  rw [this]; exact hk
/-- l[i:j] -/
theorem Sm.cutLH (hT : TabOk P T) {t : TypeId} {ti ei : TI} {n i j : Nat} {kl kh : IntKind} {a b : Int} (ht : getT T.ts t = some ti) (hd : ti.desc = .slice e) (he : getT T.ts e = some ei) (hsz : ei.size = sz)
    (ha : a = (i : Int)) (hb : b = (j : Int)) (hi : i ≤ j) (hj : j ≤ c) (hk : k (.slice (cutA A c i sz) (j - i) (c - i)) w) : Sm P (Instr.sliceAt t (.slice A n c) (some (.int kl a)) (some (.int kh b)) none) w k Y := by
  subst ha hb
  refine ⟨?_⟩
  have hbd : (Instr.sliceBounds true n c (some (.int kl (i : Int))) (some (.int kh (j : Int))) none).run P w = .ok (i, j, c) w := by
    simp [Instr.sliceBounds, run_bound hi, run_bound hj]
  rw [run_slice_of hT ht hd he hsz, hbd]
  exact hk
theorem src_cells {X : Addr} {m : List α} (hpos : 0 < sz) (hr : RdS enc sz w (some X) m) (hm : ∀ x ∈ m, (enc x).length = sz) : ∀ j u, (m.flatMap enc)[j]? = some u → w.cell? (X.add j) = some u := by
  intro j u hu
  have hjl := (List.getElem?_eq_some_iff.1 hu).1
  rw [flat_len hm] at hjl
  have hq : j / sz < m.length := Nat.div_lt_of_lt_mul (by rw [Nat.mul_comm]; exact hjl)
  obtain ⟨vs, g1, g2, g3⟩ := hr.at_ (j / sz) m[j / sz] (List.getElem?_eq_getElem hq)
  unfold Fl at g2
  subst g2
  have hr := Nat.mod_lt j hpos
  have hx : (enc m[j / sz])[j % sz]? = some ((enc m[j / sz])[j % sz]'(by rw [g1]; exact hr)) := List.getElem?_eq_getElem _
  have e1 := flatMap_at hm (j / sz) _ (List.getElem?_eq_getElem hq) (j % sz) _ hx
  have e2 := g3 (j % sz) _ hx
  have hdm : j / sz * sz + j % sz = j := by rw [Nat.mul_comm]; exact Nat.div_add_mod j sz
  rw [hdm] at e1 e2
  rw [hu] at e1
  simp only [gA] at e2
  rw [e2, ← e1]
/-- append(l, m...) with m not empty -/
theorem Sm.appQ (hT : TabOk P T) {t ty : TypeId} {ti ei : TI} {X : Option Addr} {m : List α} {n n2 c2 : Nat}
    (ht : getT T.ts t = some ti) (hd : ti.desc = .slice e) (he : getT T.ts e = some ei) (hsz : ei.size = sz) (hz : ei.zero.cells.size = sz) (hpos : 0 < sz)
    (h : Que enc sz e w B A c l) (hn : n = l.length) (hr : RdS enc sz w X m) (hn2 : n2 = m.length) (hne : m ≠ []) (hm : ∀ x ∈ m, (enc x).length = sz) (h1 : ∀ x ∈ m, ∀ v ∈ enc x, v.oneCell' = true)
    (hlen : (l.length + m.length) * ei.bytes ≤ 140737488355328) (hlen2 : l.length + m.length ≤ 140737488355328) (hB : B ≤ w.heap.size)
    (hk : ∀ A' c' w', Que enc sz e w' B A' c' (l ++ m) → Grow A w w' → (obk A' = obk A ∨ obk A' = some w.heap.size) → k (.slice A' (l ++ m).length c') w') : Sm P (Builtin.append_ #[t, t] ty #[.slice A n c, .slice X n2 c2]) w k Y := by
  subst hn hn2
  obtain ⟨j, hj, hjz, hjs, hjb⟩ := info_of hT.1 he
  have hu := (hT.1.get ht).1
  rw [hd] at hu
  have hjs' : j.size = sz := hjs.trans hsz
  have hfm := flat_len hm
  have hfl := flat_len h.sizes
  have hm0 : 0 < m.length := List.length_pos_iff.2 hne
  obtain ⟨ad, rfl⟩ : ∃ ad, X = some ad := Option.ne_none_iff_exists'.1 (hr.some hne).1
  have hnews := src_cells hpos hr hm
  have hall : ∀ x ∈ l ++ m, (enc x).length = sz := fun x hx => (List.mem_append.1 hx).elim (h.sizes x) (hm x)
  have h1' : ∀ u ∈ m.flatMap enc, u.oneCell' = true := fun u hu => by
    obtain ⟨x, hx, hv⟩ := List.mem_flatMap.1 hu
    exact h1 x hx u hv
  have grown : ∀ (c0 : Nat) (old : List Value), old = l.flatMap enc → l.length + m.length ≤ c0 → ∀ (p : Nat) (w2 : World), p = w.heap.size → w2 = w.drew.alloc (.cells (old.toArray ++ (m.flatMap enc).toArray ++ Builtin.zeroCells ei.zero.cells (c0 - (l.length + m.length))) e) →
      Que enc sz e w2 B (some ⟨p, 0, none⟩) c0 (l ++ m) ∧ Grow A w w2 := by
    rintro c0 _ rfl hc p w2 rfl rfl
    refine ⟨Que.of_blk (cs := l.flatMap enc ++ m.flatMap enc ++ (Builtin.zeroCells ei.zero.cells (c0 - (l.length + m.length))).toList) ?_ hB hall (by simp; omega) ?_ ?_, ⟨rfl, rfl, rfl, ?_, fun i hi _ => ?_⟩⟩
    · unfold Blk
      show (w.heap.push _)[w.heap.size]? = _
      simp
    · simp only [List.length_append, hfm, hfl, Array.length_toList, size_zeroCells, hz]
      rw [← Nat.add_mul, ← Nat.add_mul, Nat.zero_add]
      exact Nat.mul_le_mul_right _ (by omega)
    · intro j v hv
      rw [Nat.zero_add, ← List.flatMap_append, List.getElem?_append_left (List.getElem?_eq_some_iff.1 hv).1]
      exact hv
    · show w.heap.size ≤ (w.heap.push _).size
      simp
    · show (w.heap.push _)[i]? = _
      rw [Array.getElem?_push_lt hi, Array.getElem?_eq_getElem hi]
  have h63 : ((l.length + m.length : Nat) : Int) ≤ 9223372036854775807 := by omega
  refine ⟨?_⟩
  rcases h.place with ⟨rfl, rfl⟩ | ⟨b, off, cs, rfl, hBb, hb, hcl, hat⟩
  · have hl0 : l = [] := List.length_eq_zero_iff.1 (by have := h.le; omega)
    subst hl0
    simp only [List.length_nil, Nat.zero_add] at hlen h63 ⊢
    rw [run_append_nil w t ty e j ei.zero hu hj hjz ad m.length c2 (m.flatMap enc) (by rw [hfm, hjs']) hnews hm0 h63 (by rw [hjb]; omega)]
    obtain ⟨g1, g2⟩ := grown (grownCap w m.length 0 e) [] rfl (by simp; exact grownCap_ge _ _ _ _) _ (w.drew.alloc (.cells ((m.flatMap enc).toArray ++ Builtin.zeroCells ei.zero.cells (grownCap w m.length 0 e - m.length)) e)) rfl (by simp)
    have := hk _ _ _ g1 g2 (.inr rfl)
    simpa using this
  · by_cases hroom : l.length + m.length ≤ c
    · have hf := run_firstCells_some (P := P) w j.size m.length ad m.length c2 (m.flatMap enc) (by rw [hfm, hjs']) hnews
      have hfit : off + l.length * sz + (m.flatMap enc).length ≤ cs.length := by
        rw [hfm]
        have := Nat.mul_le_mul_right sz hroom
        rw [Nat.add_mul] at this
        omega
      have hst := run_storeCells_sh (P := P) ((⟨b, off, none⟩ : Addr).add (l.length * sz)) (m.flatMap enc) 0 w h1' (fun i hi => by
        rw [add_add, add_lit]
        refine ⟨?_, hb.frozen _ rfl⟩
        rw [hb.cell]
        exact ⟨cs[off + (l.length * sz + (0 + i))]'(by omega), List.getElem?_eq_getElem (by omega)⟩)
      have hrun : (Builtin.append_ #[t, t] ty #[.slice (some ⟨b, off, none⟩) l.length c, .slice (some ad) m.length c2]).run P w = .ok (.slice (some ⟨b, off, none⟩) (l.length + m.length) c) (setCells w ((⟨b, off, none⟩ : Addr).add (l.length * sz)) (m.flatMap enc) 0) := by
        simp [Builtin.append_, run_underlying hu, sizeOf, typeInfo, hj, Builtin.lenOf, hroom, hf]
        rw [hjs', hst]
        simp
      rw [hrun]
      have hblk := setCells_blk (b := b) (o := off + l.length * sz) (m.flatMap enc) cs 0 w hb (by simpa using hfit)
      have hup := setCells_heap (⟨b, off + l.length * sz, none⟩) (m.flatMap enc) 0 w
      rw [add_lit]
      have hq : Que enc sz e (setCells w ⟨b, off + l.length * sz, none⟩ (m.flatMap enc) 0) B (some ⟨b, off, none⟩) c (l ++ m) := by
        refine Que.of_blk hblk hBb hall (by simp; omega) ?_ ?_
        · simp only [putL, List.length_append, List.length_take, List.length_drop, Nat.add_zero]
          omega
        · intro i v hv
          unfold putL
          rw [List.flatMap_append] at hv
          simp only [Nat.add_zero]
          have hil := (List.getElem?_eq_some_iff.1 hv).1
          simp only [List.length_append, hfl, hfm] at hil
          rw [List.append_assoc]
          rcases Nat.lt_or_ge i (l.length * sz) with hi | hi
          · rw [List.getElem?_append_left (by rw [hfl]; exact hi)] at hv
            rw [List.getElem?_append_left (by simp; omega), List.getElem?_take_of_lt (by omega)]
            exact hat i v hv
          · rw [List.getElem?_append_right (by rw [hfl]; exact hi), hfl] at hv
            rw [List.getElem?_append_right (by simp; omega), List.length_take, Nat.min_eq_left (by omega), show off + i - (off + l.length * sz) = i - l.length * sz by omega, List.getElem?_append_left (by rw [hfm]; omega)]
            exact hv
      have := hk _ _ _ hq ⟨hup.os, hup.tape, hup.output, Nat.le_of_eq hup.size.symm, fun i _ hne => hup.block i fun e' => hne (by rw [e']; rfl)⟩ (.inl rfl)
      simpa using this
    · have hgw : c < l.length + m.length := by omega
      have holds : ∀ j v, (l.flatMap enc)[j]? = some v → w.cell? ((⟨b, off, none⟩ : Addr).add j) = some v := fun j v hv => by
        rw [add_lit, hb.cell]
        exact hat j v hv
      rw [run_append_grow w t ty e j ei.zero hu hj hjz ⟨b, off, none⟩ l.length c (l.flatMap enc) (by rw [hfl, hjs']) holds ad m.length c2 (m.flatMap enc) (by rw [hfm, hjs']) hnews hgw h63 (growslice_fits hgw (by rw [hjb]; exact hlen))]
      obtain ⟨g1, g2⟩ := grown (grownCap w (l.length + m.length) c e) _ rfl (grownCap_ge _ _ _ _) _ _ rfl rfl
      have := hk _ _ _ g1 g2 (.inr rfl)
      simpa using this
end
section
variable {P : Program} {κ ν : Type} [DecidableEq κ] {K : TypeId} {kv : κ → Value} {vv : ν → Value} {w w' : World} {r b : Nat} {m : List (κ × ν)} {ix : List Nat}
def bornAt (es : List MapEntry) (i : Nat) : Nat := (es[i]?.map (·.born)).getD 0
/-- a loop over a map under way: the entries at ix have been told -/
def Iter (kv : κ → Value) (vv : ν → Value) (w : World) (r b : Nat) (m : List (κ × ν)) (ix : List Nat) : Prop :=
  ∃ es clk since seen c0, w.heap[b]? = some (.map es.toArray clk) ∧ Ents kv vv es clk m ∧ w.heap[r]? = some (.mapIter (some b) since seen c0) ∧ (∀ x ∈ es, x.born < since) ∧ since ≤ c0 ∧
    seen.toList = ix.map (bornAt es) ∧ ix.Nodup ∧ (∀ i ∈ ix, i < m.length) ∧ (ix ≠ [] → c0 = clk) ∧ since ≤ clk
theorem Ents.born_lt {es : List MapEntry} {clk : Nat} (h : Ents kv vv es clk m) : ∀ x ∈ es, x.born < clk := by
  intro x hx
  obtain ⟨i, hi⟩ := List.getElem?_of_mem hx
  have hlt := (List.getElem?_eq_some_iff.1 hi).1
  have hm : i < m.length := by rw [← h.len]; exact hlt
  obtain ⟨b, hb, hc⟩ := h.at_ i m[i].1 m[i].2 (by rw [List.getElem?_eq_getElem hm])
  rw [hi] at hb; simp at hb; subst hb; exact hc
theorem Ents.born_inj {es : List MapEntry} {clk : Nat} (h : Ents kv vv es clk m) {i j : Nat} {x y : MapEntry} (hi : es[i]? = some x) (hj : es[j]? = some y) (e : x.born = y.born) : i = j := by
  rcases Nat.lt_trichotomy i j with h1 | h1 | h1
  · have := h.inc i j x y h1 hi hj; omega
  · exact h1
  · have := h.inc j i y x h1 hj hi; omega
theorem Iter.lt (h : Iter kv vv w r b m ix) : r < w.heap.size ∧ b < w.heap.size := by
  obtain ⟨es, clk, since, seen, c0, h1, _, h3, _⟩ := h
  exact ⟨(Array.getElem?_eq_some_iff.1 h3).1, (Array.getElem?_eq_some_iff.1 h1).1⟩
theorem Iter.ext (h : Iter kv vv w r b m ix) (e : Ext w w') : Iter kv vv w' r b m ix := by
  obtain ⟨l1, l2⟩ := h.lt
  obtain ⟨es, clk, since, seen, c0, h1, h2, h3, h4⟩ := h
  exact ⟨es, clk, since, seen, c0, (Below.block e b l2).trans h1, h2, (Below.block e r l1).trans h3, h4⟩
theorem Iter.from (e : Ext w w') (h : Iter kv vv w r b m ix) : Iter kv vv w' r b m ix := h.ext e
theorem Iter.upd {c : Nat} (h : Iter kv vv w r b m ix) (u : Upd c w w') (hr : r ≠ c) (hb : b ≠ c) : Iter kv vv w' r b m ix := by
  obtain ⟨es, clk, since, seen, c0, h1, h2, h3, h4⟩ := h
  exact ⟨es, clk, since, seen, c0, (u.block b hb).trans h1, h2, (u.block r hr).trans h3, h4⟩
theorem Iter.ne_blk {q : Nat} {t : TypeId} {cs : List Value} (h : Iter kv vv w r b m ix) (hq : Blk w q t cs) : r ≠ q ∧ b ≠ q := by
  obtain ⟨es, clk, since, seen, c0, h1, h2, h3, h4⟩ := h
  unfold Blk at hq
  refine ⟨fun e => ?_, fun e => ?_⟩
  · subst e; rw [h3] at hq; simp at hq
  · subst e; rw [h1] at hq; simp at hq
theorem Sm.range {T : Tab} {t E : TypeId} {ti : TI} {k : Value → World → Prop} {Y : List PanicEntry → World → Prop} (hT : TabOk P T) (ht : getT T.ts t = some ti) (hd : ti.desc = .map K E) (h : MapO kv vv w b m)
    (hk : ∀ r w', w.heap.size = r → Ext w w' → Iter kv vv w' r b m [] → k (.pointer (some ⟨r, 0, none⟩)) w') : Sm P (Instr.range t (.map (some b))) w k Y := by
  have hlt := h.lt
  obtain ⟨es, clk, h1, h2⟩ := h
  have hu := (hT.1.get ht).1
  rw [hd] at hu
  refine ⟨?_⟩
  rw [run_range_map w t K E b es.toArray clk hu h1]
  refine hk _ _ rfl (Ext.alloc w _) ⟨es, clk, clk, #[], clk, (Below.block (Ext.alloc w _) b hlt).trans h1, h2, ?_, h2.born_lt, Nat.le_refl _, rfl, List.nodup_nil, by simp, by simp, Nat.le_refl _⟩
  show (w.heap.push _)[w.heap.size]? = _
  simp
theorem Sm.next {ty : TypeId} {k : Value → World → Prop} {Y : List PanicEntry → World → Prop} (h : Iter kv vv w r b m ix) (h0 : (∀ i, i < m.length → i ∈ ix) → k (.tuple #[.bool false]) w)
    (h1 : ∀ i x w', m[i]? = some x → i ∉ ix → Upd r w w' → Iter kv vv w' r b m (ix ++ [i]) → k (.tuple #[.bool true, kv x.1, vv x.2]) w') : Sm P (Instr.next (.pointer (some ⟨r, 0, none⟩)) false ty) w k Y := by
  obtain ⟨es, clk, since, seen, c0, hb, hE, hr, hs, hsc, hse, hnd, hin, hc0, hsk⟩ := h
  have hne : r ≠ b := fun e => by rw [e, hb] at hr; simp at hr
  have hmem : ∀ i x, es[i]? = some x → (x.born ∈ seen ↔ i ∈ ix) := by
    intro i x hx
    rw [← Array.mem_toList_iff, hse, List.mem_map]
    refine ⟨fun ⟨j, hj, e⟩ => ?_, fun hi => ⟨i, hi, by simp [bornAt, hx]⟩⟩
    have hjl : j < es.length := by rw [hE.len]; exact hin j hj
    have hy : es[j]? = some es[j] := List.getElem?_eq_getElem hjl
    have e2 : es[j].born = x.born := by rw [← e]; simp [bornAt, hy]
    have := hE.born_inj hy hx e2
    exact this ▸ hj
  refine ⟨?_⟩
  rcases run_next_at (P := P) w ty r b since c0 seen es.toArray clk hr hb (by simpa using hs) hsc with ⟨hz, hrun⟩ | ⟨e, he, w1, hw1, hrun⟩
  · rw [hrun]
    refine h0 fun i hi => ?_
    have hil : i < es.length := by rw [hE.len]; exact hi
    have hx : es[i]? = some es[i] := List.getElem?_eq_getElem hil
    refine (hmem i _ hx).1 ?_
    have hempty : leftOf es.toArray seen = #[] := Array.eq_empty_of_size_eq_zero hz
    unfold leftOf at hempty
    rw [Array.filter_eq_empty_iff] at hempty
    have := hempty es[i] (by simp)
    simpa using this
  · rw [hrun]
    have hl : e ∈ es ∧ e.born ∉ seen := by
      unfold leftOf at he
      simp at he
      exact ⟨he.1, he.2⟩
    obtain ⟨i, hi⟩ := List.getElem?_of_mem hl.1
    have him : i < m.length := by rw [← hE.len]; exact (List.getElem?_eq_some_iff.1 hi).1
    obtain ⟨bb, hbb, _⟩ := hE.at_ i m[i].1 m[i].2 (by rw [List.getElem?_eq_getElem him])
    rw [hi] at hbb
    simp only [Option.some.injEq] at hbb
    have hni : i ∉ ix := fun h => hl.2 ((hmem i e hi).2 h)
    have hheap : w1.heap = w.heap := by rcases hw1 with rfl | rfl <;> rfl
    have hupd : Upd r w (ChangeMaps.setBlock w1 r (.mapIter (some b) since (seen.push e.born) clk)) := by
      refine ⟨?_, ?_, ?_, ?_, fun j hj => ?_⟩
      · rcases hw1 with rfl | rfl <;> rfl
      · rcases hw1 with rfl | rfl <;> rfl
      · rcases hw1 with rfl | rfl <;> rfl
      · simp [ChangeMaps.setBlock, hheap]
      · show (w1.heap.setIfInBounds r _)[j]? = w.heap[j]?
        rw [Array.getElem?_setIfInBounds, if_neg (fun e : r = j => hj e.symm), hheap]
    have hkey : e.key = kv m[i].1 ∧ e.val = vv m[i].2 := by rw [hbb]; exact ⟨rfl, rfl⟩
    rw [hkey.1, hkey.2]
    refine h1 i m[i] _ (List.getElem?_eq_getElem him) hni hupd ⟨es, clk, since, seen.push e.born, clk, (hupd.block b (fun e => hne e.symm)).trans hb, hE, ?_, hs, by omega, ?_, ?_, ?_, fun _ => rfl, hsk⟩
    · show (w1.heap.setIfInBounds r _)[r]? = _
      rw [hheap]
      simp [(Array.getElem?_eq_some_iff.1 hr).1]
    · simp [hse, bornAt, hi]
    · rw [List.nodup_append]
      exact ⟨hnd, by simp, fun a ha c hc => by simp at hc; subst hc; exact fun e => hni (e ▸ ha)⟩
    · intro j hj
      rcases List.mem_append.1 hj with hj | hj
      · exact hin j hj
      · simp at hj; subst hj; exact him
theorem Sm.entry {i : Nat} {x : κ × ν} {k : Value → World → Prop} {Y : List PanicEntry → World → Prop} (h : Iter kv vv w r b m (ix ++ [i])) (hx : m[i]? = some x) (hk : k (.tuple #[kv x.1, vv x.2]) w) :
    Sm P (Instr.entry (.pointer (some ⟨r, 0, none⟩))) w k Y := by
  obtain ⟨es, clk, since, seen, c0, hb, hE, hr, hs, hsc, hse, hnd, hin, hc0, hsk⟩ := h
  have hc := hc0 (by simp)
  subst hc
  obtain ⟨bb, hbb, _⟩ := hE.at_ i x.1 x.2 hx
  have hseen : seen = (ix.map (bornAt es)).toArray.push bb := by
    apply Array.ext'
    rw [hse]
    simp [bornAt, hbb]
  rw [hseen] at hr
  have hnd' : (es.map (·.born)).Nodup := by
    rw [List.nodup_iff_pairwise_ne, List.pairwise_iff_getElem]
    intro a c ha hc hac
    simp at ha hc
    simp only [List.getElem_map]
    have := hE.inc a c es[a] es[c] hac (List.getElem?_eq_getElem ha) (List.getElem?_eq_getElem hc)
    omega
  refine ⟨?_⟩
  have := run_entry_at (P := P) w r b since (ix.map (bornAt es)).toArray es.toArray c0 ⟨kv x.1, vv x.2, bb⟩ hr hb (by simpa using List.mem_of_getElem? hbb) (by simpa using hnd')
  rw [this]
  exact hk
end
end Go.Sh
