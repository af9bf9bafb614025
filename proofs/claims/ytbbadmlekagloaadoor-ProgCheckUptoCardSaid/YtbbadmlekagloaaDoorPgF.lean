/- layer prog: rows of numbers, the reference's Flow; own work. -/
import Derived.Test.YtbbadmlekagloaaDoorPgE
namespace Go.Proofs.YtbbadmlekagloaaDoor
open Go Go.Sh
attribute [local irreducible] Blk Ext RdS
def vals (v : Value) : List Value := [v]
theorem flat_vals (l : List Value) : l.flatMap vals = l := by induction l with
  | nil => rfl
  | cons x r ih => simp [vals, List.flatMap_cons] at ih ⊢; exact ih
theorem rd_vals {p : Nat} {l : List Value} {w : World} {t : Nat} (h : Blk w p t l) (hl : l.length ≤ 140737488355328) : RdS vals 1 w (some ⟨p, 0, none⟩) l :=
  Own.rd (own_of_blk (e := t) (c := l.length) (l := l) (enc := vals) (sz := 1) h (Nat.zero_le _) (fun _ _ => rfl) (by rw [flat_vals]; omega) (Nat.le_refl _) (by simp only [maxLen]; omega) (by omega) (by rw [flat_vals]; exact List.take_of_length_le (by omega)))
theorem St.cell {p t i : Nat} {cs : List Value} {v : Value} {w : World} {k : World → Prop} (h : Blk w p t cs) (hi : i < cs.length) (h1 : v.oneCell' = true)
    (hk : ∀ w', Upd p w w' → Blk w' p t (cs.set i v) → k w') : St w ((gA (some ⟨p, 0, none⟩)).add (i * 1)) [v] k := by
  simp only [gA]
  rw [add_lit, Nat.zero_add, Nat.mul_one]
  refine St.upd h (Nat.ble_eq_true_of_le (by simp; omega)) (by simp [h1]) fun w' u hb => hk w' u ?_
  have : putL cs i [v] = cs.set i v := by
    unfold putL
    rw [List.set_eq_take_append_cons_drop, if_pos hi]
    simp
  rw [this] at hb
  exact hb
def rowV (m q : Nat) : Value := .slice (some ⟨q, 0, none⟩) m m
def rowL (m : Nat) (g : Nat → Int) : List Int := (List.range m).map g
@[simp] theorem rowL_len (m : Nat) (g : Nat → Int) : (rowL m g).length = m := by simp [rowL]
theorem rowL_at {m j : Nat} {g : Nat → Int} (h : j < m) : (rowL m g)[j]? = some (g j) := by simp [rowL, h]
def put1 (g : Nat → Int) (j : Nat) (v : Int) : Nat → Int := fun j' => if j' = j then v else g j'
def put2 (g : Nat → Nat → Int) (i j : Nat) (v : Int) : Nat → Nat → Int := fun i' => if i' = i then put1 (g i') j v else g i'
theorem rowL_set {m j : Nat} {g : Nat → Int} {v : Int} : (rowL m g).set j v = rowL m (put1 g j v) := by
  apply List.ext_getElem?
  intro k
  rw [List.getElem?_set]
  unfold rowL put1
  by_cases hk : k < m
  · by_cases e : j = k
    · subst e; simp [hk]
    · have : ¬ k = j := fun e' => e e'.symm
      simp [hk, e, this]
  · by_cases e : j = k
    · subst e; simp [hk]
    · simp [hk, e]
theorem rowL_congr {m : Nat} {g g' : Nat → Int} (h : ∀ j, j < m → g j = g' j) : rowL m g = rowL m g' := by
  unfold rowL
  exact List.map_congr_left fun j hj => h j (List.mem_range.1 hj)
/-- rows of numbers in blocks of their own, the first of n have been made -/
structure Mx (w : World) (B p n m : Nat) (ps : List Nat) (g : Nat → Nat → Int) : Prop where
  top : Blk w p 38 (ps.map (rowV m) ++ List.replicate (n - ps.length) (Value.slice none 0 0))
  le : ps.length ≤ n
  row : ∀ i q, ps[i]? = some q → Blk w q 3 ((rowL m (g i)).flatMap ints)
  nodup : ps.Nodup
  lo : ∀ q ∈ ps, B ≤ q
  plo : B ≤ p
section
variable {w w' : World} {B p n m : Nat} {ps : List Nat} {g g' : Nat → Nat → Int}
theorem Mx.ext (h : Mx w B p n m ps g) (e : Ext w w') : Mx w' B p n m ps g := ⟨h.top.ext e, h.le, fun i q hq => (h.row i q hq).ext e, h.nodup, h.lo, h.plo⟩
theorem Mx.from (e : Ext w w') (h : Mx w B p n m ps g) : Mx w' B p n m ps g := h.ext e
theorem Mx.congr (h : Mx w B p n m ps g) (hg : ∀ i j, i < n → j < m → g i j = g' i j) : Mx w B p n m ps g' :=
  ⟨h.top, h.le, fun i q hq => by
    have hi := (List.getElem?_eq_some_iff.1 hq).1
    have := h.le
    rw [← rowL_congr (fun j hj => hg i j (by omega) hj)]
    exact h.row i q hq, h.nodup, h.lo, h.plo⟩
theorem Mx.len (h : Mx w B p n m ps g) : (ps.map (rowV m) ++ List.replicate (n - ps.length) (Value.slice none 0 0) : List Value).length = n := by
  have := h.le; simp; omega
theorem Mx.rd (h : Mx w B p n m ps g) (hn : n ≤ 140737488355328) : RdS vals 1 w (some ⟨p, 0, none⟩) (ps.map (rowV m) ++ List.replicate (n - ps.length) (Value.slice none 0 0)) :=
  rd_vals h.top (by rw [h.len]; exact hn)
theorem Mx.at (_ : Mx w B p n m ps g) {i q : Nat} (hq : ps[i]? = some q) : (ps.map (rowV m) ++ List.replicate (n - ps.length) (Value.slice none 0 0) : List Value)[i]? = some (rowV m q) := by
  rw [List.getElem?_append_left (by simpa using (List.getElem?_eq_some_iff.1 hq).1)]
  simp [hq]
theorem Mx.upd {b : Nat} (h : Mx w B p n m ps g) (u : Upd b w w') (hp : p ≠ b) (hq : b ∉ ps) : Mx w' B p n m ps g :=
  ⟨h.top.upd u hp, h.le, fun i q hi => (h.row i q hi).upd u (fun e => hq (e ▸ List.mem_of_getElem? hi)), h.nodup, h.lo, h.plo⟩
theorem Mx.ne_p (h : Mx w B p n m ps g) : ∀ q ∈ ps, q ≠ p := fun q hq => by
  obtain ⟨i, hi⟩ := List.getElem?_of_mem hq
  exact (h.row i q hi).ne h.top (by decide)
theorem Mx.ne_t {b : Nat} {t : TypeId} {cs : List Value} (h : Mx w B p n m ps g) (hb : Blk w b t cs) (h1 : t ≠ 3) (h2 : t ≠ 38) : b ≠ p ∧ b ∉ ps :=
  ⟨hb.ne h.top h2, fun hm => by
    obtain ⟨i, hi⟩ := List.getElem?_of_mem hm
    exact hb.ne (h.row i b hi) h1 rfl⟩
/-- one number is written -/
theorem Mx.set {i j q : Nat} {v : Int} (h : Mx w B p n m ps g) (hq : ps[i]? = some q) (u : Upd q w w') (hb : Blk w' q 3 (((rowL m (g i)).set j v).flatMap ints)) : Mx w' B p n m ps (put2 g i j v) := by
  refine ⟨h.top.upd u (fun e => h.ne_p q (List.mem_of_getElem? hq) e.symm), h.le, fun i' q' hq' => ?_, h.nodup, h.lo, h.plo⟩
  unfold put2
  by_cases e : i' = i
  · subst e
    rw [hq] at hq'; simp at hq'; subst hq'
    rw [if_pos rfl, ← rowL_set]; exact hb
  · rw [if_neg e]
    have hne : q' ≠ q := fun e2 => e ((List.getElem?_inj (List.getElem?_eq_some_iff.1 hq').1 h.nodup).1 (by rw [hq', hq, e2]))
    exact (h.row i' q' hq').upd u hne
/-- one row is made -/
theorem Mx.snoc {w1 : World} {q : Nat} (h : Mx w B p n m ps g) (e : Ext w w1) (hq : w.heap.size ≤ q) (hb : Blk w1 q 3 ((rowL m (g ps.length)).flatMap ints)) (u : Upd p w1 w')
    (ht : Blk w' p 38 ((ps.map (rowV m) ++ List.replicate (n - ps.length) (Value.slice none 0 0)).set ps.length (rowV m q))) (hlt : ps.length < n) (hB : B ≤ w.heap.size) : Mx w' B p n m (ps ++ [q]) g := by
  have hqlt := hb.lt
  have hpq : q ≠ p := hb.ne (h.top.ext e) (by decide)
  refine ⟨?_, by simp; omega, fun i q' hi => ?_, ?_, fun x hx => ?_, h.plo⟩
  · have : (ps.map (rowV m) ++ List.replicate (n - ps.length) (Value.slice none 0 0)).set ps.length (rowV m q) = (ps ++ [q]).map (rowV m) ++ List.replicate (n - (ps ++ [q]).length) (Value.slice none 0 0) := by
      obtain ⟨d, hd⟩ : ∃ d, n - ps.length = d + 1 := ⟨n - ps.length - 1, by omega⟩
      rw [List.set_append_right _ _ (by simp), hd]
      simp [List.replicate_succ, show n - (ps.length + 1) = d by omega]
    rw [this] at ht
    exact ht
  · by_cases hi' : i < ps.length
    · rw [List.getElem?_append_left hi'] at hi
      exact ((h.row i q' hi).ext e).upd u (h.ne_p q' (List.mem_of_getElem? hi))
    · have : i = ps.length := by have := (List.getElem?_eq_some_iff.1 hi).1; simp at this; omega
      subst this
      simp at hi; subst hi
      exact hb.upd u hpq
  · rw [List.nodup_append]
    refine ⟨h.nodup, by simp, fun a ha b hb' => ?_⟩
    simp at hb'; subst hb'
    intro e2; subst e2
    obtain ⟨i, hi⟩ := List.getElem?_of_mem ha
    have := (h.row i _ hi).lt
    omega
  · rcases List.mem_append.1 hx with hx | hx
    · exact h.lo x hx
    · simp at hx; subst hx; omega
end
def IsRows (n m : Nat) (g : Nat → Nat → Int) (w : World) (v : Value) (w' : World) : Prop := ∃ p ps, v = .slice (some ⟨p, 0, none⟩) n n ∧ ps.length = n ∧ Mx w' w.heap.size p n m ps g ∧ Ext w w'
theorem slots_nat {f : Fn} (h : shapedB f = true) : ∃ m : Nat, f.slots = (m : Int) ∧ m ≤ 8 := by
  simp [shapedB] at h
  exact ⟨f.slots.toNat, by omega, by omega⟩
noncomputable def flwG (f : Fn) : Nat → Nat → Int := fun i s => flw f (s : Int) i
/-- the rows when all slots ahead of s are in, and of s itself the places ahead of i -/
noncomputable def part (f : Fn) (s i : Nat) : Nat → Nat → Int := fun i' j => if j < s ∨ (j = s ∧ i' < i) then flwG f i' j else 0
theorem part_put (f : Fn) (s i : Nat) : put2 (part f s i) i s (flwG f i s) = part f s (i + 1) := by
  funext i' j
  unfold put2 put1 part
  by_cases e : i' = i
  · subst e
    by_cases e2 : j = s
    · subst e2; simp
    · simp [e2]
  · rw [if_neg e]
    by_cases e2 : j = s
    · subst e2
      have : (i' < i + 1) = (i' < i) := propext ⟨fun h => by omega, fun h => by omega⟩
      simp [this]
    · simp [e2]
theorem Flow_no (f : Fn) (A : Option Addr) (c : Nat) (w : World) (hA : RdC w A f.code) (hS : soundB f = false) :
    Cl Tryd.prog 15 #[f.v A c] w (fun v w' => v = .slice none 0 0 ∧ Ext w w') (fun _ _ => False) := by
  refine calls_ex (args := [f.v A c]) T.ok Tryd.func15 rfl rfl rfl rfl ?_
  repeat' (first | (first | (show Gd _ _ _; first | with_reducible refine Gd.t ?_ | with_reducible refine Gd.f ?_ | with_reducible refine Gd.dec (fun _ => ?_) (fun _ => ?_) | with_reducible refine Gd.beq (fun _ => ?_) (fun _ => ?_) | with_reducible refine Gd.bne (fun _ => ?_) (fun _ => ?_) | with_reducible refine Gd.not ?_ | refine Gd.t ?_ | refine Gd.f ?_ | with_reducible refine Gd.var (fun _ => ?_) (fun _ => ?_)) | (show Sq _ _ _; refine Sq.mk ?_) | (show Ld1 _ _ _; first | (apply Ld1.blk; (focus ((repeat (first | assumption | (apply Blk.from; assumption))); done)); rfl) | (apply Ld1.rsF; (focus ((repeat (first | assumption | (apply RdS.from; assumption))); done)); assumption; rfl) | (apply Ld1.rs; (focus ((repeat (first | assumption | (apply RdS.from; assumption))); done)); assumption; rfl)) | (show Ld _ _ _ _; first | (apply Ld.blk; (focus ((repeat (first | assumption | (apply Blk.from; assumption))); done)); rfl) | (apply Ld.rs; (focus ((repeat (first | assumption | (apply RdS.from; assumption))); done)); assumption)) | (show Ix _ _ _ _ _; first | (apply Ix.rs; (focus ((repeat (first | assumption | (apply RdS.from; assumption))); done)); (first | with_reducible rfl | assumption); (first | assumption | omega)) | (apply Ix.arr; (focus ((repeat (first | assumption | (apply RdS.from; assumption))); done)); (first | assumption | (simp; done)); (first | with_reducible rfl | assumption); (first | assumption | omega))) | (show Al _ _ _ _; refine Al.mk (fun _ _ _ _ _ _ => ?_)) | (show St _ _ _ _; apply St.new; assumption; assumption; assumption; rfl; rfl; intro _ _ _ _)) | (show Cl _ _ _ _ _ _; refine Cl.mk (Sound_c _ _ _ _ (by (focus ((repeat (first | assumption | (apply RdS.from; assumption))); done)))) ?_; rintro _ _ ⟨rfl, _⟩))
  · simp_all
  · exact ⟨rfl, by (repeat (first | exact Ext.refl _ | assumption | (apply Ext.from; assumption)))⟩
theorem Flow_yes (f : Fn) (A : Option Addr) (c m : Nat) (w : World) (hA : RdC w A f.code) (hS : soundB f = true) (hm : f.slots = (m : Int)) (hm8 : m ≤ 8) :
    Cl Tryd.prog 15 #[f.v A c] w (IsRows f.code.length m (flwG f) w) (fun _ _ => False) := by
  have hsh : shapedB f = true := by simp only [soundB, Bool.and_eq_true] at hS; exact hS.1.1
  obtain ⟨hl1, hl2⟩ := shaped_len hsh
  refine calls_ex (args := [f.v A c]) T.ok Tryd.func15 rfl rfl rfl rfl ?_
  refine Sq.mk ?_
  refine Al.mk fun pf w1 hpf hb e1 hs1 => ?_
  repeat' (first | (first | (show Gd _ _ _; first | with_reducible refine Gd.t ?_ | with_reducible refine Gd.f ?_ | with_reducible refine Gd.dec (fun _ => ?_) (fun _ => ?_) | with_reducible refine Gd.beq (fun _ => ?_) (fun _ => ?_) | with_reducible refine Gd.bne (fun _ => ?_) (fun _ => ?_) | with_reducible refine Gd.not ?_ | refine Gd.t ?_ | refine Gd.f ?_ | with_reducible refine Gd.var (fun _ => ?_) (fun _ => ?_)) | (show Sq _ _ _; refine Sq.mk ?_) | (show Ld1 _ _ _; first | (apply Ld1.blk; (focus ((repeat (first | assumption | (apply Blk.from; assumption))); done)); rfl) | (apply Ld1.rsF; (focus ((repeat (first | assumption | (apply RdS.from; assumption))); done)); assumption; rfl) | (apply Ld1.rs; (focus ((repeat (first | assumption | (apply RdS.from; assumption))); done)); assumption; rfl)) | (show Ld _ _ _ _; first | (apply Ld.blk; (focus ((repeat (first | assumption | (apply Blk.from; assumption))); done)); rfl) | (apply Ld.rs; (focus ((repeat (first | assumption | (apply RdS.from; assumption))); done)); assumption)) | (show Ix _ _ _ _ _; first | (apply Ix.rs; (focus ((repeat (first | assumption | (apply RdS.from; assumption))); done)); (first | with_reducible rfl | assumption); (first | assumption | omega)) | (apply Ix.arr; (focus ((repeat (first | assumption | (apply RdS.from; assumption))); done)); (first | assumption | (simp; done)); (first | with_reducible rfl | assumption); (first | assumption | omega))) | (show Al _ _ _ _; refine Al.mk (fun _ _ _ _ _ _ => ?_)) | (show St _ _ _ _; apply St.new; assumption; assumption; assumption; rfl; rfl; intro _ _ _ _)) | (show Cl _ _ _ _ _ _; refine Cl.mk (Sound_c _ _ _ _ (by (focus ((repeat (first | assumption | (apply RdS.from; assumption))); done)))) ?_; rintro _ _ ⟨rfl, _⟩))
  rotate_left
  · simp_all
  rename_i w2 e2 _
  refine Sm.make T.ok (enc := vals) (z := .slice none 0 0) (n := f.code.length) rfl rfl rfl rfl rfl rfl rfl rfl Nat.zero_lt_one (Nat.le_trans (Nat.mul_le_mul_left _ hl2) (by decide)) (by omega) (fun p w3 hp hb3 e3 => ?_)
  rw [flat_vals] at hb3
  have M0 : Mx w3 w.heap.size p f.code.length m [] (part f 0 0) := by
    have := e1.size; have := e2.size
    exact ⟨hb3, by simp, by simp, by simp, by simp, by omega⟩
  have e03 : Ext w w3 := by (repeat (first | exact Ext.refl _ | assumption | (apply Ext.from; assumption)))
  have hb := hb.ext (e2.trans e3)
  clear hb3 e1 e2 e3 hs1
  repeat' (first | (show Gd _ _ _; first | with_reducible refine Gd.t ?_ | with_reducible refine Gd.f ?_ | with_reducible refine Gd.dec (fun _ => ?_) (fun _ => ?_) | with_reducible refine Gd.beq (fun _ => ?_) (fun _ => ?_) | with_reducible refine Gd.bne (fun _ => ?_) (fun _ => ?_) | with_reducible refine Gd.not ?_ | refine Gd.t ?_ | refine Gd.f ?_ | with_reducible refine Gd.var (fun _ => ?_) (fun _ => ?_)) | (show Sq _ _ _; refine Sq.mk ?_) | (show Ld1 _ _ _; first | (apply Ld1.blk; (focus ((repeat (first | assumption | (apply Blk.from; assumption))); done)); rfl) | (apply Ld1.rsF; (focus ((repeat (first | assumption | (apply RdS.from; assumption))); done)); assumption; rfl) | (apply Ld1.rs; (focus ((repeat (first | assumption | (apply RdS.from; assumption))); done)); assumption; rfl)) | (show Ld _ _ _ _; first | (apply Ld.blk; (focus ((repeat (first | assumption | (apply Blk.from; assumption))); done)); rfl) | (apply Ld.rs; (focus ((repeat (first | assumption | (apply RdS.from; assumption))); done)); assumption)) | (show Ix _ _ _ _ _; first | (apply Ix.rs; (focus ((repeat (first | assumption | (apply RdS.from; assumption))); done)); (first | with_reducible rfl | assumption); (first | assumption | omega)) | (apply Ix.arr; (focus ((repeat (first | assumption | (apply RdS.from; assumption))); done)); (first | assumption | (simp; done)); (first | with_reducible rfl | assumption); (first | assumption | omega))) | (show Al _ _ _ _; refine Al.mk (fun _ _ _ _ _ _ => ?_)) | (show St _ _ _ _; apply St.new; assumption; assumption; assumption; rfl; rfl; intro _ _ _ _))
  refine Lp.g0 T.ok (σ := List Nat) (fun ps => [(5, .int .i64 (ps.length : Int)), (4, .slice (some ⟨p, 0, none⟩) f.code.length f.code.length), (1, .pointer (some ⟨pf, 0, none⟩))])
    (fun ps w' => Mx w' w.heap.size p f.code.length m ps (part f 0 0) ∧ Ext w w' ∧ Blk w' pf 24 (f.v A c).cells.toList) (fun ps _ => f.code.length - ps.length) [] rfl ⟨rfl, rfl, rfl, trivial⟩ ⟨M0, e03, hb⟩ ?_
  clear M0 e03 hb
  rintro ps w4 ⟨hM, e04, hb⟩
  have hle := hM.le
  by_cases hlt : ps.length < f.code.length
  · repeat' (first | ((show Gd _ _ _; first | with_reducible refine Gd.t ?_ | with_reducible refine Gd.f ?_ | with_reducible refine Gd.dec (fun _ => ?_) (fun _ => ?_) | with_reducible refine Gd.beq (fun _ => ?_) (fun _ => ?_) | with_reducible refine Gd.bne (fun _ => ?_) (fun _ => ?_) | with_reducible refine Gd.not ?_ | refine Gd.t ?_ | refine Gd.f ?_ | with_reducible refine Gd.var (fun _ => ?_) (fun _ => ?_)) <;> first | (exfalso; omega) | skip) | (first | (show Gd _ _ _; first | with_reducible refine Gd.t ?_ | with_reducible refine Gd.f ?_ | with_reducible refine Gd.dec (fun _ => ?_) (fun _ => ?_) | with_reducible refine Gd.beq (fun _ => ?_) (fun _ => ?_) | with_reducible refine Gd.bne (fun _ => ?_) (fun _ => ?_) | with_reducible refine Gd.not ?_ | refine Gd.t ?_ | refine Gd.f ?_ | with_reducible refine Gd.var (fun _ => ?_) (fun _ => ?_)) | (show Sq _ _ _; refine Sq.mk ?_) | (show Ld1 _ _ _; first | (apply Ld1.blk; (focus ((repeat (first | assumption | (apply Blk.from; assumption))); done)); rfl) | (apply Ld1.rsF; (focus ((repeat (first | assumption | (apply RdS.from; assumption))); done)); assumption; rfl) | (apply Ld1.rs; (focus ((repeat (first | assumption | (apply RdS.from; assumption))); done)); assumption; rfl)) | (show Ld _ _ _ _; first | (apply Ld.blk; (focus ((repeat (first | assumption | (apply Blk.from; assumption))); done)); rfl) | (apply Ld.rs; (focus ((repeat (first | assumption | (apply RdS.from; assumption))); done)); assumption)) | (show Ix _ _ _ _ _; first | (apply Ix.rs; (focus ((repeat (first | assumption | (apply RdS.from; assumption))); done)); (first | with_reducible rfl | assumption); (first | assumption | omega)) | (apply Ix.arr; (focus ((repeat (first | assumption | (apply RdS.from; assumption))); done)); (first | assumption | (simp; done)); (first | with_reducible rfl | assumption); (first | assumption | omega))) | (show Al _ _ _ _; refine Al.mk (fun _ _ _ _ _ _ => ?_)) | (show St _ _ _ _; apply St.new; assumption; assumption; assumption; rfl; rfl; intro _ _ _ _)))
    refine Sm.make T.ok (enc := ints) (z := 0) (n := m) rfl rfl rfl hm hm rfl rfl rfl Nat.zero_lt_one (Nat.le_trans (Nat.mul_le_mul_left _ hm8) (by decide)) (by omega) (fun q w5 hq hb5 e5 => ?_)
    have hrt := (hM.ext e5).rd (by omega)
    have hlen := hM.len
    refine Ix.arr (i := ps.length) hrt hlen rfl (by rw [hlen]; exact hlt) ?_
    have hz : List.replicate m (0 : Int) = rowL m (part f 0 0 ps.length) := by
      unfold rowL part
      simp [List.map_const']
    rw [hz] at hb5
    refine St.cell (hM.ext e5).top (by rw [hlen]; exact hlt) rfl fun w6 u6 ht6 => ?_
    have hM6 := hM.snoc e5 (by omega) hb5 u6 ht6 hlt e04.size
    have hb6 := (hb.ext e5).upd u6 ((hM.ext e5).ne_t (hb.ext e5) (by decide) (by decide)).1
    have e06 := (e04.trans e5).upd u6 hM.plo
    repeat' (first | (show Gd _ _ _; first | with_reducible refine Gd.t ?_ | with_reducible refine Gd.f ?_ | with_reducible refine Gd.dec (fun _ => ?_) (fun _ => ?_) | with_reducible refine Gd.beq (fun _ => ?_) (fun _ => ?_) | with_reducible refine Gd.bne (fun _ => ?_) (fun _ => ?_) | with_reducible refine Gd.not ?_ | refine Gd.t ?_ | refine Gd.f ?_ | with_reducible refine Gd.var (fun _ => ?_) (fun _ => ?_)) | (show Sq _ _ _; refine Sq.mk ?_) | (show Ld1 _ _ _; first | (apply Ld1.blk; (focus ((repeat (first | assumption | (apply Blk.from; assumption))); done)); rfl) | (apply Ld1.rsF; (focus ((repeat (first | assumption | (apply RdS.from; assumption))); done)); assumption; rfl) | (apply Ld1.rs; (focus ((repeat (first | assumption | (apply RdS.from; assumption))); done)); assumption; rfl)) | (show Ld _ _ _ _; first | (apply Ld.blk; (focus ((repeat (first | assumption | (apply Blk.from; assumption))); done)); rfl) | (apply Ld.rs; (focus ((repeat (first | assumption | (apply RdS.from; assumption))); done)); assumption)) | (show Ix _ _ _ _ _; first | (apply Ix.rs; (focus ((repeat (first | assumption | (apply RdS.from; assumption))); done)); (first | with_reducible rfl | assumption); (first | assumption | omega)) | (apply Ix.arr; (focus ((repeat (first | assumption | (apply RdS.from; assumption))); done)); (first | assumption | (simp; done)); (first | with_reducible rfl | assumption); (first | assumption | omega))) | (show Al _ _ _ _; refine Al.mk (fun _ _ _ _ _ _ => ?_)) | (show St _ _ _ _; apply St.new; assumption; assumption; assumption; rfl; rfl; intro _ _ _ _))
    refine ⟨ps ++ [q], ⟨at_int (m := ((ps ++ [q]).length : Int)) rfl (w64 (by simp) (by omega) (by simp; omega)), rfl, rfl, trivial⟩, rfl, ⟨hM6, e06, hb6⟩, by simp; omega⟩
  · have hpl : ps.length = f.code.length := by omega
    repeat' (first | ((show Gd _ _ _; first | with_reducible refine Gd.t ?_ | with_reducible refine Gd.f ?_ | with_reducible refine Gd.dec (fun _ => ?_) (fun _ => ?_) | with_reducible refine Gd.beq (fun _ => ?_) (fun _ => ?_) | with_reducible refine Gd.bne (fun _ => ?_) (fun _ => ?_) | with_reducible refine Gd.not ?_ | refine Gd.t ?_ | refine Gd.f ?_ | with_reducible refine Gd.var (fun _ => ?_) (fun _ => ?_)) <;> first | (exfalso; omega) | skip) | (first | (show Gd _ _ _; first | with_reducible refine Gd.t ?_ | with_reducible refine Gd.f ?_ | with_reducible refine Gd.dec (fun _ => ?_) (fun _ => ?_) | with_reducible refine Gd.beq (fun _ => ?_) (fun _ => ?_) | with_reducible refine Gd.bne (fun _ => ?_) (fun _ => ?_) | with_reducible refine Gd.not ?_ | refine Gd.t ?_ | refine Gd.f ?_ | with_reducible refine Gd.var (fun _ => ?_) (fun _ => ?_)) | (show Sq _ _ _; refine Sq.mk ?_) | (show Ld1 _ _ _; first | (apply Ld1.blk; (focus ((repeat (first | assumption | (apply Blk.from; assumption))); done)); rfl) | (apply Ld1.rsF; (focus ((repeat (first | assumption | (apply RdS.from; assumption))); done)); assumption; rfl) | (apply Ld1.rs; (focus ((repeat (first | assumption | (apply RdS.from; assumption))); done)); assumption; rfl)) | (show Ld _ _ _ _; first | (apply Ld.blk; (focus ((repeat (first | assumption | (apply Blk.from; assumption))); done)); rfl) | (apply Ld.rs; (focus ((repeat (first | assumption | (apply RdS.from; assumption))); done)); assumption)) | (show Ix _ _ _ _ _; first | (apply Ix.rs; (focus ((repeat (first | assumption | (apply RdS.from; assumption))); done)); (first | with_reducible rfl | assumption); (first | assumption | omega)) | (apply Ix.arr; (focus ((repeat (first | assumption | (apply RdS.from; assumption))); done)); (first | assumption | (simp; done)); (first | with_reducible rfl | assumption); (first | assumption | omega))) | (show Al _ _ _ _; refine Al.mk (fun _ _ _ _ _ _ => ?_)) | (show St _ _ _ _; apply St.new; assumption; assumption; assumption; rfl; rfl; intro _ _ _ _)))
    refine Lp.g0 T.ok (σ := Nat) (fun s => [(6, .int .i64 (s : Int)), (4, .slice (some ⟨p, 0, none⟩) f.code.length f.code.length), (1, .pointer (some ⟨pf, 0, none⟩))])
      (fun s w' => s ≤ m ∧ Mx w' w.heap.size p f.code.length m ps (part f s 0) ∧ Ext w w' ∧ Blk w' pf 24 (f.v A c).cells.toList) (fun s _ => m - s) 0 rfl ⟨rfl, rfl, rfl, trivial⟩ ⟨by omega, hM, e04, hb⟩ ?_
    clear hM e04 hb hlt hle
    rintro s w7 ⟨hs, hM, e07, hb⟩
    have hlen := hM.len
    by_cases hsm : s < m
    · repeat' (first | ((show Gd _ _ _; first | with_reducible refine Gd.t ?_ | with_reducible refine Gd.f ?_ | with_reducible refine Gd.dec (fun _ => ?_) (fun _ => ?_) | with_reducible refine Gd.beq (fun _ => ?_) (fun _ => ?_) | with_reducible refine Gd.bne (fun _ => ?_) (fun _ => ?_) | with_reducible refine Gd.not ?_ | refine Gd.t ?_ | refine Gd.f ?_ | with_reducible refine Gd.var (fun _ => ?_) (fun _ => ?_)) <;> first | (exfalso; omega) | skip) | (first | (show Gd _ _ _; first | with_reducible refine Gd.t ?_ | with_reducible refine Gd.f ?_ | with_reducible refine Gd.dec (fun _ => ?_) (fun _ => ?_) | with_reducible refine Gd.beq (fun _ => ?_) (fun _ => ?_) | with_reducible refine Gd.bne (fun _ => ?_) (fun _ => ?_) | with_reducible refine Gd.not ?_ | refine Gd.t ?_ | refine Gd.f ?_ | with_reducible refine Gd.var (fun _ => ?_) (fun _ => ?_)) | (show Sq _ _ _; refine Sq.mk ?_) | (show Ld1 _ _ _; first | (apply Ld1.blk; (focus ((repeat (first | assumption | (apply Blk.from; assumption))); done)); rfl) | (apply Ld1.rsF; (focus ((repeat (first | assumption | (apply RdS.from; assumption))); done)); assumption; rfl) | (apply Ld1.rs; (focus ((repeat (first | assumption | (apply RdS.from; assumption))); done)); assumption; rfl)) | (show Ld _ _ _ _; first | (apply Ld.blk; (focus ((repeat (first | assumption | (apply Blk.from; assumption))); done)); rfl) | (apply Ld.rs; (focus ((repeat (first | assumption | (apply RdS.from; assumption))); done)); assumption)) | (show Ix _ _ _ _ _; first | (apply Ix.rs; (focus ((repeat (first | assumption | (apply RdS.from; assumption))); done)); (first | with_reducible rfl | assumption); (first | assumption | omega)) | (apply Ix.arr; (focus ((repeat (first | assumption | (apply RdS.from; assumption))); done)); (first | assumption | (simp; done)); (first | with_reducible rfl | assumption); (first | assumption | omega))) | (show Al _ _ _ _; refine Al.mk (fun _ _ _ _ _ _ => ?_)) | (show St _ _ _ _; apply St.new; assumption; assumption; assumption; rfl; rfl; intro _ _ _ _)))
      (show Cl _ _ _ _ _ _; refine Cl.mk (slotStates_c f A c s _ (by (focus ((repeat (first | assumption | (apply RdS.from; assumption))); done))) hS) ?_)
      rintro _ w8 ⟨pm, rfl, hpm, hbm, e8⟩
      have hml : (flwL f (s : Int)).length = f.code.length := by simp [flwL]
      repeat' (first | (show Gd _ _ _; first | with_reducible refine Gd.t ?_ | with_reducible refine Gd.f ?_ | with_reducible refine Gd.dec (fun _ => ?_) (fun _ => ?_) | with_reducible refine Gd.beq (fun _ => ?_) (fun _ => ?_) | with_reducible refine Gd.bne (fun _ => ?_) (fun _ => ?_) | with_reducible refine Gd.not ?_ | refine Gd.t ?_ | refine Gd.f ?_ | with_reducible refine Gd.var (fun _ => ?_) (fun _ => ?_)) | (show Sq _ _ _; refine Sq.mk ?_) | (show Ld1 _ _ _; first | (apply Ld1.blk; (focus ((repeat (first | assumption | (apply Blk.from; assumption))); done)); rfl) | (apply Ld1.rsF; (focus ((repeat (first | assumption | (apply RdS.from; assumption))); done)); assumption; rfl) | (apply Ld1.rs; (focus ((repeat (first | assumption | (apply RdS.from; assumption))); done)); assumption; rfl)) | (show Ld _ _ _ _; first | (apply Ld.blk; (focus ((repeat (first | assumption | (apply Blk.from; assumption))); done)); rfl) | (apply Ld.rs; (focus ((repeat (first | assumption | (apply RdS.from; assumption))); done)); assumption)) | (show Ix _ _ _ _ _; first | (apply Ix.rs; (focus ((repeat (first | assumption | (apply RdS.from; assumption))); done)); (first | with_reducible rfl | assumption); (first | assumption | omega)) | (apply Ix.arr; (focus ((repeat (first | assumption | (apply RdS.from; assumption))); done)); (first | assumption | (simp; done)); (first | with_reducible rfl | assumption); (first | assumption | omega))) | (show Al _ _ _ _; refine Al.mk (fun _ _ _ _ _ _ => ?_)) | (show St _ _ _ _; apply St.new; assumption; assumption; assumption; rfl; rfl; intro _ _ _ _))
      refine Lp.g0 T.ok (σ := Nat) (fun i => [(8, .int .i64 (i : Int)), (7, .slice (some ⟨pm, 0, none⟩) (flwL f (s : Int)).length (flwL f (s : Int)).length), (6, .int .i64 (s : Int)), (4, .slice (some ⟨p, 0, none⟩) f.code.length f.code.length), (1, .pointer (some ⟨pf, 0, none⟩))])
        (fun i w' => i ≤ f.code.length ∧ Mx w' w.heap.size p f.code.length m ps (part f s i) ∧ Ext w w' ∧ Blk w' pf 24 (f.v A c).cells.toList ∧ Blk w' pm 3 ((flwL f (s : Int)).flatMap ints) ∧ pm ∉ ps) (fun i _ => f.code.length - i) 0 rfl ⟨rfl, rfl, rfl, rfl, rfl, trivial⟩
        ⟨by omega, hM.ext e8, e07.trans e8, hb.ext e8, hbm, fun hmem => by
          obtain ⟨i, hi⟩ := List.getElem?_of_mem hmem
          have := (hM.row i _ hi).lt; omega⟩ ?_
      clear hM e07 hb hbm hpm e8
      rintro i w9 ⟨hi, hM, e09, hb, hbm, hpm⟩
      have hrm := rd_of_blk hbm (by rw [hml]; omega)
      by_cases hil : i < f.code.length
      · obtain ⟨q, hq⟩ : ∃ q, ps[i]? = some q := ⟨_, List.getElem?_eq_getElem (by omega)⟩
        have hrt := hM.rd (by omega)
        have hat := hM.at hq
        have hmi : (flwL f (s : Int))[i]? = some (flwG f i s) := by simp [flwL, hil, flwG]
        have hrq := hM.row i q hq
        have hrr := rd_of_blk hrq (by rw [rowL_len]; omega)
        repeat' (first | ((show Gd _ _ _; first | with_reducible refine Gd.t ?_ | with_reducible refine Gd.f ?_ | with_reducible refine Gd.dec (fun _ => ?_) (fun _ => ?_) | with_reducible refine Gd.beq (fun _ => ?_) (fun _ => ?_) | with_reducible refine Gd.bne (fun _ => ?_) (fun _ => ?_) | with_reducible refine Gd.not ?_ | refine Gd.t ?_ | refine Gd.f ?_ | with_reducible refine Gd.var (fun _ => ?_) (fun _ => ?_)) <;> first | (exfalso; omega) | skip) | (first | (show Gd _ _ _; first | with_reducible refine Gd.t ?_ | with_reducible refine Gd.f ?_ | with_reducible refine Gd.dec (fun _ => ?_) (fun _ => ?_) | with_reducible refine Gd.beq (fun _ => ?_) (fun _ => ?_) | with_reducible refine Gd.bne (fun _ => ?_) (fun _ => ?_) | with_reducible refine Gd.not ?_ | refine Gd.t ?_ | refine Gd.f ?_ | with_reducible refine Gd.var (fun _ => ?_) (fun _ => ?_)) | (show Sq _ _ _; refine Sq.mk ?_) | (show Ld1 _ _ _; first | (apply Ld1.blk; (focus ((repeat (first | assumption | (apply Blk.from; assumption))); done)); rfl) | (apply Ld1.rsF; (focus ((repeat (first | assumption | (apply RdS.from; assumption))); done)); assumption; rfl) | (apply Ld1.rs; (focus ((repeat (first | assumption | (apply RdS.from; assumption))); done)); assumption; rfl)) | (show Ld _ _ _ _; first | (apply Ld.blk; (focus ((repeat (first | assumption | (apply Blk.from; assumption))); done)); rfl) | (apply Ld.rs; (focus ((repeat (first | assumption | (apply RdS.from; assumption))); done)); assumption)) | (show Ix _ _ _ _ _; first | (apply Ix.rs; (focus ((repeat (first | assumption | (apply RdS.from; assumption))); done)); (first | with_reducible rfl | assumption); (first | assumption | omega)) | (apply Ix.arr; (focus ((repeat (first | assumption | (apply RdS.from; assumption))); done)); (first | assumption | (simp; done)); (first | with_reducible rfl | assumption); (first | assumption | omega))) | (show Al _ _ _ _; refine Al.mk (fun _ _ _ _ _ _ => ?_)) | (show St _ _ _ _; apply St.new; assumption; assumption; assumption; rfl; rfl; intro _ _ _ _)))
        refine Dr.tail T.ok mixed 9 (by kernel_rfl) fun W w10 hW e10 _ => ?_
        (show Ix _ _ _ _ _; refine Ix.arr (i := i) (by (focus ((repeat (first | assumption | (apply RdS.from; assumption))); done))) hlen rfl (by rw [hlen]; exact hil) ?_)
        repeat' (first | (show Gd _ _ _; first | with_reducible refine Gd.t ?_ | with_reducible refine Gd.f ?_ | with_reducible refine Gd.dec (fun _ => ?_) (fun _ => ?_) | with_reducible refine Gd.beq (fun _ => ?_) (fun _ => ?_) | with_reducible refine Gd.bne (fun _ => ?_) (fun _ => ?_) | with_reducible refine Gd.not ?_ | refine Gd.t ?_ | refine Gd.f ?_ | with_reducible refine Gd.var (fun _ => ?_) (fun _ => ?_)) | (show QLd1 _ _ _; first | (apply QLd1.blk hW; (focus ((repeat (first | assumption | (apply Blk.from; assumption))); done)); rfl) | (apply QLd1.rsF hW; (focus ((repeat (first | assumption | (apply RdS.from; assumption))); done)); assumption; rfl) | (apply QLd1.rs hW; (focus ((repeat (first | assumption | (apply RdS.from; assumption))); done)); assumption; rfl)) | (show QLd _ _ _ _; first | (apply QLd.blk hW; (focus ((repeat (first | assumption | (apply Blk.from; assumption))); done)); rfl) | (apply QLd.rs hW; (focus ((repeat (first | assumption | (apply RdS.from; assumption))); done)); assumption)) | (show Ix _ _ _ _ _; first | (apply Ix.rs; (focus ((repeat (first | assumption | (apply RdS.from; assumption))); done)); (first | with_reducible rfl | assumption); (first | assumption | omega)) | (apply Ix.arr; (focus ((repeat (first | assumption | (apply RdS.from; assumption))); done)); (first | assumption | (simp; done)); (first | with_reducible rfl | assumption); (first | assumption | omega))))
        (show Ix _ _ _ _ _; refine Ix.arr (i := s) (RdS.from e10 hrr) (rowL_len _ _) rfl (by rw [rowL_len]; exact hsm) ?_)
        refine St.ints (hrq.ext e10) (by rw [rowL_len]; exact hsm) fun w11 u11 hq11 => ?_
        have hM11 := (hM.ext e10).set hq u11 hq11
        rw [part_put] at hM11
        have hqm := List.mem_of_getElem? hq
        have hb11 := (hb.ext e10).upd u11 (fun e => ((hM.ext e10).ne_t (hb.ext e10) (by decide) (by decide)).2 (e ▸ hqm))
        have hbm11 := (hbm.ext e10).upd u11 (fun e => hpm (e ▸ hqm))
        have e011 := (e09.trans e10).upd u11 (hM.lo q hqm)
        repeat' (first | (show Gd _ _ _; first | with_reducible refine Gd.t ?_ | with_reducible refine Gd.f ?_ | with_reducible refine Gd.dec (fun _ => ?_) (fun _ => ?_) | with_reducible refine Gd.beq (fun _ => ?_) (fun _ => ?_) | with_reducible refine Gd.bne (fun _ => ?_) (fun _ => ?_) | with_reducible refine Gd.not ?_ | refine Gd.t ?_ | refine Gd.f ?_ | with_reducible refine Gd.var (fun _ => ?_) (fun _ => ?_)) | (show Sq _ _ _; refine Sq.mk ?_) | (show Ld1 _ _ _; first | (apply Ld1.blk; (focus ((repeat (first | assumption | (apply Blk.from; assumption))); done)); rfl) | (apply Ld1.rsF; (focus ((repeat (first | assumption | (apply RdS.from; assumption))); done)); assumption; rfl) | (apply Ld1.rs; (focus ((repeat (first | assumption | (apply RdS.from; assumption))); done)); assumption; rfl)) | (show Ld _ _ _ _; first | (apply Ld.blk; (focus ((repeat (first | assumption | (apply Blk.from; assumption))); done)); rfl) | (apply Ld.rs; (focus ((repeat (first | assumption | (apply RdS.from; assumption))); done)); assumption)) | (show Ix _ _ _ _ _; first | (apply Ix.rs; (focus ((repeat (first | assumption | (apply RdS.from; assumption))); done)); (first | with_reducible rfl | assumption); (first | assumption | omega)) | (apply Ix.arr; (focus ((repeat (first | assumption | (apply RdS.from; assumption))); done)); (first | assumption | (simp; done)); (first | with_reducible rfl | assumption); (first | assumption | omega))) | (show Al _ _ _ _; refine Al.mk (fun _ _ _ _ _ _ => ?_)) | (show St _ _ _ _; apply St.new; assumption; assumption; assumption; rfl; rfl; intro _ _ _ _))
        exact ⟨i + 1, ⟨at_int (m := ((i + 1 : Nat) : Int)) rfl (w64 (by simp) (by omega) (by omega)), rfl, rfl, rfl, rfl, trivial⟩, rfl, ⟨by omega, hM11, e011, hb11, hbm11, hpm⟩, by omega⟩
      · repeat' (first | ((show Gd _ _ _; first | with_reducible refine Gd.t ?_ | with_reducible refine Gd.f ?_ | with_reducible refine Gd.dec (fun _ => ?_) (fun _ => ?_) | with_reducible refine Gd.beq (fun _ => ?_) (fun _ => ?_) | with_reducible refine Gd.bne (fun _ => ?_) (fun _ => ?_) | with_reducible refine Gd.not ?_ | refine Gd.t ?_ | refine Gd.f ?_ | with_reducible refine Gd.var (fun _ => ?_) (fun _ => ?_)) <;> first | (exfalso; omega) | skip) | (first | (show Gd _ _ _; first | with_reducible refine Gd.t ?_ | with_reducible refine Gd.f ?_ | with_reducible refine Gd.dec (fun _ => ?_) (fun _ => ?_) | with_reducible refine Gd.beq (fun _ => ?_) (fun _ => ?_) | with_reducible refine Gd.bne (fun _ => ?_) (fun _ => ?_) | with_reducible refine Gd.not ?_ | refine Gd.t ?_ | refine Gd.f ?_ | with_reducible refine Gd.var (fun _ => ?_) (fun _ => ?_)) | (show Sq _ _ _; refine Sq.mk ?_) | (show Ld1 _ _ _; first | (apply Ld1.blk; (focus ((repeat (first | assumption | (apply Blk.from; assumption))); done)); rfl) | (apply Ld1.rsF; (focus ((repeat (first | assumption | (apply RdS.from; assumption))); done)); assumption; rfl) | (apply Ld1.rs; (focus ((repeat (first | assumption | (apply RdS.from; assumption))); done)); assumption; rfl)) | (show Ld _ _ _ _; first | (apply Ld.blk; (focus ((repeat (first | assumption | (apply Blk.from; assumption))); done)); rfl) | (apply Ld.rs; (focus ((repeat (first | assumption | (apply RdS.from; assumption))); done)); assumption)) | (show Ix _ _ _ _ _; first | (apply Ix.rs; (focus ((repeat (first | assumption | (apply RdS.from; assumption))); done)); (first | with_reducible rfl | assumption); (first | assumption | omega)) | (apply Ix.arr; (focus ((repeat (first | assumption | (apply RdS.from; assumption))); done)); (first | assumption | (simp; done)); (first | with_reducible rfl | assumption); (first | assumption | omega))) | (show Al _ _ _ _; refine Al.mk (fun _ _ _ _ _ _ => ?_)) | (show St _ _ _ _; apply St.new; assumption; assumption; assumption; rfl; rfl; intro _ _ _ _)))
        have : i = f.code.length := by omega
        subst this
        refine ⟨s + 1, ⟨at_int (m := ((s + 1 : Nat) : Int)) rfl (w64 (by simp) (by omega) (by omega)), rfl, rfl, trivial⟩, rfl, ⟨by omega, hM.congr fun i' j hi' hj => ?_, e09, hb⟩, by omega⟩
        unfold part
        by_cases hc : j < s ∨ j = s ∧ i' < f.code.length
        · rw [if_pos hc, if_pos (by omega)]
        · rw [if_neg hc, if_neg (by omega)]
    · repeat' (first | ((show Gd _ _ _; first | with_reducible refine Gd.t ?_ | with_reducible refine Gd.f ?_ | with_reducible refine Gd.dec (fun _ => ?_) (fun _ => ?_) | with_reducible refine Gd.beq (fun _ => ?_) (fun _ => ?_) | with_reducible refine Gd.bne (fun _ => ?_) (fun _ => ?_) | with_reducible refine Gd.not ?_ | refine Gd.t ?_ | refine Gd.f ?_ | with_reducible refine Gd.var (fun _ => ?_) (fun _ => ?_)) <;> first | (exfalso; omega) | skip) | (first | (show Gd _ _ _; first | with_reducible refine Gd.t ?_ | with_reducible refine Gd.f ?_ | with_reducible refine Gd.dec (fun _ => ?_) (fun _ => ?_) | with_reducible refine Gd.beq (fun _ => ?_) (fun _ => ?_) | with_reducible refine Gd.bne (fun _ => ?_) (fun _ => ?_) | with_reducible refine Gd.not ?_ | refine Gd.t ?_ | refine Gd.f ?_ | with_reducible refine Gd.var (fun _ => ?_) (fun _ => ?_)) | (show Sq _ _ _; refine Sq.mk ?_) | (show Ld1 _ _ _; first | (apply Ld1.blk; (focus ((repeat (first | assumption | (apply Blk.from; assumption))); done)); rfl) | (apply Ld1.rsF; (focus ((repeat (first | assumption | (apply RdS.from; assumption))); done)); assumption; rfl) | (apply Ld1.rs; (focus ((repeat (first | assumption | (apply RdS.from; assumption))); done)); assumption; rfl)) | (show Ld _ _ _ _; first | (apply Ld.blk; (focus ((repeat (first | assumption | (apply Blk.from; assumption))); done)); rfl) | (apply Ld.rs; (focus ((repeat (first | assumption | (apply RdS.from; assumption))); done)); assumption)) | (show Ix _ _ _ _ _; first | (apply Ix.rs; (focus ((repeat (first | assumption | (apply RdS.from; assumption))); done)); (first | with_reducible rfl | assumption); (first | assumption | omega)) | (apply Ix.arr; (focus ((repeat (first | assumption | (apply RdS.from; assumption))); done)); (first | assumption | (simp; done)); (first | with_reducible rfl | assumption); (first | assumption | omega))) | (show Al _ _ _ _; refine Al.mk (fun _ _ _ _ _ _ => ?_)) | (show St _ _ _ _; apply St.new; assumption; assumption; assumption; rfl; rfl; intro _ _ _ _)))
      have : s = m := by omega
      subst this
      refine ⟨p, ps, rfl, hpl, hM.congr fun i' j hi' hj => ?_, e07⟩
      unfold part
      rw [if_pos (.inl hj)]
end Go.Proofs.YtbbadmlekagloaaDoor
