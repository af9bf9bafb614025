/- Rules for the pieces that the evaluator stops at; facts on memory; own work. -/
import Derived.Test.YtbbadmlekagloaaDoorShD
import Derived.IntWalk
namespace Go.Sh
open Go.RowKit

/-! ### branches -/
section
variable {X Y : Prop}
theorem Gd.t (h : X) : Gd true X Y := ⟨fun _ => h, fun e => by cases e⟩
theorem Gd.f (h : Y) : Gd false X Y := ⟨fun e => (by cases e), fun _ => h⟩
theorem Gd.dec {p : Prop} [Decidable p] (h1 : p → X) (h2 : ¬ p → Y) : Gd (decide p) X Y := ⟨fun e => h1 (of_decide_eq_true e), fun e => h2 (of_decide_eq_false e)⟩
theorem Gd.beq {α : Type} [BEq α] [LawfulBEq α] {a b : α} (h1 : a = b → X) (h2 : a ≠ b → Y) : Gd (a == b) X Y := ⟨fun e => h1 (eq_of_beq e), fun e => h2 (fun h => by subst h; simp at e)⟩
theorem Gd.bne {α : Type} [BEq α] [LawfulBEq α] {a b : α} (h1 : a ≠ b → X) (h2 : a = b → Y) : Gd (a != b) X Y :=
  ⟨fun e => h1 (bne_iff_ne.1 e), fun e => h2 (by simpa [bne] using e)⟩
theorem Gd.not {b : Bool} (h : Gd b Y X) : Gd (!b) X Y := ⟨fun e => h.2 (by simpa using e), fun e => h.1 (by simpa using e)⟩
theorem Gd.var {b : Bool} (h1 : b = true → X) (h2 : b = false → Y) : Gd b X Y := ⟨h1, h2⟩
end

theorem Sq.mk {x : (Exit → Fr → World → Prop) → Prop} {y : Fr → World → Prop} {K : Exit → Fr → World → Prop}
    (h : x fun e F w => match e with | .normal => y F w | e => K e F w) : Sq x y K := ⟨h⟩

theorem at_int {F : Fr} {t : Nat} {k : IntKind} {n m : Int} (h : look F.env t = some (.int k n)) (e : n = m) : look F.env t = some (.int k m) := e ▸ h
theorem at_val {F : Fr} {t : Nat} {u v : Value} (h : look F.env t = some u) (e : u = v) : look F.env t = some v := e ▸ h

theorem b_eq {a b : Bool} (h : a = b) : Value.bool a = .bool b := by rw [h]
theorem i_eq {k : IntKind} {a b : Int} (h : a = b) : Value.int k a = .int k b := by rw [h]

/-! ### addresses, blocks -/
theorem block_add (a : Addr) (n : Nat) : (a.add n).block = a.block := by unfold Addr.add; split <;> rfl
theorem add_add (a : Addr) (i j : Nat) : (a.add i).add j = a.add (i + j) := by
  unfold Addr.add
  by_cases hi : i = 0 <;> by_cases hj : j = 0 <;> simp [hi, hj, Nat.add_assoc]
theorem pAdd_add (a : Addr) (i j : Nat) : pAdd (a.add i) j = a.add (i + j) := by rw [pAdd_eq, add_add]
theorem block_pAdd (a : Addr) (n : Nat) : (pAdd a n).block = a.block := by rw [pAdd_eq, block_add]

def Blk (w : World) (b : Nat) (t : TypeId) (vs : List Value) : Prop := w.heap[b]? = some (.cells vs.toArray t (0, 0))
def Ext (w w' : World) : Prop := Below w.heap.size w w'
section
variable {w w' w'' : World} {b : Nat} {t : TypeId} {vs : List Value}
theorem Ext.refl (w : World) : Ext w w := Below.refl _ _
theorem Ext.trans (h : Ext w w') (k : Ext w' w'') : Ext w w'' := Below.trans h (Below.mono k h.size)
theorem Ext.below {B : Nat} {w0 : World} (h : Below B w0 w) (k : Ext w w') (hB : B ≤ w.heap.size) : Below B w0 w' := h.trans (Below.mono k hB)
theorem Ext.size (h : Ext w w') : w.heap.size ≤ w'.heap.size := Below.size h
theorem Blk.lt (h : Blk w b t vs) : b < w.heap.size := by
  unfold Blk at h
  exact (Array.getElem?_eq_some_iff.1 h).1
theorem Blk.ext (h : Blk w b t vs) (e : Ext w w') : Blk w' b t vs := (Below.block e b h.lt).trans h
theorem Blk.from (e : Ext w w') (h : Blk w b t vs) : Blk w' b t vs := h.ext e
theorem Ext.from (e : Ext w' w'') (h : Ext w w') : Ext w w'' := h.trans e
theorem Blk.below {B : Nat} (h : Blk w b t vs) (e : Below B w w') (hb : b < B) : Blk w' b t vs := (Below.block e b hb).trans h
theorem Blk.cell (h : Blk w b t vs) (i : Nat) : w.cell? ⟨b, i, none⟩ = vs[i]? := by
  unfold Blk at h
  simp [World.cell?, h]
theorem Blk.frozen (h : Blk w b t vs) (p : Addr) (hp : p.block = b) : w.frozen? p = false := by
  unfold Blk at h
  simp [World.frozen?, hp, h]
theorem Ext.alloc (w : World) (o : Obj) : Ext w (w.alloc o) := Below.alloc (Below.refl _ w) (Nat.le_refl _) o
theorem Al.mk {cs : List Value} {k : Nat → World → Prop} (h : ∀ p w', w.heap.size = p → Blk w' p t cs → Ext w w' → w'.heap.size = p + 1 → k p w') : Al cs t w k := by
  refine ⟨h _ _ rfl ?_ (Ext.alloc w _) ?_⟩
  · unfold Blk
    show (w.heap.push _)[w.heap.size]? = _
    simp
  · show (w.heap.push _).size = _
    simp
theorem add_lit (b o n : Nat) : (⟨b, o, none⟩ : Addr).add n = ⟨b, o + n, none⟩ := by unfold Addr.add; split <;> simp_all
theorem Ld.blk {o m : Nat} {k : List Value → Prop} (h : Blk w b t vs) (hm : ((vs.drop o).take m).length = m) (hk : k ((vs.drop o).take m)) : Ld w ⟨b, o, none⟩ m k := by
  refine ⟨_, hm, fun i v hv => ?_, hk⟩
  rw [add_lit, h.cell]
  have : i < m := by have := (List.getElem?_eq_some_iff.1 hv).1; omega
  rw [List.getElem?_take_of_lt this, List.getElem?_drop] at hv
  exact hv
theorem Ld1.blk {o : Nat} {v : Value} {k : Value → Prop} (h : Blk w b t vs) (hv : vs[o]? = some v) (hk : k v) : Ld1 w ⟨b, o, none⟩ k := ⟨v, (h.cell o).trans hv, hk⟩

/-! ### stores into one known block -/
def putL (cs : List Value) (o : Nat) (vs : List Value) : List Value := cs.take o ++ vs ++ cs.drop (o + vs.length)
/-- block b alone may have changed -/
structure Upd (b : Nat) (w w' : World) : Prop where
  os : w'.os = w.os
  tape : w'.tape = w.tape
  output : w'.output = w.output
  size : w'.heap.size = w.heap.size
  block : ∀ k, k ≠ b → w'.heap[k]? = w.heap[k]?
theorem setCells_heap (p : Addr) : ∀ (vs : List Value) (i : Nat) (w : World), Upd p.block w (setCells w p vs i)
  | [], _, w => ⟨rfl, rfl, rfl, rfl, fun _ _ => rfl⟩
  | v :: r, i, w => by
    have ih := setCells_heap p r (i + 1) (w.setCell (p.add i) v)
    refine ⟨ih.os, ih.tape, ih.output, ih.size.trans (by simp [World.setCell]), fun k hk => (ih.block k hk).trans (Below.heap_setCell _ _ _ _ (by rw [block_add]; exact hk))⟩
theorem setCells_blk {b o : Nat} {t : TypeId} : ∀ (vs cs : List Value) (i : Nat) (w : World), Blk w b t cs → o + i + vs.length ≤ cs.length →
    Blk (setCells w ⟨b, o, none⟩ vs i) b t (putL cs (o + i) vs)
  | [], cs, i, w, h, _ => by simpa [setCells, putL] using h
  | v :: r, cs, i, w, h, hl => by
    have h1 : Blk (w.setCell ((⟨b, o, none⟩ : Addr).add i) v) b t (cs.set (o + i) v) := by
      rw [add_lit]
      unfold Blk at h ⊢
      simp [World.setCell, Array.getElem?_modify, h]
    have ih := setCells_blk (o := o) r (cs.set (o + i) v) (i + 1) _ h1 (by simp at hl ⊢; omega)
    simp only [setCells]
    have e : putL (cs.set (o + i) v) (o + (i + 1)) r = putL cs (o + i) (v :: r) := by
      simp only [List.length_cons] at hl
      unfold putL
      have e1 : (cs.set (o + i) v).take (o + (i + 1)) = cs.take (o + i) ++ [v] := by
        rw [show o + (i + 1) = o + i + 1 by omega, List.take_succ_eq_append_getElem (by simp; omega), List.take_set_of_le (Nat.le_refl _)]
        simp
      have e2 : (cs.set (o + i) v).drop (o + (i + 1) + r.length) = cs.drop (o + (i + 1) + r.length) := List.drop_set_of_lt (by omega)
      rw [e1, e2, show o + i + (v :: r).length = o + (i + 1) + r.length by simp; omega]
      simp
    rw [e] at ih
    exact ih
theorem St.upd {b o : Nat} {t : TypeId} {cs vs : List Value} {w : World} {k : World → Prop} (h : Blk w b t cs) (hl : Nat.ble (o + vs.length) cs.length = true) (h1 : vs.all Value.oneCell' = true)
    (hk : ∀ w', Upd b w w' → Blk w' b t (putL cs o vs) → k w') : St w ⟨b, o, none⟩ vs k := by
  have hl := Nat.le_of_ble_eq_true hl
  refine ⟨List.all_eq_true.1 h1, fun i hi => ⟨?_, h.frozen _ (by rw [block_add])⟩, hk _ (setCells_heap ⟨b, o, none⟩ vs 0 w) (setCells_blk (o := o) vs cs 0 w h (by omega))⟩
  rw [add_lit, h.cell]
  exact ⟨cs[o + i]'(by omega), List.getElem?_eq_getElem (by omega)⟩
theorem Ext.upd {w0 w w' : World} {b : Nat} (e : Ext w0 w) (u : Upd b w w') (hb : w0.heap.size ≤ b) : Ext w0 w' :=
  Below.trans e ⟨u.os, u.tape, u.output, by rw [u.size]; exact Nat.le_refl _, fun k hk => u.block k (by omega)⟩
theorem Blk.upd {w w' : World} {b b' : Nat} {t : TypeId} {cs : List Value} (h : Blk w b' t cs) (u : Upd b w w') (hne : b' ≠ b) : Blk w' b' t cs := (u.block b' hne).trans h
theorem St.new {b o : Nat} {t : TypeId} {cs vs : List Value} {w0 w : World} {k : World → Prop} (e : Ext w0 w) (hp : w0.heap.size = b) (h : Blk w b t cs) (hl : Nat.ble (o + vs.length) cs.length = true)
    (h1 : vs.all Value.oneCell' = true) (hk : ∀ w', Ext w0 w' → Blk w' b t (putL cs o vs) → w'.heap.size = w.heap.size → k w') : St w ⟨b, o, none⟩ vs k :=
  St.upd h hl h1 fun w' u hb => hk w' (e.upd u (by omega)) hb u.size

/-! ### slices that read as lists -/
structure Rd {α : Type} (R : World → α → List Value → Prop) (sz : Nat) (w : World) (B : Nat) (A : Option Addr) (l : List α) : Prop where
  some : l ≠ [] → A ≠ none ∧ (gA A).block < B
  at_ : ∀ i x, l[i]? = Option.some x → ∃ vs, vs.length = sz ∧ R w x vs ∧ ∀ j v, vs[j]? = Option.some v → w.cell? ((gA A).add (i * sz + j)) = Option.some v
def Fl {α : Type} (enc : α → List Value) : World → α → List Value → Prop := fun _ x vs => vs = enc x
variable {α : Type} {R : World → α → List Value → Prop} {sz B : Nat} {A : Option Addr} {l : List α}
theorem Ix.rd {i : Int} {k : Addr → Prop} (h : Rd R sz w B A l) (h0 : 0 ≤ i) (h1 : i < (l.length : Int)) (hk : k ((gA A).add (i.toNat * sz))) : Ix A l.length i sz k :=
  ⟨(h.some (fun e => by subst e; simp at h1; omega)).1, h0, h1, hk⟩
theorem Ix.rdN {i : Nat} {k : Addr → Prop} (h : Rd R sz w B A l) (h1 : i < l.length) (hk : k ((gA A).add (i * sz))) : Ix A l.length (i : Int) sz k :=
  Ix.rd h (by omega) (by omega) (by simpa using hk)
theorem Ld.rd {enc : α → List Value} {i : Nat} {x : α} {k : List Value → Prop} (h : Rd (Fl enc) sz w B A l) (hx : l[i]? = some x) (hk : k (enc x)) : Ld w ((gA A).add (i * sz)) sz k := by
  obtain ⟨vs, h1, h2, h3⟩ := h.at_ i x hx
  unfold Fl at h2
  subst h2
  exact ⟨enc x, h1, fun j v hv => by rw [add_add]; exact h3 j v hv, hk⟩
theorem Ld1.rd {enc : α → List Value} {i : Nat} {x : α} {v : Value} {k : Value → Prop} (h : Rd (Fl enc) 1 w B A l) (hx : l[i]? = some x) (hv : (enc x)[0]? = some v) (hk : k v) : Ld1 w ((gA A).add (i * 1)) k := by
  obtain ⟨vs, h1, h2, h3⟩ := h.at_ i x hx
  unfold Fl at h2
  subst h2
  exact ⟨v, by simpa using h3 0 v hv, hk⟩
theorem Ld1.rdF {enc : α → List Value} {i o : Nat} {x : α} {v : Value} {k : Value → Prop} (h : Rd (Fl enc) sz w B A l) (hx : l[i]? = some x) (hv : (enc x)[o]? = some v) (hk : k v) : Ld1 w (pAdd ((gA A).add (i * sz)) o) k := by
  obtain ⟨vs, h1, h2, h3⟩ := h.at_ i x hx
  unfold Fl at h2
  subst h2
  exact ⟨v, by rw [pAdd_add]; exact h3 o v hv, hk⟩
theorem Rd.mono' {R' : World → α → List Value → Prop} (h : Rd R sz w B A l) (e : Below B w w') (hR : ∀ x vs, R w x vs → R' w' x vs) : Rd R' sz w' B A l := by
  refine ⟨h.some, fun i x hx => ?_⟩
  obtain ⟨vs, h1, h2, h3⟩ := h.at_ i x hx
  refine ⟨vs, h1, hR x vs h2, fun j v hv => ?_⟩
  have hb := (h.some (fun e => by subst e; simp at hx)).2
  rw [Below.cell e (by rw [block_add]; exact hb)]
  exact h3 j v hv
theorem Rd.below {enc : α → List Value} (h : Rd (Fl enc) sz w B A l) (e : Below B w w') : Rd (Fl enc) sz w' B A l := h.mono' e fun _ _ q => q
theorem Rd.more {B' : Nat} (h : Rd R sz w B A l) (hB : B ≤ B') : Rd R sz w B' A l :=
  ⟨fun hn => by have := h.some hn; exact ⟨this.1, by omega⟩, h.at_⟩
theorem Rd.ext {enc : α → List Value} (h : Rd (Fl enc) sz w B A l) (e : Ext w w') (hB : B ≤ w.heap.size) : Rd (Fl enc) sz w' B A l := h.below (Below.mono e hB)
theorem Rd.nil : Rd R sz w B A ([] : List α) := ⟨fun h => absurd rfl h, fun i x h => by simp at h⟩
end

section
variable {w w' : World} {α : Type} {enc : α → List Value} {sz : Nat} {A : Option Addr} {l : List α}
def RdS (enc : α → List Value) (sz : Nat) (w : World) (A : Option Addr) (l : List α) : Prop := Rd (Fl enc) sz w w.heap.size A l
theorem RdS.nil : RdS enc sz w A ([] : List α) := Rd.nil
theorem RdS.from (e : Ext w w') (h : RdS enc sz w A l) : RdS enc sz w' A l := (Rd.ext h e (Nat.le_refl _)).more e.size
theorem Ix.rs {n : Int} {i : Nat} {k : Addr → Prop} (h : RdS enc sz w A l) (e : n = (i : Int)) (h1 : i < l.length) (hk : k ((gA A).add (i * sz))) : Ix A l.length n sz k := by
  subst e; exact Ix.rdN h h1 hk
theorem Ix.arr {len : Nat} {n : Int} {i : Nat} {k : Addr → Prop} (h : RdS enc sz w A l) (hl : l.length = len) (e : n = (i : Int)) (h1 : i < l.length) (hk : k ((gA A).add (i * sz))) : Ix A len n sz k := by
  subst e hl; exact Ix.rdN h h1 hk
theorem Ld.rs {i : Nat} {x : α} {k : List Value → Prop} (h : RdS enc sz w A l) (hx : l[i]? = some x) (hk : k (enc x)) : Ld w ((gA A).add (i * sz)) sz k := Ld.rd h hx hk
theorem Ld1.rs {i : Nat} {x : α} {v : Value} {k : Value → Prop} (h : RdS enc 1 w A l) (hx : l[i]? = some x) (hv : (enc x)[0]? = some v) (hk : k v) : Ld1 w ((gA A).add (i * 1)) k := Ld1.rd h hx hv hk
theorem Ld1.rsF {i o : Nat} {x : α} {v : Value} {k : Value → Prop} (h : RdS enc sz w A l) (hx : l[i]? = some x) (hv : (enc x)[o]? = some v) (hk : k v) : Ld1 w (pAdd ((gA A).add (i * sz)) o) k := Ld1.rdF h hx hv hk
end

/-! ### calls -/
theorem Cl.mk {P : Program} {f : Nat} {args : Array Value} {w : World} {R k : Value → World → Prop} {X : List PanicEntry → World → Prop} (h : Cl P f args w R (fun _ _ => False)) (hk : ∀ v w', R v w' → k v w') : Cl P f args w k X :=
  ⟨Calls.mono h.out fun e w' q => by
    cases e with
    | returned v => exact hk v w' q
    | panicked ch => exact q.elim
    | outgrown => exact q.elim⟩
theorem Cl.mkX {P : Program} {f : Nat} {args : Array Value} {w : World} {R k : Value → World → Prop} {X X' : List PanicEntry → World → Prop} (h : Cl P f args w R X') (hk : ∀ v w', R v w' → k v w') (hX : ∀ ch w', X' ch w' → X ch w') : Cl P f args w k X :=
  ⟨Calls.mono h.out fun e w' q => by
    cases e with
    | returned v => exact hk v w' q
    | panicked ch => exact hX ch w' q
    | outgrown => exact q.elim⟩

/-! ### numbers -/
theorem w64 {n m : Int} (h : n = m) (lo : -9223372036854775808 ≤ m) (hi : m ≤ 9223372036854775807) : IntKind.i64.wrap n = m := by
  subst h
  exact IntWalk.i64_in n ⟨lo, hi⟩
end Go.Sh
