/- A call's memory as a list of pieces, each with the blocks that it stands on; own work. -/
import Derived.Test.YtbbadmlekagloaaDoorShP
namespace Go.Sh
open Go.RowKit
set_option linter.unusedSectionVars false
set_option linter.unusedVariables false
set_option linter.unusedSimpArgs false
/-- a piece of memory: the blocks it stands on, what it says; own: it may be written; old: it may lie in memory that was there before the call -/
structure Ck where
  fp : Nat → Prop
  P : World → Prop
  own : Bool
  old : Bool
structure Ck.Ok (c : Ck) (w : World) : Prop where
  holds : c.P w
  lt : ∀ k, c.fp k → k < w.heap.size
  loc : ∀ w', w.heap.size ≤ w'.heap.size → (∀ k, c.fp k → w'.heap[k]? = w.heap[k]?) → c.P w'
theorem Ck.Ok.move {c : Ck} {w w' : World} (h : c.Ok w) (hs : w.heap.size ≤ w'.heap.size) (hb : ∀ k, c.fp k → w'.heap[k]? = w.heap[k]?) : c.Ok w' :=
  ⟨h.loc w' hs hb, fun k hk => Nat.lt_of_lt_of_le (h.lt k hk) hs, fun w'' hs' hb' => h.loc w'' (Nat.le_trans hs hs') fun k hk => (hb' k hk).trans (hb k hk)⟩
abbrev nw : Nat → Prop := fun _ => False
abbrev Ck.new (c : Ck) : Prop := c.own = true ∨ c.old = false
structure Hp (S : Nat → Prop) (w0 w : World) (Γ : List Ck) : Prop where
  tch : Tch S w0 w
  ok : ∀ c ∈ Γ, c.Ok w
  sep : Γ.Pairwise fun a b => (a.own = true ∨ b.own = true) → ∀ k, ¬ (a.fp k ∧ b.fp k)
  dom : ∀ c ∈ Γ, c.new → ∀ k, c.fp k → S k ∨ w0.heap.size ≤ k
section
variable {S S' : Nat → Prop} {w0 w w' wb : World} {Γ Γ' Γ1 Γ2 : List Ck} {c c' d : Ck}
theorem Hp.begin (S : Nat → Prop) (w : World) : Hp S w w [] := ⟨Tch.refl S w, by simp, List.Pairwise.nil, by simp⟩
theorem Hp.frame (H : Hp S w0 w (Γ1 ++ Γ2)) (h1 : ∀ c ∈ Γ1, c.own = true) (hS : ∀ k, S' k → ∃ c ∈ Γ1, c.fp k) (H' : Hp S' w w' Γ') (hn : ∀ c ∈ Γ', c.new) : Hp S w0 w' (Γ' ++ Γ2) := by
  have hsep := List.pairwise_append.1 H.sep
  have hout : ∀ b ∈ Γ2, ∀ k, b.fp k → ¬ S' k := fun b hb k hk hs => by
    obtain ⟨c, hc, hck⟩ := hS k hs
    exact hsep.2.2 c hc b hb (.inl (h1 c hc)) k ⟨hck, hk⟩
  have hdom : ∀ k, S' k → S k ∨ w0.heap.size ≤ k := fun k hs => by
    obtain ⟨c, hc, hck⟩ := hS k hs
    exact H.dom c (List.mem_append_left _ hc) (.inl (h1 c hc)) k hck
  have hsz := H.tch.size
  refine ⟨⟨H'.tch.os.trans H.tch.os, H'.tch.tape.trans H.tch.tape, H'.tch.output.trans H.tch.output, Nat.le_trans H.tch.size H'.tch.size, fun k hk hn => ?_⟩, fun b hb => ?_, ?_, fun b hb hn' k hk => ?_⟩
  · rw [H'.tch.block k (by omega) (fun hs => by rcases hdom k hs with h | h; exact hn h; omega)]
    exact H.tch.block k hk hn
  · rcases List.mem_append.1 hb with hb | hb
    · exact H'.ok b hb
    · have h := H.ok b (List.mem_append_right _ hb)
      exact h.move H'.tch.size fun k hk => H'.tch.block k (h.lt k hk) (hout b hb k hk)
  · refine List.pairwise_append.2 ⟨H'.sep, hsep.2.1, fun a ha b hb _ k ⟨h2, h3⟩ => ?_⟩
    have h4 := (H.ok b (List.mem_append_right _ hb)).lt k h3
    rcases H'.dom a ha (hn a ha) k h2 with h | h
    · exact hout b hb k h3 h
    · omega
  · rcases List.mem_append.1 hb with hb | hb
    · rcases H'.dom b hb hn' k hk with h | h
      · exact hdom k h
      · exact .inr (by omega)
    · exact H.dom b (List.mem_append_right _ hb) hn' k hk
theorem Hp.ext (H : Hp S w0 w Γ) (e : Ext w w') : Hp S w0 w' Γ :=
  Hp.frame (Γ1 := []) (Γ' := []) (S' := nw) H (by simp) (fun k h => h.elim) ⟨Tch.of_ext e, by simp, List.Pairwise.nil, by simp⟩ (by simp)
theorem Hp.e (H : Hp nw w0 w Γ) : Ext w0 w := Ext.tch (Ext.refl w0) H.tch (fun k h => h.elim)
theorem Hp.base (H : Hp S w0 w Γ) (hb : Ext wb w0) (hS : ∀ k, S k → wb.heap.size ≤ k) : Ext wb w := Ext.tch hb H.tch hS
def BaseOk (S : Nat → Prop) (wb w0 : World) : Prop := Ext wb w0 ∧ ∀ k, S k → wb.heap.size ≤ k
theorem Hp.base2 (H : Hp S w0 w Γ) (h : BaseOk S wb w0) : Ext wb w := H.base h.1 h.2
theorem Hp.size (H : Hp S w0 w Γ) : w0.heap.size ≤ w.heap.size := H.tch.size
theorem Hp.perm (H : Hp S w0 w Γ) (h : List.Perm Γ Γ') : Hp S w0 w Γ' :=
  ⟨H.tch, fun c hc => H.ok c (h.mem_iff.2 hc), (h.pairwise_iff (fun {a b} q r k z => q r.symm k ⟨z.2, z.1⟩)).1 H.sep, fun c hc => H.dom c (h.mem_iff.2 hc)⟩
theorem Hp.sub (H : Hp S w0 w Γ) (h : List.Sublist Γ' Γ) : Hp S w0 w Γ' :=
  ⟨H.tch, fun c hc => H.ok c (h.mem hc), H.sep.sublist h, fun c hc => H.dom c (h.mem hc)⟩
theorem Hp.non (H : Hp S w0 w Γ) : Hp S w0 w [] := H.sub (List.nil_sublist _)
theorem Hp.atC (H : Hp S w0 w Γ) (i : Nat) (h : Γ[i]? = some c) : c.P w := (H.ok c (List.mem_of_getElem? h)).holds
def selN : List Ck → List Nat → List Ck
  | _, [] => []
  | Γ, i :: r => match Γ[i]? with | some c => c :: selN (Γ.eraseIdx i) r | none => []
theorem erase_perm {α : Type} : ∀ {l : List α} {i : Nat} {x : α}, l[i]? = some x → List.Perm l (x :: l.eraseIdx i)
  | [], i, x, h => by simp at h
  | y :: r, 0, x, h => by simp at h; subst h; simp
  | y :: r, i + 1, x, h => by
    have ih := erase_perm (l := r) (i := i) (x := x) (by simpa using h)
    simp only [List.eraseIdx_cons_succ]
    exact (List.Perm.cons y ih).trans (List.Perm.swap x y _)
theorem selN_sub : ∀ (is : List Nat) (Γ : List Ck), ∃ Δ, List.Perm Γ (selN Γ is ++ Δ)
  | [], Γ => ⟨Γ, by simp [selN]⟩
  | i :: r, Γ => by
    unfold selN
    split
    · rename_i c hc
      obtain ⟨Δ, h⟩ := selN_sub r (Γ.eraseIdx i)
      refine ⟨Δ, ?_⟩
      exact (erase_perm hc).trans (List.Perm.cons _ h)
    · exact ⟨Γ, by simp⟩
/-- the pieces at these places, each place counted in what is left -/
theorem Hp.sel (H : Hp S w0 w Γ) (is : List Nat) (h : selN Γ is = Γ') : Hp S w0 w Γ' := by
  obtain ⟨Δ, hp⟩ := selN_sub is Γ
  subst h
  exact (H.perm hp).sub (List.sublist_append_left _ _)
/-- a new piece -/
theorem Hp.fr0 (H : Hp S w0 w Γ) (H' : Hp nw w w' [c]) (hn : c.new) : Hp S w0 w' (c :: Γ) :=
  Hp.frame (Γ1 := []) (S' := nw) H (by simp) (fun k h => h.elim) H' (by simpa using hn)
theorem Hp.fr0L (H : Hp S w0 w Γ) (H' : Hp nw w w' Γ') (hn : ∀ c ∈ Γ', c.new) : Hp S w0 w' (Γ' ++ Γ) :=
  Hp.frame (Γ1 := []) (S' := nw) H (by simp) (fun k h => h.elim) H' hn
/-- a piece is no more written -/
def Ck.frz (c : Ck) : Ck := { c with own := false, old := false }
theorem Hp.frz (H : Hp S w0 w (c :: Γ)) (hn : c.new) : Hp S w0 w (c.frz :: Γ) := by
  have hs := List.pairwise_cons.1 H.sep
  refine ⟨H.tch, fun b hb => ?_, List.pairwise_cons.2 ⟨fun b hb h k hk => hs.1 b hb (.inr (by simpa [Ck.frz] using h)) k hk, hs.2⟩, fun b hb hb' => ?_⟩
  · rcases List.mem_cons.1 hb with rfl | hb
    · have := H.ok c (by simp); exact ⟨this.holds, this.lt, this.loc⟩
    · exact H.ok b (by simp [hb])
  · rcases List.mem_cons.1 hb with rfl | hb
    · exact H.dom c (by simp) hn
    · exact H.dom b (by simp [hb]) hb'
/-- two pieces as one -/
theorem Hp.join (H : Hp S w0 w (c :: d :: Γ)) {e : Ck} (hP : c.P w → d.P w → e.P w) (hfp : ∀ k, e.fp k ↔ c.fp k ∨ d.fp k) (ho : e.own = true → c.own = true ∧ d.own = true) (hn : e.new → c.new ∧ d.new)
    (hloc : ∀ w', w.heap.size ≤ w'.heap.size → (∀ k, e.fp k → w'.heap[k]? = w.heap[k]?) → c.P w' → d.P w' → e.P w')
    (hd : c.own = true ∨ d.own = true → e.own = true ∨ ∀ b ∈ Γ, b.own = false ∨ True) : Hp S w0 w (e :: Γ) := by
  have hs := List.pairwise_cons.1 H.sep
  have hs2 := List.pairwise_cons.1 hs.2
  have hc := H.ok c (by simp)
  have hd' := H.ok d (by simp)
  refine ⟨H.tch, fun b hb => ?_, List.pairwise_cons.2 ⟨fun b hb h k hk => ?_, hs2.2⟩, fun b hb hb' k hk => ?_⟩
  · rcases List.mem_cons.1 hb with rfl | hb
    · refine ⟨hP hc.holds hd'.holds, fun k hk => ?_, fun w' h1 h2 => hloc w' h1 h2 (hc.loc w' h1 fun k hk => h2 k ((hfp k).2 (.inl hk))) (hd'.loc w' h1 fun k hk => h2 k ((hfp k).2 (.inr hk)))⟩
      rcases (hfp k).1 hk with h | h
      · exact hc.lt k h
      · exact hd'.lt k h
    · exact H.ok b (by simp [hb])
  · rcases (hfp k).1 hk.1 with h' | h'
    · refine hs.1 b (by simp [hb]) ?_ k ⟨h', hk.2⟩
      rcases h with h | h
      · exact .inl (ho h).1
      · exact .inr h
    · refine hs2.1 b hb ?_ k ⟨h', hk.2⟩
      rcases h with h | h
      · exact .inl (ho h).2
      · exact .inr h
  · rcases List.mem_cons.1 hb with rfl | hb
    · rcases (hfp k).1 hk with h | h
      · exact H.dom c (by simp) (hn hb').1 k h
      · exact H.dom d (by simp) (hn hb').2 k h
    · exact H.dom b (by simp [hb]) hb' k hk
end

/-! ### blocks -/
abbrev bk (p : Nat) (t : TypeId) (cs : List Value) : Ck := ⟨(· = p), fun w => Blk w p t cs, true, false⟩
theorem bk_ok {p : Nat} {t : TypeId} {cs : List Value} {w : World} (h : Blk w p t cs) : (bk p t cs).Ok w :=
  ⟨h, fun k hk => by subst hk; exact h.lt, fun w' _ hb => (hb p rfl).trans h⟩
abbrev qu {α : Type} (enc : α → List Value) (sz : Nat) (e : TypeId) (A : Option Addr) (c : Nat) (l : List α) : Ck := ⟨fun k => obk A = some k, fun w => Que enc sz e w 0 A c l, true, false⟩
theorem qu_ok {α : Type} {enc : α → List Value} {sz : Nat} {e : TypeId} {A : Option Addr} {c : Nat} {l : List α} {w : World} (h : Que enc sz e w 0 A c l) : (qu enc sz e A c l).Ok w := by
  refine ⟨h, fun k hk => (h.obk_lt k hk).1, fun w' _ hb => ?_⟩
  obtain ⟨h1, h2, h3⟩ := h
  refine ⟨h1, h2, ?_⟩
  rcases h3 with h3 | ⟨b, off, cs, hA, hB, hblk, h4, h5⟩
  · exact .inl h3
  · exact .inr ⟨b, off, cs, hA, hB, (hb b (by show obk A = some b; rw [hA]; rfl)).trans hblk, h4, h5⟩
theorem Hp.one {S : Nat → Prop} {w w' : World} {c : Ck} (t : Tch S w w') (h : c.Ok w') (hd : ∀ k, c.fp k → S k ∨ w.heap.size ≤ k) : Hp S w w' [c] :=
  ⟨t, by simpa using h, List.pairwise_singleton _ _, fun b hb _ => by have := List.mem_singleton.1 hb; subst this; exact hd⟩
section
variable {S : Nat → Prop} {w0 w w' : World} {Γ : List Ck} {b p o : Nat} {t : TypeId} {cs vs : List Value} {α : Type} {enc : α → List Value} {sz c : Nat} {e : TypeId} {A : Option Addr} {l : List α}
theorem Hp.blk (H : Hp S w0 w Γ) (i : Nat) (h : Γ[i]? = some (bk p t cs)) : Blk w p t cs := H.atC i h
theorem Hp.que (H : Hp S w0 w Γ) (i : Nat) (h : Γ[i]? = some (qu enc sz e A c l)) : Que enc sz e w 0 A c l := H.atC i h
theorem Hp.rdq (H : Hp S w0 w Γ) (i : Nat) (h : Γ[i]? = some (qu enc sz e A c l)) : RdS enc sz w A l := (H.que i h).rd
theorem rd_full (h : Blk w p t (l.flatMap enc)) (hl : ∀ x ∈ l, (enc x).length = sz) : RdS enc sz w (some ⟨p, 0, none⟩) l := (Que.of_full h (Nat.zero_le _) hl).rd
theorem Hp.rdb (H : Hp S w0 w Γ) (i : Nat) (h : Γ[i]? = some (bk p t (l.flatMap enc))) (hl : ∀ x ∈ l, (enc x).length = sz) : RdS enc sz w (some ⟨p, 0, none⟩) l := rd_full (H.blk i h) hl
abbrev rk {α : Type} (enc : α → List Value) (sz : Nat) (A : Option Addr) (l : List α) : Ck := ⟨fun k => l ≠ [] ∧ obk A = some k, fun w => RdS enc sz w A l, false, false⟩
theorem rk_ok (h : RdS enc sz w A l) : (rk enc sz A l).Ok w :=
  ⟨h, fun k hk => h.lt hk.1 k hk.2, fun w' hs hb => by
    by_cases hl : l = []
    · subst hl; exact RdS.nil
    · exact h.keep hs fun b hb' _ => hb b ⟨hl, hb'⟩⟩
theorem rk_new (h : RdS enc sz w' A l) (e : Ext w w') (hf : Fresh w A) : Hp nw w w' [rk enc sz A l] :=
  Hp.one (Tch.of_ext e) (rk_ok h) fun k hk => .inr (hf k hk.2)
theorem Hp.rdr (H : Hp S w0 w Γ) (i : Nat) (h : Γ[i]? = some (rk enc sz A l)) : RdS enc sz w A l := H.atC i h
theorem Ix.rs0 {k : Addr → Prop} (h : RdS enc sz w A l) (h1 : 0 < l.length) (hk : k ((gA A).add (0 * sz))) : Ix A l.length 0 sz k := Ix.rs (i := 0) h rfl h1 hk
theorem Ix.rs1 {k : Addr → Prop} (h : RdS enc sz w A l) (h1 : 1 < l.length) (hk : k ((gA A).add (1 * sz))) : Ix A l.length 1 sz k := Ix.rs (i := 1) h rfl h1 hk
theorem Ix.rs2 {k : Addr → Prop} (h : RdS enc sz w A l) (h1 : 2 < l.length) (hk : k ((gA A).add (2 * sz))) : Ix A l.length 2 sz k := Ix.rs (i := 2) h rfl h1 hk
theorem Al.hp (H : Hp S w0 w Γ) {k : Nat → World → Prop} (h : ∀ p w', Hp S w0 w' (bk p t cs :: Γ) → w0.heap.size ≤ p → k p w') : Al cs t w k :=
  Al.mk fun p w' hp hb e hs => h p w' (H.fr0 (Hp.one (Tch.of_ext e) (bk_ok hb) (fun k hk => .inr (by subst hk; omega))) (.inl rfl)) (by have := H.size; omega)
theorem upd_hp {cs' : List Value} (u : Upd b w w') (h : Blk w' b t cs') : Hp (· = b) w w' [bk b t cs'] :=
  Hp.one ((Tch.refl _ _).upd u (.inl rfl)) (bk_ok h) fun k hk => .inl hk
theorem grow_hp {A2 : Option Addr} {c2 : Nat} {l2 : List α} (g : Grow A w w') (hA : Que enc sz e w 0 A c l) (h : Que enc sz e w' 0 A2 c2 l2) (hb : obk A2 = obk A ∨ obk A2 = some w.heap.size) : Hp (fun k => obk A = some k) w w' [qu enc sz e A2 c2 l2] := by
  refine Hp.one ?_ (qu_ok h) fun k hk => ?_
  · have hg : w.grownBy w' (obk A) := by rw [← obk_eq A 0 0]; exact g
    exact ⟨hg.os, hg.tape, hg.output, hg.size, fun k hk hS => hg.block k hk (fun e => hS e.symm)⟩
  · rcases hb with hb | hb
    · exact .inl (hb ▸ hk)
    · exact .inr (by have : obk A2 = some k := hk; rw [hb] at this; simp at this; omega)
end
section
variable {S : Nat → Prop} {w0 w w' : World} {Γ : List Ck} {c c' d : Ck}
theorem Hp.f0 (H : Hp S w0 w (c :: Γ)) : Hp S w0 w (c :: Γ) := H
theorem Hp.b0 (H : Hp S w0 w (c :: Γ)) : Hp S w0 w (c :: Γ) := H
theorem Hp.d0 (H : Hp S w0 w (c :: Γ)) : Hp S w0 w (Γ) := H.f0.sub (List.sublist_cons_self _ _)
theorem Hp.wr0 (H : Hp S w0 w (c :: Γ)) (H' : Hp c.fp w w' [c']) (ho : c.own = true) (hn : c'.new) : Hp S w0 w' (c' :: Γ) :=
  (Hp.frame (Γ1 := [c]) (Γ2 := Γ) (S' := c.fp) (Γ' := [c']) H.f0 (by simpa using ho) (fun k h => ⟨c, by simp, h⟩) H' (by simpa using hn)).b0
theorem Hp.f1 {a0 : Ck} (H : Hp S w0 w (a0 :: c :: Γ)) : Hp S w0 w (c :: a0 :: Γ) := (H.perm (List.perm_middle (l₁ := [a0])))
theorem Hp.b1 {a0 : Ck} (H : Hp S w0 w (c :: a0 :: Γ)) : Hp S w0 w (a0 :: c :: Γ) := H.perm (List.perm_middle (l₁ := [a0])).symm
theorem Hp.d1 {a0 : Ck} (H : Hp S w0 w (a0 :: c :: Γ)) : Hp S w0 w (a0 :: Γ) := H.f1.sub (List.sublist_cons_self _ _)
theorem Hp.wr1 {a0 : Ck} (H : Hp S w0 w (a0 :: c :: Γ)) (H' : Hp c.fp w w' [c']) (ho : c.own = true) (hn : c'.new) : Hp S w0 w' (a0 :: c' :: Γ) :=
  (Hp.frame (Γ1 := [c]) (Γ2 := a0 :: Γ) (S' := c.fp) (Γ' := [c']) H.f1 (by simpa using ho) (fun k h => ⟨c, by simp, h⟩) H' (by simpa using hn)).b1
theorem Hp.f2 {a0 a1 : Ck} (H : Hp S w0 w (a0 :: a1 :: c :: Γ)) : Hp S w0 w (c :: a0 :: a1 :: Γ) := (H.perm (List.perm_middle (l₁ := [a0, a1])))
theorem Hp.b2 {a0 a1 : Ck} (H : Hp S w0 w (c :: a0 :: a1 :: Γ)) : Hp S w0 w (a0 :: a1 :: c :: Γ) := H.perm (List.perm_middle (l₁ := [a0, a1])).symm
theorem Hp.d2 {a0 a1 : Ck} (H : Hp S w0 w (a0 :: a1 :: c :: Γ)) : Hp S w0 w (a0 :: a1 :: Γ) := H.f2.sub (List.sublist_cons_self _ _)
theorem Hp.wr2 {a0 a1 : Ck} (H : Hp S w0 w (a0 :: a1 :: c :: Γ)) (H' : Hp c.fp w w' [c']) (ho : c.own = true) (hn : c'.new) : Hp S w0 w' (a0 :: a1 :: c' :: Γ) :=
  (Hp.frame (Γ1 := [c]) (Γ2 := a0 :: a1 :: Γ) (S' := c.fp) (Γ' := [c']) H.f2 (by simpa using ho) (fun k h => ⟨c, by simp, h⟩) H' (by simpa using hn)).b2
theorem Hp.f3 {a0 a1 a2 : Ck} (H : Hp S w0 w (a0 :: a1 :: a2 :: c :: Γ)) : Hp S w0 w (c :: a0 :: a1 :: a2 :: Γ) := (H.perm (List.perm_middle (l₁ := [a0, a1, a2])))
theorem Hp.b3 {a0 a1 a2 : Ck} (H : Hp S w0 w (c :: a0 :: a1 :: a2 :: Γ)) : Hp S w0 w (a0 :: a1 :: a2 :: c :: Γ) := H.perm (List.perm_middle (l₁ := [a0, a1, a2])).symm
theorem Hp.d3 {a0 a1 a2 : Ck} (H : Hp S w0 w (a0 :: a1 :: a2 :: c :: Γ)) : Hp S w0 w (a0 :: a1 :: a2 :: Γ) := H.f3.sub (List.sublist_cons_self _ _)
theorem Hp.wr3 {a0 a1 a2 : Ck} (H : Hp S w0 w (a0 :: a1 :: a2 :: c :: Γ)) (H' : Hp c.fp w w' [c']) (ho : c.own = true) (hn : c'.new) : Hp S w0 w' (a0 :: a1 :: a2 :: c' :: Γ) :=
  (Hp.frame (Γ1 := [c]) (Γ2 := a0 :: a1 :: a2 :: Γ) (S' := c.fp) (Γ' := [c']) H.f3 (by simpa using ho) (fun k h => ⟨c, by simp, h⟩) H' (by simpa using hn)).b3
theorem Hp.f4 {a0 a1 a2 a3 : Ck} (H : Hp S w0 w (a0 :: a1 :: a2 :: a3 :: c :: Γ)) : Hp S w0 w (c :: a0 :: a1 :: a2 :: a3 :: Γ) := (H.perm (List.perm_middle (l₁ := [a0, a1, a2, a3])))
theorem Hp.b4 {a0 a1 a2 a3 : Ck} (H : Hp S w0 w (c :: a0 :: a1 :: a2 :: a3 :: Γ)) : Hp S w0 w (a0 :: a1 :: a2 :: a3 :: c :: Γ) := H.perm (List.perm_middle (l₁ := [a0, a1, a2, a3])).symm
theorem Hp.d4 {a0 a1 a2 a3 : Ck} (H : Hp S w0 w (a0 :: a1 :: a2 :: a3 :: c :: Γ)) : Hp S w0 w (a0 :: a1 :: a2 :: a3 :: Γ) := H.f4.sub (List.sublist_cons_self _ _)
theorem Hp.wr4 {a0 a1 a2 a3 : Ck} (H : Hp S w0 w (a0 :: a1 :: a2 :: a3 :: c :: Γ)) (H' : Hp c.fp w w' [c']) (ho : c.own = true) (hn : c'.new) : Hp S w0 w' (a0 :: a1 :: a2 :: a3 :: c' :: Γ) :=
  (Hp.frame (Γ1 := [c]) (Γ2 := a0 :: a1 :: a2 :: a3 :: Γ) (S' := c.fp) (Γ' := [c']) H.f4 (by simpa using ho) (fun k h => ⟨c, by simp, h⟩) H' (by simpa using hn)).b4
theorem Hp.f5 {a0 a1 a2 a3 a4 : Ck} (H : Hp S w0 w (a0 :: a1 :: a2 :: a3 :: a4 :: c :: Γ)) : Hp S w0 w (c :: a0 :: a1 :: a2 :: a3 :: a4 :: Γ) := (H.perm (List.perm_middle (l₁ := [a0, a1, a2, a3, a4])))
theorem Hp.b5 {a0 a1 a2 a3 a4 : Ck} (H : Hp S w0 w (c :: a0 :: a1 :: a2 :: a3 :: a4 :: Γ)) : Hp S w0 w (a0 :: a1 :: a2 :: a3 :: a4 :: c :: Γ) := H.perm (List.perm_middle (l₁ := [a0, a1, a2, a3, a4])).symm
theorem Hp.d5 {a0 a1 a2 a3 a4 : Ck} (H : Hp S w0 w (a0 :: a1 :: a2 :: a3 :: a4 :: c :: Γ)) : Hp S w0 w (a0 :: a1 :: a2 :: a3 :: a4 :: Γ) := H.f5.sub (List.sublist_cons_self _ _)
theorem Hp.wr5 {a0 a1 a2 a3 a4 : Ck} (H : Hp S w0 w (a0 :: a1 :: a2 :: a3 :: a4 :: c :: Γ)) (H' : Hp c.fp w w' [c']) (ho : c.own = true) (hn : c'.new) : Hp S w0 w' (a0 :: a1 :: a2 :: a3 :: a4 :: c' :: Γ) :=
  (Hp.frame (Γ1 := [c]) (Γ2 := a0 :: a1 :: a2 :: a3 :: a4 :: Γ) (S' := c.fp) (Γ' := [c']) H.f5 (by simpa using ho) (fun k h => ⟨c, by simp, h⟩) H' (by simpa using hn)).b5
theorem Hp.f6 {a0 a1 a2 a3 a4 a5 : Ck} (H : Hp S w0 w (a0 :: a1 :: a2 :: a3 :: a4 :: a5 :: c :: Γ)) : Hp S w0 w (c :: a0 :: a1 :: a2 :: a3 :: a4 :: a5 :: Γ) := (H.perm (List.perm_middle (l₁ := [a0, a1, a2, a3, a4, a5])))
theorem Hp.b6 {a0 a1 a2 a3 a4 a5 : Ck} (H : Hp S w0 w (c :: a0 :: a1 :: a2 :: a3 :: a4 :: a5 :: Γ)) : Hp S w0 w (a0 :: a1 :: a2 :: a3 :: a4 :: a5 :: c :: Γ) := H.perm (List.perm_middle (l₁ := [a0, a1, a2, a3, a4, a5])).symm
theorem Hp.d6 {a0 a1 a2 a3 a4 a5 : Ck} (H : Hp S w0 w (a0 :: a1 :: a2 :: a3 :: a4 :: a5 :: c :: Γ)) : Hp S w0 w (a0 :: a1 :: a2 :: a3 :: a4 :: a5 :: Γ) := H.f6.sub (List.sublist_cons_self _ _)
theorem Hp.wr6 {a0 a1 a2 a3 a4 a5 : Ck} (H : Hp S w0 w (a0 :: a1 :: a2 :: a3 :: a4 :: a5 :: c :: Γ)) (H' : Hp c.fp w w' [c']) (ho : c.own = true) (hn : c'.new) : Hp S w0 w' (a0 :: a1 :: a2 :: a3 :: a4 :: a5 :: c' :: Γ) :=
  (Hp.frame (Γ1 := [c]) (Γ2 := a0 :: a1 :: a2 :: a3 :: a4 :: a5 :: Γ) (S' := c.fp) (Γ' := [c']) H.f6 (by simpa using ho) (fun k h => ⟨c, by simp, h⟩) H' (by simpa using hn)).b6
theorem Hp.f7 {a0 a1 a2 a3 a4 a5 a6 : Ck} (H : Hp S w0 w (a0 :: a1 :: a2 :: a3 :: a4 :: a5 :: a6 :: c :: Γ)) : Hp S w0 w (c :: a0 :: a1 :: a2 :: a3 :: a4 :: a5 :: a6 :: Γ) := (H.perm (List.perm_middle (l₁ := [a0, a1, a2, a3, a4, a5, a6])))
theorem Hp.b7 {a0 a1 a2 a3 a4 a5 a6 : Ck} (H : Hp S w0 w (c :: a0 :: a1 :: a2 :: a3 :: a4 :: a5 :: a6 :: Γ)) : Hp S w0 w (a0 :: a1 :: a2 :: a3 :: a4 :: a5 :: a6 :: c :: Γ) := H.perm (List.perm_middle (l₁ := [a0, a1, a2, a3, a4, a5, a6])).symm
theorem Hp.d7 {a0 a1 a2 a3 a4 a5 a6 : Ck} (H : Hp S w0 w (a0 :: a1 :: a2 :: a3 :: a4 :: a5 :: a6 :: c :: Γ)) : Hp S w0 w (a0 :: a1 :: a2 :: a3 :: a4 :: a5 :: a6 :: Γ) := H.f7.sub (List.sublist_cons_self _ _)
theorem Hp.wr7 {a0 a1 a2 a3 a4 a5 a6 : Ck} (H : Hp S w0 w (a0 :: a1 :: a2 :: a3 :: a4 :: a5 :: a6 :: c :: Γ)) (H' : Hp c.fp w w' [c']) (ho : c.own = true) (hn : c'.new) : Hp S w0 w' (a0 :: a1 :: a2 :: a3 :: a4 :: a5 :: a6 :: c' :: Γ) :=
  (Hp.frame (Γ1 := [c]) (Γ2 := a0 :: a1 :: a2 :: a3 :: a4 :: a5 :: a6 :: Γ) (S' := c.fp) (Γ' := [c']) H.f7 (by simpa using ho) (fun k h => ⟨c, by simp, h⟩) H' (by simpa using hn)).b7
theorem Hp.f8 {a0 a1 a2 a3 a4 a5 a6 a7 : Ck} (H : Hp S w0 w (a0 :: a1 :: a2 :: a3 :: a4 :: a5 :: a6 :: a7 :: c :: Γ)) : Hp S w0 w (c :: a0 :: a1 :: a2 :: a3 :: a4 :: a5 :: a6 :: a7 :: Γ) := (H.perm (List.perm_middle (l₁ := [a0, a1, a2, a3, a4, a5, a6, a7])))
theorem Hp.b8 {a0 a1 a2 a3 a4 a5 a6 a7 : Ck} (H : Hp S w0 w (c :: a0 :: a1 :: a2 :: a3 :: a4 :: a5 :: a6 :: a7 :: Γ)) : Hp S w0 w (a0 :: a1 :: a2 :: a3 :: a4 :: a5 :: a6 :: a7 :: c :: Γ) := H.perm (List.perm_middle (l₁ := [a0, a1, a2, a3, a4, a5, a6, a7])).symm
theorem Hp.d8 {a0 a1 a2 a3 a4 a5 a6 a7 : Ck} (H : Hp S w0 w (a0 :: a1 :: a2 :: a3 :: a4 :: a5 :: a6 :: a7 :: c :: Γ)) : Hp S w0 w (a0 :: a1 :: a2 :: a3 :: a4 :: a5 :: a6 :: a7 :: Γ) := H.f8.sub (List.sublist_cons_self _ _)
theorem Hp.wr8 {a0 a1 a2 a3 a4 a5 a6 a7 : Ck} (H : Hp S w0 w (a0 :: a1 :: a2 :: a3 :: a4 :: a5 :: a6 :: a7 :: c :: Γ)) (H' : Hp c.fp w w' [c']) (ho : c.own = true) (hn : c'.new) : Hp S w0 w' (a0 :: a1 :: a2 :: a3 :: a4 :: a5 :: a6 :: a7 :: c' :: Γ) :=
  (Hp.frame (Γ1 := [c]) (Γ2 := a0 :: a1 :: a2 :: a3 :: a4 :: a5 :: a6 :: a7 :: Γ) (S' := c.fp) (Γ' := [c']) H.f8 (by simpa using ho) (fun k h => ⟨c, by simp, h⟩) H' (by simpa using hn)).b8
theorem Hp.wn0 (H : Hp S w0 w (c :: Γ)) (H' : Hp c.fp w w' [c', d]) (ho : c.own = true) (hn : c'.new) (hd : d.new) : Hp S w0 w' (d :: c' :: Γ) :=
  ((Hp.frame (Γ1 := [c]) (Γ2 := Γ) (S' := c.fp) (Γ' := [c', d]) H.f0 (by simpa using ho) (fun k h => ⟨c, by simp, h⟩) H' (by simpa using ⟨hn, hd⟩)).f1 : Hp S w0 w' (d :: c' :: Γ)).perm (List.Perm.cons _ (List.perm_middle (l₁ := [])).symm)
theorem Hp.wn1 {a0 : Ck} (H : Hp S w0 w (a0 :: c :: Γ)) (H' : Hp c.fp w w' [c', d]) (ho : c.own = true) (hn : c'.new) (hd : d.new) : Hp S w0 w' (d :: a0 :: c' :: Γ) :=
  ((Hp.frame (Γ1 := [c]) (Γ2 := a0 :: Γ) (S' := c.fp) (Γ' := [c', d]) H.f1 (by simpa using ho) (fun k h => ⟨c, by simp, h⟩) H' (by simpa using ⟨hn, hd⟩)).f1 : Hp S w0 w' (d :: c' :: a0 :: Γ)).perm (List.Perm.cons _ (List.perm_middle (l₁ := [a0])).symm)
theorem Hp.wn2 {a0 a1 : Ck} (H : Hp S w0 w (a0 :: a1 :: c :: Γ)) (H' : Hp c.fp w w' [c', d]) (ho : c.own = true) (hn : c'.new) (hd : d.new) : Hp S w0 w' (d :: a0 :: a1 :: c' :: Γ) :=
  ((Hp.frame (Γ1 := [c]) (Γ2 := a0 :: a1 :: Γ) (S' := c.fp) (Γ' := [c', d]) H.f2 (by simpa using ho) (fun k h => ⟨c, by simp, h⟩) H' (by simpa using ⟨hn, hd⟩)).f1 : Hp S w0 w' (d :: c' :: a0 :: a1 :: Γ)).perm (List.Perm.cons _ (List.perm_middle (l₁ := [a0, a1])).symm)
theorem Hp.wn3 {a0 a1 a2 : Ck} (H : Hp S w0 w (a0 :: a1 :: a2 :: c :: Γ)) (H' : Hp c.fp w w' [c', d]) (ho : c.own = true) (hn : c'.new) (hd : d.new) : Hp S w0 w' (d :: a0 :: a1 :: a2 :: c' :: Γ) :=
  ((Hp.frame (Γ1 := [c]) (Γ2 := a0 :: a1 :: a2 :: Γ) (S' := c.fp) (Γ' := [c', d]) H.f3 (by simpa using ho) (fun k h => ⟨c, by simp, h⟩) H' (by simpa using ⟨hn, hd⟩)).f1 : Hp S w0 w' (d :: c' :: a0 :: a1 :: a2 :: Γ)).perm (List.Perm.cons _ (List.perm_middle (l₁ := [a0, a1, a2])).symm)
theorem Hp.wn4 {a0 a1 a2 a3 : Ck} (H : Hp S w0 w (a0 :: a1 :: a2 :: a3 :: c :: Γ)) (H' : Hp c.fp w w' [c', d]) (ho : c.own = true) (hn : c'.new) (hd : d.new) : Hp S w0 w' (d :: a0 :: a1 :: a2 :: a3 :: c' :: Γ) :=
  ((Hp.frame (Γ1 := [c]) (Γ2 := a0 :: a1 :: a2 :: a3 :: Γ) (S' := c.fp) (Γ' := [c', d]) H.f4 (by simpa using ho) (fun k h => ⟨c, by simp, h⟩) H' (by simpa using ⟨hn, hd⟩)).f1 : Hp S w0 w' (d :: c' :: a0 :: a1 :: a2 :: a3 :: Γ)).perm (List.Perm.cons _ (List.perm_middle (l₁ := [a0, a1, a2, a3])).symm)
theorem Hp.wn5 {a0 a1 a2 a3 a4 : Ck} (H : Hp S w0 w (a0 :: a1 :: a2 :: a3 :: a4 :: c :: Γ)) (H' : Hp c.fp w w' [c', d]) (ho : c.own = true) (hn : c'.new) (hd : d.new) : Hp S w0 w' (d :: a0 :: a1 :: a2 :: a3 :: a4 :: c' :: Γ) :=
  ((Hp.frame (Γ1 := [c]) (Γ2 := a0 :: a1 :: a2 :: a3 :: a4 :: Γ) (S' := c.fp) (Γ' := [c', d]) H.f5 (by simpa using ho) (fun k h => ⟨c, by simp, h⟩) H' (by simpa using ⟨hn, hd⟩)).f1 : Hp S w0 w' (d :: c' :: a0 :: a1 :: a2 :: a3 :: a4 :: Γ)).perm (List.Perm.cons _ (List.perm_middle (l₁ := [a0, a1, a2, a3, a4])).symm)
theorem Hp.wn6 {a0 a1 a2 a3 a4 a5 : Ck} (H : Hp S w0 w (a0 :: a1 :: a2 :: a3 :: a4 :: a5 :: c :: Γ)) (H' : Hp c.fp w w' [c', d]) (ho : c.own = true) (hn : c'.new) (hd : d.new) : Hp S w0 w' (d :: a0 :: a1 :: a2 :: a3 :: a4 :: a5 :: c' :: Γ) :=
  ((Hp.frame (Γ1 := [c]) (Γ2 := a0 :: a1 :: a2 :: a3 :: a4 :: a5 :: Γ) (S' := c.fp) (Γ' := [c', d]) H.f6 (by simpa using ho) (fun k h => ⟨c, by simp, h⟩) H' (by simpa using ⟨hn, hd⟩)).f1 : Hp S w0 w' (d :: c' :: a0 :: a1 :: a2 :: a3 :: a4 :: a5 :: Γ)).perm (List.Perm.cons _ (List.perm_middle (l₁ := [a0, a1, a2, a3, a4, a5])).symm)
theorem Hp.wn7 {a0 a1 a2 a3 a4 a5 a6 : Ck} (H : Hp S w0 w (a0 :: a1 :: a2 :: a3 :: a4 :: a5 :: a6 :: c :: Γ)) (H' : Hp c.fp w w' [c', d]) (ho : c.own = true) (hn : c'.new) (hd : d.new) : Hp S w0 w' (d :: a0 :: a1 :: a2 :: a3 :: a4 :: a5 :: a6 :: c' :: Γ) :=
  ((Hp.frame (Γ1 := [c]) (Γ2 := a0 :: a1 :: a2 :: a3 :: a4 :: a5 :: a6 :: Γ) (S' := c.fp) (Γ' := [c', d]) H.f7 (by simpa using ho) (fun k h => ⟨c, by simp, h⟩) H' (by simpa using ⟨hn, hd⟩)).f1 : Hp S w0 w' (d :: c' :: a0 :: a1 :: a2 :: a3 :: a4 :: a5 :: a6 :: Γ)).perm (List.Perm.cons _ (List.perm_middle (l₁ := [a0, a1, a2, a3, a4, a5, a6])).symm)
end
section
variable {S : Nat → Prop} {w0 w w' : World} {Γ : List Ck} {b p o : Nat} {t : TypeId} {cs vs : List Value} {α : Type} {enc : α → List Value} {sz c : Nat} {e : TypeId} {A : Option Addr} {l m : List α} {x : α} {k : World → Prop}
theorem putL_el {x : α} : ∀ {l : List α} {i : Nat}, (∀ y ∈ l, (enc y).length = sz) → (enc x).length = sz → i < l.length → putL (l.flatMap enc) (i * sz) (enc x) = (l.set i x).flatMap enc
  | [], i, _, _, hi => by simp at hi
  | y :: r, 0, h, hx, _ => by
    have hy := h y (by simp)
    simp [putL, hx, List.drop_append, hy]
  | y :: r, i + 1, h, hx, hi => by
    have ih := putL_el (l := r) (i := i) (fun z hz => h z (by simp [hz])) hx (by simpa using hi)
    have hy := h y (by simp)
    unfold putL at ih ⊢
    simp only [List.flatMap_cons, List.set_cons_succ]
    rw [← ih, show (i + 1) * sz = (enc y).length + i * sz by rw [hy, Nat.add_mul, Nat.one_mul, Nat.add_comm], List.take_length_add_append]
    rw [show (enc y).length + i * sz + (enc x).length = (enc y).length + (i * sz + (enc x).length) by omega, List.drop_length_add_append]
    simp
theorem St.elb {i : Nat} (h : Blk w p t (l.flatMap enc)) (hs : ∀ y ∈ l, (enc y).length = sz) (hx : (enc x).length = sz) (hi : i < l.length) (h1 : (enc x).all Value.oneCell' = true)
    (hk : ∀ w', Upd p w w' → Blk w' p t ((l.set i x).flatMap enc) → k w') : St w ((gA (some ⟨p, 0, none⟩)).add (i * sz)) (enc x) k := by
  have hlen := flat_len hs
  have h5 : i * sz + sz ≤ l.length * sz := by
    have : (i + 1) * sz ≤ l.length * sz := Nat.mul_le_mul_right sz hi
    rw [Nat.add_mul, Nat.one_mul] at this; exact this
  have e1 : (gA (some ⟨p, 0, none⟩)).add (i * sz) = ⟨p, i * sz, none⟩ := by simp only [gA]; rw [add_lit, Nat.zero_add]
  rw [e1]
  refine St.upd h (Nat.ble_eq_true_of_le (by rw [hlen, hx]; exact h5)) h1 fun w' u hb => hk w' u ?_
  rw [putL_el hs hx hi] at hb
  exact hb
variable {P : Program} {T : Tab} {ku : Value → World → Prop} {Y : List PanicEntry → World → Prop}
theorem Sm.lith (H : Hp S w0 w Γ) (hT : TabOk P T) {t : TypeId} {ti ei : TI} {len : Nat} {parts : List (Nat × Value)} {cs : List Value}
    (ht : getT T.ts t = some ti) (hd : ti.desc = .slice e) (he : getT T.ts e = some ei) (hz : Nat.beq ei.zero.cells.toList.length ei.size = true)
    (hcs : puBuild ((List.range len).map fun i => (i * ei.size, ei.size)) (List.replicate len ei.zero.cells.toList).flatten (parts.map fun (i, v) => (i, some v)) = some cs)
    (hsmall : Nat.ble (len * ei.size) 16777216 = true) (hne : Nat.blt 0 (len * ei.size) = true)
    (hk : ∀ p w', Hp S w0 w' (bk p e cs :: Γ) → w0.heap.size ≤ p → ku (.slice (some ⟨p, 0, none⟩) len len) w') : Sm P (Instr.buildSlice t len parts.toArray) w ku Y :=
  Sm.lit hT ht hd he hz hcs hsmall hne fun p w' hp hb ex _ => hk p w' (H.fr0 (Hp.one (Tch.of_ext ex) (bk_ok hb) (fun k hk => .inr (by subst hk; omega))) (.inl rfl)) (by have := H.size; omega)
theorem Sm.makeh (H : Hp S w0 w Γ) (hT : TabOk P T) {t : TypeId} {ti ei : TI} {n : Nat} {kl kc : IntKind} {a b : Int} {z : α}
    (ht : getT T.ts t = some ti) (hd : ti.desc = .slice e) (he : getT T.ts e = some ei) (ha : a = (n : Int)) (hb : b = (n : Int)) (hsz : ei.size = sz) (hz : ei.zero.cells.toList = enc z) (hzl : (enc z).length = sz) (hpos : 0 < sz)
    (hbytes : ei.bytes * n ≤ 281474976710656) (h63 : n ≤ 140737488355328)
    (hk : ∀ p w', Hp S w0 w' (bk p e ((List.replicate n z).flatMap enc) :: Γ) → w0.heap.size ≤ p → ku (.slice (some ⟨p, 0, none⟩) n n) w') : Sm P (Instr.makeSlice t (.int kl a) (.int kc b)) w ku Y :=
  Sm.make hT ht hd he ha hb hsz hz hzl hpos hbytes h63 fun p w' hp hb ex => hk p w' (H.fr0 (Hp.one (Tch.of_ext ex) (bk_ok hb) (fun k hk => .inr (by subst hk; omega))) (.inl rfl)) (by have := H.size; omega)
theorem Sm.makeqh (H : Hp S w0 w Γ) (hT : TabOk P T) {t : TypeId} {ti ei : TI} {n c : Nat} {kl kc : IntKind} {a b : Int} {z : α}
    (ht : getT T.ts t = some ti) (hd : ti.desc = .slice e) (he : getT T.ts e = some ei) (ha : a = (n : Int)) (hb : b = (c : Int)) (hnc : n ≤ c) (hsz : ei.size = sz) (hz : ei.zero.cells.toList = enc z) (hzl : (enc z).length = sz) (hpos : 0 < sz)
    (hbytes : ei.bytes * c ≤ 281474976710656) (h63 : c ≤ 140737488355328)
    (hk : ∀ p w', Hp S w0 w' (qu enc sz e (some ⟨p, 0, none⟩) c (List.replicate n z) :: Γ) → w0.heap.size ≤ p → ku (.slice (some ⟨p, 0, none⟩) n c) w') : Sm P (Instr.makeSlice t (.int kl a) (.int kc b)) w ku Y :=
  Sm.makeQ hT ht hd he ha hb hnc hsz hz hzl hpos hbytes h63 fun p w' hp hb ex => hk p w' (H.fr0 (Hp.one (Tch.of_ext ex) (qu_ok (hb.mono (Nat.zero_le _))) (fun k hk => .inr (by have : some p = some k := hk; simp at this; omega))) (.inl rfl)) (by have := H.size; omega)
/-- a nil slice is a piece of the call's own -/
theorem Hp.nil (H : Hp S w0 w Γ) (enc : α → List Value) (sz : Nat) (e : TypeId) : Hp S w0 w (qu enc sz e none 0 ([] : List α) :: Γ) :=
  H.fr0 (Hp.one (Tch.refl _ _) (qu_ok Que.nil) (fun k hk => by have : none = some k := hk; simp at this)) (.inl rfl)
theorem St.hp0 (H : Hp S w0 w (bk b t cs :: Γ)) (hl : Nat.ble (o + vs.length) cs.length = true) (h1 : vs.all Value.oneCell' = true) (hk : ∀ w', Hp S w0 w' (bk b t (putL cs o vs) :: Γ) → k w') : St w ⟨b, o, none⟩ vs k :=
  St.upd (H.blk 0 rfl) hl h1 fun w' u hb => hk w' (H.wr0 (upd_hp u hb) rfl (.inl rfl))
theorem St.el0 {j : Nat} (H : Hp S w0 w (bk b t (l.flatMap enc) :: Γ)) (hs : ∀ y ∈ l, (enc y).length = sz) (hx : (enc x).length = sz) (hi : j < l.length) (h1 : (enc x).all Value.oneCell' = true)
    (hk : ∀ w', Hp S w0 w' (bk b t ((l.set j x).flatMap enc) :: Γ) → k w') : St w ((gA (some ⟨b, 0, none⟩)).add (j * sz)) (enc x) k :=
  St.elb (H.blk 0 rfl) hs hx hi h1 fun w' u hb => hk w' (H.wr0 (upd_hp u hb) rfl (.inl rfl))
theorem Sm.app0 (H : Hp S w0 w (qu enc sz e A c l :: Γ)) (hT : TabOk P T) {t ty : TypeId} {ti ei : TI} {X : Option Addr} {n n2 c2 : Nat}
    (ht : getT T.ts t = some ti) (hd : ti.desc = .slice e) (he : getT T.ts e = some ei) (hsz : ei.size = sz) (hz : ei.zero.cells.size = sz) (hpos : 0 < sz)
    (hn : n = l.length) (hr : RdS enc sz w X m) (hn2 : n2 = m.length) (hne : m ≠ []) (hm : ∀ x ∈ m, (enc x).length = sz) (h1 : ∀ x ∈ m, ∀ v ∈ enc x, v.oneCell' = true)
    (hlen : (l.length + m.length) * ei.bytes ≤ 140737488355328) (hlen2 : l.length + m.length ≤ 140737488355328)
    (hk : ∀ A' c' w', Hp S w0 w' (qu enc sz e A' c' (l ++ m) :: Γ) → ku (.slice A' (l ++ m).length c') w') : Sm P (Builtin.append_ #[t, t] ty #[.slice A n c, .slice X n2 c2]) w ku Y :=
  Sm.appQ hT ht hd he hsz hz hpos (H.que 0 rfl) hn hr hn2 hne hm h1 hlen hlen2 (Nat.zero_le _) fun A' c' w' hQ g hb => hk A' c' w' (H.wr0 (grow_hp g (H.que 0 rfl) hQ hb) rfl (.inl rfl))
theorem St.hp1 {a0 : Ck} (H : Hp S w0 w (a0 :: bk b t cs :: Γ)) (hl : Nat.ble (o + vs.length) cs.length = true) (h1 : vs.all Value.oneCell' = true) (hk : ∀ w', Hp S w0 w' (a0 :: bk b t (putL cs o vs) :: Γ) → k w') : St w ⟨b, o, none⟩ vs k :=
  St.upd (H.blk 1 rfl) hl h1 fun w' u hb => hk w' (H.wr1 (upd_hp u hb) rfl (.inl rfl))
theorem St.el1 {a0 : Ck} {j : Nat} (H : Hp S w0 w (a0 :: bk b t (l.flatMap enc) :: Γ)) (hs : ∀ y ∈ l, (enc y).length = sz) (hx : (enc x).length = sz) (hi : j < l.length) (h1 : (enc x).all Value.oneCell' = true)
    (hk : ∀ w', Hp S w0 w' (a0 :: bk b t ((l.set j x).flatMap enc) :: Γ) → k w') : St w ((gA (some ⟨b, 0, none⟩)).add (j * sz)) (enc x) k :=
  St.elb (H.blk 1 rfl) hs hx hi h1 fun w' u hb => hk w' (H.wr1 (upd_hp u hb) rfl (.inl rfl))
theorem Sm.app1 {a0 : Ck} (H : Hp S w0 w (a0 :: qu enc sz e A c l :: Γ)) (hT : TabOk P T) {t ty : TypeId} {ti ei : TI} {X : Option Addr} {n n2 c2 : Nat}
    (ht : getT T.ts t = some ti) (hd : ti.desc = .slice e) (he : getT T.ts e = some ei) (hsz : ei.size = sz) (hz : ei.zero.cells.size = sz) (hpos : 0 < sz)
    (hn : n = l.length) (hr : RdS enc sz w X m) (hn2 : n2 = m.length) (hne : m ≠ []) (hm : ∀ x ∈ m, (enc x).length = sz) (h1 : ∀ x ∈ m, ∀ v ∈ enc x, v.oneCell' = true)
    (hlen : (l.length + m.length) * ei.bytes ≤ 140737488355328) (hlen2 : l.length + m.length ≤ 140737488355328)
    (hk : ∀ A' c' w', Hp S w0 w' (a0 :: qu enc sz e A' c' (l ++ m) :: Γ) → ku (.slice A' (l ++ m).length c') w') : Sm P (Builtin.append_ #[t, t] ty #[.slice A n c, .slice X n2 c2]) w ku Y :=
  Sm.appQ hT ht hd he hsz hz hpos (H.que 1 rfl) hn hr hn2 hne hm h1 hlen hlen2 (Nat.zero_le _) fun A' c' w' hQ g hb => hk A' c' w' (H.wr1 (grow_hp g (H.que 1 rfl) hQ hb) rfl (.inl rfl))
theorem St.hp2 {a0 a1 : Ck} (H : Hp S w0 w (a0 :: a1 :: bk b t cs :: Γ)) (hl : Nat.ble (o + vs.length) cs.length = true) (h1 : vs.all Value.oneCell' = true) (hk : ∀ w', Hp S w0 w' (a0 :: a1 :: bk b t (putL cs o vs) :: Γ) → k w') : St w ⟨b, o, none⟩ vs k :=
  St.upd (H.blk 2 rfl) hl h1 fun w' u hb => hk w' (H.wr2 (upd_hp u hb) rfl (.inl rfl))
theorem St.el2 {a0 a1 : Ck} {j : Nat} (H : Hp S w0 w (a0 :: a1 :: bk b t (l.flatMap enc) :: Γ)) (hs : ∀ y ∈ l, (enc y).length = sz) (hx : (enc x).length = sz) (hi : j < l.length) (h1 : (enc x).all Value.oneCell' = true)
    (hk : ∀ w', Hp S w0 w' (a0 :: a1 :: bk b t ((l.set j x).flatMap enc) :: Γ) → k w') : St w ((gA (some ⟨b, 0, none⟩)).add (j * sz)) (enc x) k :=
  St.elb (H.blk 2 rfl) hs hx hi h1 fun w' u hb => hk w' (H.wr2 (upd_hp u hb) rfl (.inl rfl))
theorem Sm.app2 {a0 a1 : Ck} (H : Hp S w0 w (a0 :: a1 :: qu enc sz e A c l :: Γ)) (hT : TabOk P T) {t ty : TypeId} {ti ei : TI} {X : Option Addr} {n n2 c2 : Nat}
    (ht : getT T.ts t = some ti) (hd : ti.desc = .slice e) (he : getT T.ts e = some ei) (hsz : ei.size = sz) (hz : ei.zero.cells.size = sz) (hpos : 0 < sz)
    (hn : n = l.length) (hr : RdS enc sz w X m) (hn2 : n2 = m.length) (hne : m ≠ []) (hm : ∀ x ∈ m, (enc x).length = sz) (h1 : ∀ x ∈ m, ∀ v ∈ enc x, v.oneCell' = true)
    (hlen : (l.length + m.length) * ei.bytes ≤ 140737488355328) (hlen2 : l.length + m.length ≤ 140737488355328)
    (hk : ∀ A' c' w', Hp S w0 w' (a0 :: a1 :: qu enc sz e A' c' (l ++ m) :: Γ) → ku (.slice A' (l ++ m).length c') w') : Sm P (Builtin.append_ #[t, t] ty #[.slice A n c, .slice X n2 c2]) w ku Y :=
  Sm.appQ hT ht hd he hsz hz hpos (H.que 2 rfl) hn hr hn2 hne hm h1 hlen hlen2 (Nat.zero_le _) fun A' c' w' hQ g hb => hk A' c' w' (H.wr2 (grow_hp g (H.que 2 rfl) hQ hb) rfl (.inl rfl))
theorem St.hp3 {a0 a1 a2 : Ck} (H : Hp S w0 w (a0 :: a1 :: a2 :: bk b t cs :: Γ)) (hl : Nat.ble (o + vs.length) cs.length = true) (h1 : vs.all Value.oneCell' = true) (hk : ∀ w', Hp S w0 w' (a0 :: a1 :: a2 :: bk b t (putL cs o vs) :: Γ) → k w') : St w ⟨b, o, none⟩ vs k :=
  St.upd (H.blk 3 rfl) hl h1 fun w' u hb => hk w' (H.wr3 (upd_hp u hb) rfl (.inl rfl))
theorem St.el3 {a0 a1 a2 : Ck} {j : Nat} (H : Hp S w0 w (a0 :: a1 :: a2 :: bk b t (l.flatMap enc) :: Γ)) (hs : ∀ y ∈ l, (enc y).length = sz) (hx : (enc x).length = sz) (hi : j < l.length) (h1 : (enc x).all Value.oneCell' = true)
    (hk : ∀ w', Hp S w0 w' (a0 :: a1 :: a2 :: bk b t ((l.set j x).flatMap enc) :: Γ) → k w') : St w ((gA (some ⟨b, 0, none⟩)).add (j * sz)) (enc x) k :=
  St.elb (H.blk 3 rfl) hs hx hi h1 fun w' u hb => hk w' (H.wr3 (upd_hp u hb) rfl (.inl rfl))
theorem Sm.app3 {a0 a1 a2 : Ck} (H : Hp S w0 w (a0 :: a1 :: a2 :: qu enc sz e A c l :: Γ)) (hT : TabOk P T) {t ty : TypeId} {ti ei : TI} {X : Option Addr} {n n2 c2 : Nat}
    (ht : getT T.ts t = some ti) (hd : ti.desc = .slice e) (he : getT T.ts e = some ei) (hsz : ei.size = sz) (hz : ei.zero.cells.size = sz) (hpos : 0 < sz)
    (hn : n = l.length) (hr : RdS enc sz w X m) (hn2 : n2 = m.length) (hne : m ≠ []) (hm : ∀ x ∈ m, (enc x).length = sz) (h1 : ∀ x ∈ m, ∀ v ∈ enc x, v.oneCell' = true)
    (hlen : (l.length + m.length) * ei.bytes ≤ 140737488355328) (hlen2 : l.length + m.length ≤ 140737488355328)
    (hk : ∀ A' c' w', Hp S w0 w' (a0 :: a1 :: a2 :: qu enc sz e A' c' (l ++ m) :: Γ) → ku (.slice A' (l ++ m).length c') w') : Sm P (Builtin.append_ #[t, t] ty #[.slice A n c, .slice X n2 c2]) w ku Y :=
  Sm.appQ hT ht hd he hsz hz hpos (H.que 3 rfl) hn hr hn2 hne hm h1 hlen hlen2 (Nat.zero_le _) fun A' c' w' hQ g hb => hk A' c' w' (H.wr3 (grow_hp g (H.que 3 rfl) hQ hb) rfl (.inl rfl))
theorem St.hp4 {a0 a1 a2 a3 : Ck} (H : Hp S w0 w (a0 :: a1 :: a2 :: a3 :: bk b t cs :: Γ)) (hl : Nat.ble (o + vs.length) cs.length = true) (h1 : vs.all Value.oneCell' = true) (hk : ∀ w', Hp S w0 w' (a0 :: a1 :: a2 :: a3 :: bk b t (putL cs o vs) :: Γ) → k w') : St w ⟨b, o, none⟩ vs k :=
  St.upd (H.blk 4 rfl) hl h1 fun w' u hb => hk w' (H.wr4 (upd_hp u hb) rfl (.inl rfl))
theorem St.el4 {a0 a1 a2 a3 : Ck} {j : Nat} (H : Hp S w0 w (a0 :: a1 :: a2 :: a3 :: bk b t (l.flatMap enc) :: Γ)) (hs : ∀ y ∈ l, (enc y).length = sz) (hx : (enc x).length = sz) (hi : j < l.length) (h1 : (enc x).all Value.oneCell' = true)
    (hk : ∀ w', Hp S w0 w' (a0 :: a1 :: a2 :: a3 :: bk b t ((l.set j x).flatMap enc) :: Γ) → k w') : St w ((gA (some ⟨b, 0, none⟩)).add (j * sz)) (enc x) k :=
  St.elb (H.blk 4 rfl) hs hx hi h1 fun w' u hb => hk w' (H.wr4 (upd_hp u hb) rfl (.inl rfl))
theorem Sm.app4 {a0 a1 a2 a3 : Ck} (H : Hp S w0 w (a0 :: a1 :: a2 :: a3 :: qu enc sz e A c l :: Γ)) (hT : TabOk P T) {t ty : TypeId} {ti ei : TI} {X : Option Addr} {n n2 c2 : Nat}
    (ht : getT T.ts t = some ti) (hd : ti.desc = .slice e) (he : getT T.ts e = some ei) (hsz : ei.size = sz) (hz : ei.zero.cells.size = sz) (hpos : 0 < sz)
    (hn : n = l.length) (hr : RdS enc sz w X m) (hn2 : n2 = m.length) (hne : m ≠ []) (hm : ∀ x ∈ m, (enc x).length = sz) (h1 : ∀ x ∈ m, ∀ v ∈ enc x, v.oneCell' = true)
    (hlen : (l.length + m.length) * ei.bytes ≤ 140737488355328) (hlen2 : l.length + m.length ≤ 140737488355328)
    (hk : ∀ A' c' w', Hp S w0 w' (a0 :: a1 :: a2 :: a3 :: qu enc sz e A' c' (l ++ m) :: Γ) → ku (.slice A' (l ++ m).length c') w') : Sm P (Builtin.append_ #[t, t] ty #[.slice A n c, .slice X n2 c2]) w ku Y :=
  Sm.appQ hT ht hd he hsz hz hpos (H.que 4 rfl) hn hr hn2 hne hm h1 hlen hlen2 (Nat.zero_le _) fun A' c' w' hQ g hb => hk A' c' w' (H.wr4 (grow_hp g (H.que 4 rfl) hQ hb) rfl (.inl rfl))
theorem St.hp5 {a0 a1 a2 a3 a4 : Ck} (H : Hp S w0 w (a0 :: a1 :: a2 :: a3 :: a4 :: bk b t cs :: Γ)) (hl : Nat.ble (o + vs.length) cs.length = true) (h1 : vs.all Value.oneCell' = true) (hk : ∀ w', Hp S w0 w' (a0 :: a1 :: a2 :: a3 :: a4 :: bk b t (putL cs o vs) :: Γ) → k w') : St w ⟨b, o, none⟩ vs k :=
  St.upd (H.blk 5 rfl) hl h1 fun w' u hb => hk w' (H.wr5 (upd_hp u hb) rfl (.inl rfl))
theorem St.el5 {a0 a1 a2 a3 a4 : Ck} {j : Nat} (H : Hp S w0 w (a0 :: a1 :: a2 :: a3 :: a4 :: bk b t (l.flatMap enc) :: Γ)) (hs : ∀ y ∈ l, (enc y).length = sz) (hx : (enc x).length = sz) (hi : j < l.length) (h1 : (enc x).all Value.oneCell' = true)
    (hk : ∀ w', Hp S w0 w' (a0 :: a1 :: a2 :: a3 :: a4 :: bk b t ((l.set j x).flatMap enc) :: Γ) → k w') : St w ((gA (some ⟨b, 0, none⟩)).add (j * sz)) (enc x) k :=
  St.elb (H.blk 5 rfl) hs hx hi h1 fun w' u hb => hk w' (H.wr5 (upd_hp u hb) rfl (.inl rfl))
theorem Sm.app5 {a0 a1 a2 a3 a4 : Ck} (H : Hp S w0 w (a0 :: a1 :: a2 :: a3 :: a4 :: qu enc sz e A c l :: Γ)) (hT : TabOk P T) {t ty : TypeId} {ti ei : TI} {X : Option Addr} {n n2 c2 : Nat}
    (ht : getT T.ts t = some ti) (hd : ti.desc = .slice e) (he : getT T.ts e = some ei) (hsz : ei.size = sz) (hz : ei.zero.cells.size = sz) (hpos : 0 < sz)
    (hn : n = l.length) (hr : RdS enc sz w X m) (hn2 : n2 = m.length) (hne : m ≠ []) (hm : ∀ x ∈ m, (enc x).length = sz) (h1 : ∀ x ∈ m, ∀ v ∈ enc x, v.oneCell' = true)
    (hlen : (l.length + m.length) * ei.bytes ≤ 140737488355328) (hlen2 : l.length + m.length ≤ 140737488355328)
    (hk : ∀ A' c' w', Hp S w0 w' (a0 :: a1 :: a2 :: a3 :: a4 :: qu enc sz e A' c' (l ++ m) :: Γ) → ku (.slice A' (l ++ m).length c') w') : Sm P (Builtin.append_ #[t, t] ty #[.slice A n c, .slice X n2 c2]) w ku Y :=
  Sm.appQ hT ht hd he hsz hz hpos (H.que 5 rfl) hn hr hn2 hne hm h1 hlen hlen2 (Nat.zero_le _) fun A' c' w' hQ g hb => hk A' c' w' (H.wr5 (grow_hp g (H.que 5 rfl) hQ hb) rfl (.inl rfl))
theorem St.hp6 {a0 a1 a2 a3 a4 a5 : Ck} (H : Hp S w0 w (a0 :: a1 :: a2 :: a3 :: a4 :: a5 :: bk b t cs :: Γ)) (hl : Nat.ble (o + vs.length) cs.length = true) (h1 : vs.all Value.oneCell' = true) (hk : ∀ w', Hp S w0 w' (a0 :: a1 :: a2 :: a3 :: a4 :: a5 :: bk b t (putL cs o vs) :: Γ) → k w') : St w ⟨b, o, none⟩ vs k :=
  St.upd (H.blk 6 rfl) hl h1 fun w' u hb => hk w' (H.wr6 (upd_hp u hb) rfl (.inl rfl))
theorem St.el6 {a0 a1 a2 a3 a4 a5 : Ck} {j : Nat} (H : Hp S w0 w (a0 :: a1 :: a2 :: a3 :: a4 :: a5 :: bk b t (l.flatMap enc) :: Γ)) (hs : ∀ y ∈ l, (enc y).length = sz) (hx : (enc x).length = sz) (hi : j < l.length) (h1 : (enc x).all Value.oneCell' = true)
    (hk : ∀ w', Hp S w0 w' (a0 :: a1 :: a2 :: a3 :: a4 :: a5 :: bk b t ((l.set j x).flatMap enc) :: Γ) → k w') : St w ((gA (some ⟨b, 0, none⟩)).add (j * sz)) (enc x) k :=
  St.elb (H.blk 6 rfl) hs hx hi h1 fun w' u hb => hk w' (H.wr6 (upd_hp u hb) rfl (.inl rfl))
theorem Sm.app6 {a0 a1 a2 a3 a4 a5 : Ck} (H : Hp S w0 w (a0 :: a1 :: a2 :: a3 :: a4 :: a5 :: qu enc sz e A c l :: Γ)) (hT : TabOk P T) {t ty : TypeId} {ti ei : TI} {X : Option Addr} {n n2 c2 : Nat}
    (ht : getT T.ts t = some ti) (hd : ti.desc = .slice e) (he : getT T.ts e = some ei) (hsz : ei.size = sz) (hz : ei.zero.cells.size = sz) (hpos : 0 < sz)
    (hn : n = l.length) (hr : RdS enc sz w X m) (hn2 : n2 = m.length) (hne : m ≠ []) (hm : ∀ x ∈ m, (enc x).length = sz) (h1 : ∀ x ∈ m, ∀ v ∈ enc x, v.oneCell' = true)
    (hlen : (l.length + m.length) * ei.bytes ≤ 140737488355328) (hlen2 : l.length + m.length ≤ 140737488355328)
    (hk : ∀ A' c' w', Hp S w0 w' (a0 :: a1 :: a2 :: a3 :: a4 :: a5 :: qu enc sz e A' c' (l ++ m) :: Γ) → ku (.slice A' (l ++ m).length c') w') : Sm P (Builtin.append_ #[t, t] ty #[.slice A n c, .slice X n2 c2]) w ku Y :=
  Sm.appQ hT ht hd he hsz hz hpos (H.que 6 rfl) hn hr hn2 hne hm h1 hlen hlen2 (Nat.zero_le _) fun A' c' w' hQ g hb => hk A' c' w' (H.wr6 (grow_hp g (H.que 6 rfl) hQ hb) rfl (.inl rfl))
theorem St.hp7 {a0 a1 a2 a3 a4 a5 a6 : Ck} (H : Hp S w0 w (a0 :: a1 :: a2 :: a3 :: a4 :: a5 :: a6 :: bk b t cs :: Γ)) (hl : Nat.ble (o + vs.length) cs.length = true) (h1 : vs.all Value.oneCell' = true) (hk : ∀ w', Hp S w0 w' (a0 :: a1 :: a2 :: a3 :: a4 :: a5 :: a6 :: bk b t (putL cs o vs) :: Γ) → k w') : St w ⟨b, o, none⟩ vs k :=
  St.upd (H.blk 7 rfl) hl h1 fun w' u hb => hk w' (H.wr7 (upd_hp u hb) rfl (.inl rfl))
theorem St.el7 {a0 a1 a2 a3 a4 a5 a6 : Ck} {j : Nat} (H : Hp S w0 w (a0 :: a1 :: a2 :: a3 :: a4 :: a5 :: a6 :: bk b t (l.flatMap enc) :: Γ)) (hs : ∀ y ∈ l, (enc y).length = sz) (hx : (enc x).length = sz) (hi : j < l.length) (h1 : (enc x).all Value.oneCell' = true)
    (hk : ∀ w', Hp S w0 w' (a0 :: a1 :: a2 :: a3 :: a4 :: a5 :: a6 :: bk b t ((l.set j x).flatMap enc) :: Γ) → k w') : St w ((gA (some ⟨b, 0, none⟩)).add (j * sz)) (enc x) k :=
  St.elb (H.blk 7 rfl) hs hx hi h1 fun w' u hb => hk w' (H.wr7 (upd_hp u hb) rfl (.inl rfl))
theorem Sm.app7 {a0 a1 a2 a3 a4 a5 a6 : Ck} (H : Hp S w0 w (a0 :: a1 :: a2 :: a3 :: a4 :: a5 :: a6 :: qu enc sz e A c l :: Γ)) (hT : TabOk P T) {t ty : TypeId} {ti ei : TI} {X : Option Addr} {n n2 c2 : Nat}
    (ht : getT T.ts t = some ti) (hd : ti.desc = .slice e) (he : getT T.ts e = some ei) (hsz : ei.size = sz) (hz : ei.zero.cells.size = sz) (hpos : 0 < sz)
    (hn : n = l.length) (hr : RdS enc sz w X m) (hn2 : n2 = m.length) (hne : m ≠ []) (hm : ∀ x ∈ m, (enc x).length = sz) (h1 : ∀ x ∈ m, ∀ v ∈ enc x, v.oneCell' = true)
    (hlen : (l.length + m.length) * ei.bytes ≤ 140737488355328) (hlen2 : l.length + m.length ≤ 140737488355328)
    (hk : ∀ A' c' w', Hp S w0 w' (a0 :: a1 :: a2 :: a3 :: a4 :: a5 :: a6 :: qu enc sz e A' c' (l ++ m) :: Γ) → ku (.slice A' (l ++ m).length c') w') : Sm P (Builtin.append_ #[t, t] ty #[.slice A n c, .slice X n2 c2]) w ku Y :=
  Sm.appQ hT ht hd he hsz hz hpos (H.que 7 rfl) hn hr hn2 hne hm h1 hlen hlen2 (Nat.zero_le _) fun A' c' w' hQ g hb => hk A' c' w' (H.wr7 (grow_hp g (H.que 7 rfl) hQ hb) rfl (.inl rfl))
theorem St.hp8 {a0 a1 a2 a3 a4 a5 a6 a7 : Ck} (H : Hp S w0 w (a0 :: a1 :: a2 :: a3 :: a4 :: a5 :: a6 :: a7 :: bk b t cs :: Γ)) (hl : Nat.ble (o + vs.length) cs.length = true) (h1 : vs.all Value.oneCell' = true) (hk : ∀ w', Hp S w0 w' (a0 :: a1 :: a2 :: a3 :: a4 :: a5 :: a6 :: a7 :: bk b t (putL cs o vs) :: Γ) → k w') : St w ⟨b, o, none⟩ vs k :=
  St.upd (H.blk 8 rfl) hl h1 fun w' u hb => hk w' (H.wr8 (upd_hp u hb) rfl (.inl rfl))
theorem St.el8 {a0 a1 a2 a3 a4 a5 a6 a7 : Ck} {j : Nat} (H : Hp S w0 w (a0 :: a1 :: a2 :: a3 :: a4 :: a5 :: a6 :: a7 :: bk b t (l.flatMap enc) :: Γ)) (hs : ∀ y ∈ l, (enc y).length = sz) (hx : (enc x).length = sz) (hi : j < l.length) (h1 : (enc x).all Value.oneCell' = true)
    (hk : ∀ w', Hp S w0 w' (a0 :: a1 :: a2 :: a3 :: a4 :: a5 :: a6 :: a7 :: bk b t ((l.set j x).flatMap enc) :: Γ) → k w') : St w ((gA (some ⟨b, 0, none⟩)).add (j * sz)) (enc x) k :=
  St.elb (H.blk 8 rfl) hs hx hi h1 fun w' u hb => hk w' (H.wr8 (upd_hp u hb) rfl (.inl rfl))
theorem Sm.app8 {a0 a1 a2 a3 a4 a5 a6 a7 : Ck} (H : Hp S w0 w (a0 :: a1 :: a2 :: a3 :: a4 :: a5 :: a6 :: a7 :: qu enc sz e A c l :: Γ)) (hT : TabOk P T) {t ty : TypeId} {ti ei : TI} {X : Option Addr} {n n2 c2 : Nat}
    (ht : getT T.ts t = some ti) (hd : ti.desc = .slice e) (he : getT T.ts e = some ei) (hsz : ei.size = sz) (hz : ei.zero.cells.size = sz) (hpos : 0 < sz)
    (hn : n = l.length) (hr : RdS enc sz w X m) (hn2 : n2 = m.length) (hne : m ≠ []) (hm : ∀ x ∈ m, (enc x).length = sz) (h1 : ∀ x ∈ m, ∀ v ∈ enc x, v.oneCell' = true)
    (hlen : (l.length + m.length) * ei.bytes ≤ 140737488355328) (hlen2 : l.length + m.length ≤ 140737488355328)
    (hk : ∀ A' c' w', Hp S w0 w' (a0 :: a1 :: a2 :: a3 :: a4 :: a5 :: a6 :: a7 :: qu enc sz e A' c' (l ++ m) :: Γ) → ku (.slice A' (l ++ m).length c') w') : Sm P (Builtin.append_ #[t, t] ty #[.slice A n c, .slice X n2 c2]) w ku Y :=
  Sm.appQ hT ht hd he hsz hz hpos (H.que 8 rfl) hn hr hn2 hne hm h1 hlen hlen2 (Nat.zero_le _) fun A' c' w' hQ g hb => hk A' c' w' (H.wr8 (grow_hp g (H.que 8 rfl) hQ hb) rfl (.inl rfl))
/-- append(l, x) by a literal of one element, which is struck behind it -/
theorem Sm.ap10 {q : Nat} (H : Hp S w0 w (bk q e (enc x) :: qu enc sz e A c l :: Γ)) (hT : TabOk P T) {t ty : TypeId} {ti ei : TI} {n c2 : Nat}
    (ht : getT T.ts t = some ti) (hd : ti.desc = .slice e) (he : getT T.ts e = some ei) (hsz : ei.size = sz) (hz : ei.zero.cells.size = sz) (hpos : 0 < sz)
    (hn : n = l.length) (hx : (enc x).length = sz) (h1 : (enc x).all Value.oneCell' = true)
    (hlen : (l.length + 1) * ei.bytes ≤ 140737488355328) (hlen2 : l.length + 1 ≤ 140737488355328)
    (hk : ∀ A' c' w', Hp S w0 w' (qu enc sz e A' c' (l ++ [x]) :: Γ) → ku (.slice A' (n + 1) c') w') : Sm P (Builtin.append_ #[t, t] ty #[.slice A n c, .slice (some ⟨q, 0, none⟩) 1 c2]) w ku Y := by
  have hb : Blk w q e ([x].flatMap enc) := by simpa using H.blk 0 rfl
  refine Sm.app1 H hT (m := [x]) ht hd he hsz hz hpos hn (rd_full hb (by simpa using hx)) rfl (by simp) (by simpa using hx) (by simpa using h1) hlen hlen2 fun A' c' w' H' => ?_
  have := hk A' c' w' H'.d0
  rw [hn] at this
  simpa using this
/-- append(l, x) by a literal of one element, which is struck behind it -/
theorem Sm.ap11 {a0 : Ck} {q : Nat} (H : Hp S w0 w (bk q e (enc x) :: a0 :: qu enc sz e A c l :: Γ)) (hT : TabOk P T) {t ty : TypeId} {ti ei : TI} {n c2 : Nat}
    (ht : getT T.ts t = some ti) (hd : ti.desc = .slice e) (he : getT T.ts e = some ei) (hsz : ei.size = sz) (hz : ei.zero.cells.size = sz) (hpos : 0 < sz)
    (hn : n = l.length) (hx : (enc x).length = sz) (h1 : (enc x).all Value.oneCell' = true)
    (hlen : (l.length + 1) * ei.bytes ≤ 140737488355328) (hlen2 : l.length + 1 ≤ 140737488355328)
    (hk : ∀ A' c' w', Hp S w0 w' (a0 :: qu enc sz e A' c' (l ++ [x]) :: Γ) → ku (.slice A' (n + 1) c') w') : Sm P (Builtin.append_ #[t, t] ty #[.slice A n c, .slice (some ⟨q, 0, none⟩) 1 c2]) w ku Y := by
  have hb : Blk w q e ([x].flatMap enc) := by simpa using H.blk 0 rfl
  refine Sm.app2 H hT (m := [x]) ht hd he hsz hz hpos hn (rd_full hb (by simpa using hx)) rfl (by simp) (by simpa using hx) (by simpa using h1) hlen hlen2 fun A' c' w' H' => ?_
  have := hk A' c' w' H'.d0
  rw [hn] at this
  simpa using this
/-- append(l, x) by a literal of one element, which is struck behind it -/
theorem Sm.ap12 {a0 a1 : Ck} {q : Nat} (H : Hp S w0 w (bk q e (enc x) :: a0 :: a1 :: qu enc sz e A c l :: Γ)) (hT : TabOk P T) {t ty : TypeId} {ti ei : TI} {n c2 : Nat}
    (ht : getT T.ts t = some ti) (hd : ti.desc = .slice e) (he : getT T.ts e = some ei) (hsz : ei.size = sz) (hz : ei.zero.cells.size = sz) (hpos : 0 < sz)
    (hn : n = l.length) (hx : (enc x).length = sz) (h1 : (enc x).all Value.oneCell' = true)
    (hlen : (l.length + 1) * ei.bytes ≤ 140737488355328) (hlen2 : l.length + 1 ≤ 140737488355328)
    (hk : ∀ A' c' w', Hp S w0 w' (a0 :: a1 :: qu enc sz e A' c' (l ++ [x]) :: Γ) → ku (.slice A' (n + 1) c') w') : Sm P (Builtin.append_ #[t, t] ty #[.slice A n c, .slice (some ⟨q, 0, none⟩) 1 c2]) w ku Y := by
  have hb : Blk w q e ([x].flatMap enc) := by simpa using H.blk 0 rfl
  refine Sm.app3 H hT (m := [x]) ht hd he hsz hz hpos hn (rd_full hb (by simpa using hx)) rfl (by simp) (by simpa using hx) (by simpa using h1) hlen hlen2 fun A' c' w' H' => ?_
  have := hk A' c' w' H'.d0
  rw [hn] at this
  simpa using this
/-- append(l, x) by a literal of one element, which is struck behind it -/
theorem Sm.ap13 {a0 a1 a2 : Ck} {q : Nat} (H : Hp S w0 w (bk q e (enc x) :: a0 :: a1 :: a2 :: qu enc sz e A c l :: Γ)) (hT : TabOk P T) {t ty : TypeId} {ti ei : TI} {n c2 : Nat}
    (ht : getT T.ts t = some ti) (hd : ti.desc = .slice e) (he : getT T.ts e = some ei) (hsz : ei.size = sz) (hz : ei.zero.cells.size = sz) (hpos : 0 < sz)
    (hn : n = l.length) (hx : (enc x).length = sz) (h1 : (enc x).all Value.oneCell' = true)
    (hlen : (l.length + 1) * ei.bytes ≤ 140737488355328) (hlen2 : l.length + 1 ≤ 140737488355328)
    (hk : ∀ A' c' w', Hp S w0 w' (a0 :: a1 :: a2 :: qu enc sz e A' c' (l ++ [x]) :: Γ) → ku (.slice A' (n + 1) c') w') : Sm P (Builtin.append_ #[t, t] ty #[.slice A n c, .slice (some ⟨q, 0, none⟩) 1 c2]) w ku Y := by
  have hb : Blk w q e ([x].flatMap enc) := by simpa using H.blk 0 rfl
  refine Sm.app4 H hT (m := [x]) ht hd he hsz hz hpos hn (rd_full hb (by simpa using hx)) rfl (by simp) (by simpa using hx) (by simpa using h1) hlen hlen2 fun A' c' w' H' => ?_
  have := hk A' c' w' H'.d0
  rw [hn] at this
  simpa using this
/-- append(l, x) by a literal of one element, which is struck behind it -/
theorem Sm.ap14 {a0 a1 a2 a3 : Ck} {q : Nat} (H : Hp S w0 w (bk q e (enc x) :: a0 :: a1 :: a2 :: a3 :: qu enc sz e A c l :: Γ)) (hT : TabOk P T) {t ty : TypeId} {ti ei : TI} {n c2 : Nat}
    (ht : getT T.ts t = some ti) (hd : ti.desc = .slice e) (he : getT T.ts e = some ei) (hsz : ei.size = sz) (hz : ei.zero.cells.size = sz) (hpos : 0 < sz)
    (hn : n = l.length) (hx : (enc x).length = sz) (h1 : (enc x).all Value.oneCell' = true)
    (hlen : (l.length + 1) * ei.bytes ≤ 140737488355328) (hlen2 : l.length + 1 ≤ 140737488355328)
    (hk : ∀ A' c' w', Hp S w0 w' (a0 :: a1 :: a2 :: a3 :: qu enc sz e A' c' (l ++ [x]) :: Γ) → ku (.slice A' (n + 1) c') w') : Sm P (Builtin.append_ #[t, t] ty #[.slice A n c, .slice (some ⟨q, 0, none⟩) 1 c2]) w ku Y := by
  have hb : Blk w q e ([x].flatMap enc) := by simpa using H.blk 0 rfl
  refine Sm.app5 H hT (m := [x]) ht hd he hsz hz hpos hn (rd_full hb (by simpa using hx)) rfl (by simp) (by simpa using hx) (by simpa using h1) hlen hlen2 fun A' c' w' H' => ?_
  have := hk A' c' w' H'.d0
  rw [hn] at this
  simpa using this
/-- append(l, x) by a literal of one element, which is struck behind it -/
theorem Sm.ap15 {a0 a1 a2 a3 a4 : Ck} {q : Nat} (H : Hp S w0 w (bk q e (enc x) :: a0 :: a1 :: a2 :: a3 :: a4 :: qu enc sz e A c l :: Γ)) (hT : TabOk P T) {t ty : TypeId} {ti ei : TI} {n c2 : Nat}
    (ht : getT T.ts t = some ti) (hd : ti.desc = .slice e) (he : getT T.ts e = some ei) (hsz : ei.size = sz) (hz : ei.zero.cells.size = sz) (hpos : 0 < sz)
    (hn : n = l.length) (hx : (enc x).length = sz) (h1 : (enc x).all Value.oneCell' = true)
    (hlen : (l.length + 1) * ei.bytes ≤ 140737488355328) (hlen2 : l.length + 1 ≤ 140737488355328)
    (hk : ∀ A' c' w', Hp S w0 w' (a0 :: a1 :: a2 :: a3 :: a4 :: qu enc sz e A' c' (l ++ [x]) :: Γ) → ku (.slice A' (n + 1) c') w') : Sm P (Builtin.append_ #[t, t] ty #[.slice A n c, .slice (some ⟨q, 0, none⟩) 1 c2]) w ku Y := by
  have hb : Blk w q e ([x].flatMap enc) := by simpa using H.blk 0 rfl
  refine Sm.app6 H hT (m := [x]) ht hd he hsz hz hpos hn (rd_full hb (by simpa using hx)) rfl (by simp) (by simpa using hx) (by simpa using h1) hlen hlen2 fun A' c' w' H' => ?_
  have := hk A' c' w' H'.d0
  rw [hn] at this
  simpa using this
/-- append(l, x) by a literal of one element, which is struck behind it -/
theorem Sm.ap16 {a0 a1 a2 a3 a4 a5 : Ck} {q : Nat} (H : Hp S w0 w (bk q e (enc x) :: a0 :: a1 :: a2 :: a3 :: a4 :: a5 :: qu enc sz e A c l :: Γ)) (hT : TabOk P T) {t ty : TypeId} {ti ei : TI} {n c2 : Nat}
    (ht : getT T.ts t = some ti) (hd : ti.desc = .slice e) (he : getT T.ts e = some ei) (hsz : ei.size = sz) (hz : ei.zero.cells.size = sz) (hpos : 0 < sz)
    (hn : n = l.length) (hx : (enc x).length = sz) (h1 : (enc x).all Value.oneCell' = true)
    (hlen : (l.length + 1) * ei.bytes ≤ 140737488355328) (hlen2 : l.length + 1 ≤ 140737488355328)
    (hk : ∀ A' c' w', Hp S w0 w' (a0 :: a1 :: a2 :: a3 :: a4 :: a5 :: qu enc sz e A' c' (l ++ [x]) :: Γ) → ku (.slice A' (n + 1) c') w') : Sm P (Builtin.append_ #[t, t] ty #[.slice A n c, .slice (some ⟨q, 0, none⟩) 1 c2]) w ku Y := by
  have hb : Blk w q e ([x].flatMap enc) := by simpa using H.blk 0 rfl
  refine Sm.app7 H hT (m := [x]) ht hd he hsz hz hpos hn (rd_full hb (by simpa using hx)) rfl (by simp) (by simpa using hx) (by simpa using h1) hlen hlen2 fun A' c' w' H' => ?_
  have := hk A' c' w' H'.d0
  rw [hn] at this
  simpa using this
/-- append(l, x) by a literal of one element, which is struck behind it -/
theorem Sm.ap17 {a0 a1 a2 a3 a4 a5 a6 : Ck} {q : Nat} (H : Hp S w0 w (bk q e (enc x) :: a0 :: a1 :: a2 :: a3 :: a4 :: a5 :: a6 :: qu enc sz e A c l :: Γ)) (hT : TabOk P T) {t ty : TypeId} {ti ei : TI} {n c2 : Nat}
    (ht : getT T.ts t = some ti) (hd : ti.desc = .slice e) (he : getT T.ts e = some ei) (hsz : ei.size = sz) (hz : ei.zero.cells.size = sz) (hpos : 0 < sz)
    (hn : n = l.length) (hx : (enc x).length = sz) (h1 : (enc x).all Value.oneCell' = true)
    (hlen : (l.length + 1) * ei.bytes ≤ 140737488355328) (hlen2 : l.length + 1 ≤ 140737488355328)
    (hk : ∀ A' c' w', Hp S w0 w' (a0 :: a1 :: a2 :: a3 :: a4 :: a5 :: a6 :: qu enc sz e A' c' (l ++ [x]) :: Γ) → ku (.slice A' (n + 1) c') w') : Sm P (Builtin.append_ #[t, t] ty #[.slice A n c, .slice (some ⟨q, 0, none⟩) 1 c2]) w ku Y := by
  have hb : Blk w q e ([x].flatMap enc) := by simpa using H.blk 0 rfl
  refine Sm.app8 H hT (m := [x]) ht hd he hsz hz hpos hn (rd_full hb (by simpa using hx)) rfl (by simp) (by simpa using hx) (by simpa using h1) hlen hlen2 fun A' c' w' H' => ?_
  have := hk A' c' w' H'.d0
  rw [hn] at this
  simpa using this
end
end Go.Sh
