/- own work: ShR, ShU, ShV, ShX, ShS, ShY, ShT, TxA, TxB, TxC, TyA, TyB -/
import Derived.OrdersHeld
import Derived.Recover
import Derived.Test.YtfnjodpehomgfaaDoorProg
import Derived.Test.YtfnjodpehomgfaaDoorMT1
namespace Go.Sh
open Go.RowKit
set_option linter.unusedSectionVars false
set_option linter.unusedVariables false
set_option linter.unusedSimpArgs false
/-- a piece of memory: the blocks it stands on, what it says; own: it may be written; old: it may lie in memory that was there before the call -/
structure Ck where
  fp : Nat → Prop
  P : World → Prop
  own : Bool
  old : Bool
structure Ck.Ok (c : Ck) (w : World) : Prop where
  holds : c.P w
  lt : ∀ k, c.fp k → k < w.heap.size
  loc : ∀ w', w.heap.size ≤ w'.heap.size → (∀ k, c.fp k → w'.heap[k]? = w.heap[k]?) → c.P w'
theorem Ck.Ok.move {c : Ck} {w w' : World} (h : c.Ok w) (hs : w.heap.size ≤ w'.heap.size) (hb : ∀ k, c.fp k → w'.heap[k]? = w.heap[k]?) : c.Ok w' :=
  ⟨h.loc w' hs hb, fun k hk => Nat.lt_of_lt_of_le (h.lt k hk) hs, fun w'' hs' hb' => h.loc w'' (Nat.le_trans hs hs') fun k hk => (hb' k hk).trans (hb k hk)⟩
abbrev nw : Nat → Prop := fun _ => False
abbrev Ck.new (c : Ck) : Prop := c.own = true ∨ c.old = false
structure Hp (S : Nat → Prop) (w0 w : World) (Γ : List Ck) : Prop where
  tch : Tch S w0 w
  ok : ∀ c ∈ Γ, c.Ok w
  sep : Γ.Pairwise fun a b => (a.own = true ∨ b.own = true) → ∀ k, ¬ (a.fp k ∧ b.fp k)
  dom : ∀ c ∈ Γ, c.new → ∀ k, c.fp k → S k ∨ w0.heap.size ≤ k
section
variable {S S' : Nat → Prop} {w0 w w' wb : World} {Γ Γ' Γ1 Γ2 : List Ck} {c c' d : Ck}
theorem Hp.begin (S : Nat → Prop) (w : World) : Hp S w w [] := ⟨Tch.refl S w, by simp, List.Pairwise.nil, by simp⟩
theorem Hp.frame (H : Hp S w0 w (Γ1 ++ Γ2)) (h1 : ∀ c ∈ Γ1, c.own = true) (hS : ∀ k, S' k → ∃ c ∈ Γ1, c.fp k) (H' : Hp S' w w' Γ') (hn : ∀ c ∈ Γ', c.new) : Hp S w0 w' (Γ' ++ Γ2) := by
  have hsep := List.pairwise_append.1 H.sep
  have hout : ∀ b ∈ Γ2, ∀ k, b.fp k → ¬ S' k := fun b hb k hk hs => by
    obtain ⟨c, hc, hck⟩ := hS k hs
    exact hsep.2.2 c hc b hb (.inl (h1 c hc)) k ⟨hck, hk⟩
  have hdom : ∀ k, S' k → S k ∨ w0.heap.size ≤ k := fun k hs => by
    obtain ⟨c, hc, hck⟩ := hS k hs
    exact H.dom c (List.mem_append_left _ hc) (.inl (h1 c hc)) k hck
  have hsz := H.tch.size
  refine ⟨⟨H'.tch.os.trans H.tch.os, H'.tch.tape.trans H.tch.tape, H'.tch.output.trans H.tch.output, Nat.le_trans H.tch.size H'.tch.size, fun k hk hn => ?_⟩, fun b hb => ?_, ?_, fun b hb hn' k hk => ?_⟩
  · rw [H'.tch.block k (by omega) (fun hs => by rcases hdom k hs with h | h; exact hn h; omega)]
    exact H.tch.block k hk hn
  · rcases List.mem_append.1 hb with hb | hb
    · exact H'.ok b hb
    · have h := H.ok b (List.mem_append_right _ hb)
      exact h.move H'.tch.size fun k hk => H'.tch.block k (h.lt k hk) (hout b hb k hk)
  · refine List.pairwise_append.2 ⟨H'.sep, hsep.2.1, fun a ha b hb _ k ⟨h2, h3⟩ => ?_⟩
    have h4 := (H.ok b (List.mem_append_right _ hb)).lt k h3
    rcases H'.dom a ha (hn a ha) k h2 with h | h
    · exact hout b hb k h3 h
    · omega
  · rcases List.mem_append.1 hb with hb | hb
    · rcases H'.dom b hb hn' k hk with h | h
      · exact hdom k h
      · exact .inr (by omega)
    · exact H.dom b (List.mem_append_right _ hb) hn' k hk
theorem Hp.ext (H : Hp S w0 w Γ) (e : Ext w w') : Hp S w0 w' Γ :=
  Hp.frame (Γ1 := []) (Γ' := []) (S' := nw) H (by simp) (fun k h => h.elim) ⟨Tch.of_ext e, by simp, List.Pairwise.nil, by simp⟩ (by simp)
theorem Hp.e (H : Hp nw w0 w Γ) : Ext w0 w := Ext.tch (Ext.refl w0) H.tch (fun k h => h.elim)
theorem Hp.base (H : Hp S w0 w Γ) (hb : Ext wb w0) (hS : ∀ k, S k → wb.heap.size ≤ k) : Ext wb w := Ext.tch hb H.tch hS
def BaseOk (S : Nat → Prop) (wb w0 : World) : Prop := Ext wb w0 ∧ ∀ k, S k → wb.heap.size ≤ k
theorem Hp.base2 (H : Hp S w0 w Γ) (h : BaseOk S wb w0) : Ext wb w := H.base h.1 h.2
theorem Hp.size (H : Hp S w0 w Γ) : w0.heap.size ≤ w.heap.size := H.tch.size
theorem Hp.perm (H : Hp S w0 w Γ) (h : List.Perm Γ Γ') : Hp S w0 w Γ' :=
  ⟨H.tch, fun c hc => H.ok c (h.mem_iff.2 hc), (h.pairwise_iff (fun {a b} q r k z => q r.symm k ⟨z.2, z.1⟩)).1 H.sep, fun c hc => H.dom c (h.mem_iff.2 hc)⟩
theorem Hp.sub (H : Hp S w0 w Γ) (h : List.Sublist Γ' Γ) : Hp S w0 w Γ' :=
  ⟨H.tch, fun c hc => H.ok c (h.mem hc), H.sep.sublist h, fun c hc => H.dom c (h.mem hc)⟩
theorem Hp.non (H : Hp S w0 w Γ) : Hp S w0 w [] := H.sub (List.nil_sublist _)
theorem Hp.atC (H : Hp S w0 w Γ) (i : Nat) (h : Γ[i]? = some c) : c.P w := (H.ok c (List.mem_of_getElem? h)).holds
def selN : List Ck → List Nat → List Ck
  | _, [] => []
  | Γ, i :: r => match Γ[i]? with | some c => c :: selN (Γ.eraseIdx i) r | none => []
theorem erase_perm {α : Type} : ∀ {l : List α} {i : Nat} {x : α}, l[i]? = some x → List.Perm l (x :: l.eraseIdx i)
  | [], i, x, h => by simp at h
  | y :: r, 0, x, h => by simp at h; subst h; simp
  | y :: r, i + 1, x, h => by
    have ih := erase_perm (l := r) (i := i) (x := x) (by simpa using h)
    simp only [List.eraseIdx_cons_succ]
    exact (List.Perm.cons y ih).trans (List.Perm.swap x y _)
theorem selN_sub : ∀ (is : List Nat) (Γ : List Ck), ∃ Δ, List.Perm Γ (selN Γ is ++ Δ)
  | [], Γ => ⟨Γ, by simp [selN]⟩
  | i :: r, Γ => by
    unfold selN
    split
    · rename_i c hc
      obtain ⟨Δ, h⟩ := selN_sub r (Γ.eraseIdx i)
      refine ⟨Δ, ?_⟩
      exact (erase_perm hc).trans (List.Perm.cons _ h)
    · exact ⟨Γ, by simp⟩
/-- the pieces at these places, each place counted in what is left -/
theorem Hp.sel (H : Hp S w0 w Γ) (is : List Nat) (h : selN Γ is = Γ') : Hp S w0 w Γ' := by
  obtain ⟨Δ, hp⟩ := selN_sub is Γ
  subst h
  exact (H.perm hp).sub (List.sublist_append_left _ _)
/-- a new piece -/
theorem Hp.fr0 (H : Hp S w0 w Γ) (H' : Hp nw w w' [c]) (hn : c.new) : Hp S w0 w' (c :: Γ) :=
  Hp.frame (Γ1 := []) (S' := nw) H (by simp) (fun k h => h.elim) H' (by simpa using hn)
theorem Hp.fr0L (H : Hp S w0 w Γ) (H' : Hp nw w w' Γ') (hn : ∀ c ∈ Γ', c.new) : Hp S w0 w' (Γ' ++ Γ) :=
  Hp.frame (Γ1 := []) (S' := nw) H (by simp) (fun k h => h.elim) H' hn
/-- a piece is no more written -/
def Ck.frz (c : Ck) : Ck := { c with own := false, old := false }
theorem Hp.frz (H : Hp S w0 w (c :: Γ)) (hn : c.new) : Hp S w0 w (c.frz :: Γ) := by
  have hs := List.pairwise_cons.1 H.sep
  refine ⟨H.tch, fun b hb => ?_, List.pairwise_cons.2 ⟨fun b hb h k hk => hs.1 b hb (.inr (by simpa [Ck.frz] using h)) k hk, hs.2⟩, fun b hb hb' => ?_⟩
  · rcases List.mem_cons.1 hb with rfl | hb
    · have := H.ok c (by simp); exact ⟨this.holds, this.lt, this.loc⟩
    · exact H.ok b (by simp [hb])
  · rcases List.mem_cons.1 hb with rfl | hb
    · exact H.dom c (by simp) hn
    · exact H.dom b (by simp [hb]) hb'
/-- two pieces as one -/
theorem Hp.join2 (H : Hp S w0 w (c :: d :: Γ)) {e : Ck} (hco : c.own = true) (hdo : d.own = true) (heo : e.new) (hfp : ∀ k, e.fp k → c.fp k ∨ d.fp k) (hok : (∀ k, ¬ (c.fp k ∧ d.fp k)) → c.Ok w → d.Ok w → e.Ok w) : Hp S w0 w (e :: Γ) := by
  have hs := List.pairwise_cons.1 H.sep
  have hs2 := List.pairwise_cons.1 hs.2
  refine ⟨H.tch, fun b hb => ?_, List.pairwise_cons.2 ⟨fun b hb h k hk => ?_, hs2.2⟩, fun b hb hb' k hk => ?_⟩
  · rcases List.mem_cons.1 hb with rfl | hb
    · exact hok (fun k => hs.1 d (by simp) (.inl hco) k) (H.ok c (by simp)) (H.ok d (by simp))
    · exact H.ok b (by simp [hb])
  · rcases hfp k hk.1 with h' | h'
    · exact hs.1 b (by simp [hb]) (.inl hco) k ⟨h', hk.2⟩
    · exact hs2.1 b hb (.inl hdo) k ⟨h', hk.2⟩
  · rcases List.mem_cons.1 hb with rfl | hb
    · rcases hfp k hk with h | h
      · exact H.dom c (by simp) (.inl hco) k h
      · exact H.dom d (by simp) (.inl hdo) k h
    · exact H.dom b (by simp [hb]) hb' k hk
end

theorem lit0 : (0 : Int) = ((0 : Nat) : Int) := rfl
theorem lit1 : (1 : Int) = ((1 : Nat) : Int) := rfl
theorem lit2 : (2 : Int) = ((2 : Nat) : Int) := rfl
/-! ### blocks -/
abbrev bk (p : Nat) (t : TypeId) (cs : List Value) : Ck := ⟨(· = p), fun w => Blk w p t cs, true, false⟩
theorem bk_ok {p : Nat} {t : TypeId} {cs : List Value} {w : World} (h : Blk w p t cs) : (bk p t cs).Ok w :=
  ⟨h, fun k hk => by subst hk; exact h.lt, fun w' _ hb => (hb p rfl).trans h⟩
abbrev qu {α : Type} (enc : α → List Value) (sz : Nat) (e : TypeId) (A : Option Addr) (c : Nat) (l : List α) : Ck := ⟨fun k => obk A = some k, fun w => Que enc sz e w 0 A c l, true, false⟩
theorem qu_ok {α : Type} {enc : α → List Value} {sz : Nat} {e : TypeId} {A : Option Addr} {c : Nat} {l : List α} {w : World} (h : Que enc sz e w 0 A c l) : (qu enc sz e A c l).Ok w := by
  refine ⟨h, fun k hk => (h.obk_lt k hk).1, fun w' _ hb => ?_⟩
  obtain ⟨h1, h2, h3⟩ := h
  refine ⟨h1, h2, ?_⟩
  rcases h3 with h3 | ⟨b, off, cs, hA, hB, hblk, h4, h5⟩
  · exact .inl h3
  · exact .inr ⟨b, off, cs, hA, hB, (hb b (by show obk A = some b; rw [hA]; rfl)).trans hblk, h4, h5⟩
theorem Hp.one {S : Nat → Prop} {w w' : World} {c : Ck} (t : Tch S w w') (h : c.Ok w') (hd : ∀ k, c.fp k → S k ∨ w.heap.size ≤ k) : Hp S w w' [c] :=
  ⟨t, by simpa using h, List.pairwise_singleton _ _, fun b hb _ => by have := List.mem_singleton.1 hb; subst this; exact hd⟩
theorem Hp.start {S : Nat → Prop} {w : World} {c : Ck} (h : c.Ok w) (hd : ∀ k, c.fp k → S k) : Hp S w w [c] := Hp.one (Tch.refl S w) h fun k hk => .inl (hd k hk)
section
variable {S : Nat → Prop} {w0 w w' : World} {Γ : List Ck} {b p o : Nat} {t : TypeId} {cs vs : List Value} {α : Type} {enc : α → List Value} {sz c : Nat} {e : TypeId} {A : Option Addr} {l : List α}
theorem Hp.blk (H : Hp S w0 w Γ) (i : Nat) (h : Γ[i]? = some (bk p t cs)) : Blk w p t cs := H.atC i h
theorem Hp.que (H : Hp S w0 w Γ) (i : Nat) (h : Γ[i]? = some (qu enc sz e A c l)) : Que enc sz e w 0 A c l := H.atC i h
theorem Hp.rdq (H : Hp S w0 w Γ) (i : Nat) (h : Γ[i]? = some (qu enc sz e A c l)) : RdS enc sz w A l := (H.que i h).rd
theorem rd_full (h : Blk w p t (l.flatMap enc)) (hl : ∀ x ∈ l, (enc x).length = sz) : RdS enc sz w (some ⟨p, 0, none⟩) l := (Que.of_full h (Nat.zero_le _) hl).rd
theorem Hp.rdb (H : Hp S w0 w Γ) (i : Nat) (h : Γ[i]? = some (bk p t (l.flatMap enc))) (hl : ∀ x ∈ l, (enc x).length = sz) : RdS enc sz w (some ⟨p, 0, none⟩) l := rd_full (H.blk i h) hl
abbrev rk {α : Type} (enc : α → List Value) (sz : Nat) (A : Option Addr) (l : List α) : Ck := ⟨fun k => l ≠ [] ∧ obk A = some k, fun w => RdS enc sz w A l, false, false⟩
theorem rk_ok (h : RdS enc sz w A l) : (rk enc sz A l).Ok w :=
  ⟨h, fun k hk => h.lt hk.1 k hk.2, fun w' hs hb => by
    by_cases hl : l = []
    · subst hl; exact RdS.nil
    · exact h.keep hs fun b hb' _ => hb b ⟨hl, hb'⟩⟩
theorem rk_new (h : RdS enc sz w' A l) (e : Ext w w') (hf : Fresh w A) : Hp nw w w' [rk enc sz A l] :=
  Hp.one (Tch.of_ext e) (rk_ok h) fun k hk => .inr (hf k hk.2)
theorem Hp.rdr (H : Hp S w0 w Γ) (i : Nat) (h : Γ[i]? = some (rk enc sz A l)) : RdS enc sz w A l := H.atC i h
theorem Ix.rs0 {k : Addr → Prop} (h : RdS enc sz w A l) (h1 : 0 < l.length) (hk : k ((gA A).add (0 * sz))) : Ix A l.length 0 sz k := Ix.rs (i := 0) h rfl h1 hk
theorem Ix.rs1 {k : Addr → Prop} (h : RdS enc sz w A l) (h1 : 1 < l.length) (hk : k ((gA A).add (1 * sz))) : Ix A l.length 1 sz k := Ix.rs (i := 1) h rfl h1 hk
theorem Ix.rs2 {k : Addr → Prop} (h : RdS enc sz w A l) (h1 : 2 < l.length) (hk : k ((gA A).add (2 * sz))) : Ix A l.length 2 sz k := Ix.rs (i := 2) h rfl h1 hk
theorem Al.hp (H : Hp S w0 w Γ) {k : Nat → World → Prop} (h : ∀ p w', Hp S w0 w' (bk p t cs :: Γ) → w0.heap.size ≤ p → k p w') : Al cs t w k :=
  Al.mk fun p w' hp hb e hs => h p w' (H.fr0 (Hp.one (Tch.of_ext e) (bk_ok hb) (fun k hk => .inr (by subst hk; omega))) (.inl rfl)) (by have := H.size; omega)
theorem upd_hp {cs' : List Value} (u : Upd b w w') (h : Blk w' b t cs') : Hp (· = b) w w' [bk b t cs'] :=
  Hp.one ((Tch.refl _ _).upd u (.inl rfl)) (bk_ok h) fun k hk => .inl hk
theorem grow_hp {A2 : Option Addr} {c2 : Nat} {l2 : List α} (g : Grow A w w') (hA : Que enc sz e w 0 A c l) (h : Que enc sz e w' 0 A2 c2 l2) (hb : obk A2 = obk A ∨ obk A2 = some w.heap.size) : Hp (fun k => obk A = some k) w w' [qu enc sz e A2 c2 l2] := by
  refine Hp.one ?_ (qu_ok h) fun k hk => ?_
  · have hg : w.grownBy w' (obk A) := by rw [← obk_eq A 0 0]; exact g
    exact ⟨hg.os, hg.tape, hg.output, hg.size, fun k hk hS => hg.block k hk (fun e => hS e.symm)⟩
  · rcases hb with hb | hb
    · exact .inl (hb ▸ hk)
    · exact .inr (by have : obk A2 = some k := hk; rw [hb] at this; simp at this; omega)
end
section
variable {S : Nat → Prop} {w0 w w' wb : World} {Γ Γ' L R : List Ck} {c c' d : Ck} {b o : Nat} {t e : TypeId} {cs vs : List Value} {α : Type} {enc : α → List Value} {sz cp : Nat} {A : Option Addr} {l m : List α} {x : α}
/-- one piece of the list becomes another -/
inductive Upd1 : List Ck → Ck → Ck → List Ck → Prop
  | head {Γ : List Ck} {c c' : Ck} : Upd1 (c :: Γ) c c' (c' :: Γ)
  | tail {a : Ck} {Γ Γ' : List Ck} {c c' : Ck} : Upd1 Γ c c' Γ' → Upd1 (a :: Γ) c c' (a :: Γ')
/-- where a piece stands in the list -/
inductive Sp : List Ck → List Ck → Ck → List Ck → Prop
  | head {Γ : List Ck} {c : Ck} : Sp (c :: Γ) [] c Γ
  | tail {a : Ck} {Γ L R : List Ck} {c : Ck} : Sp Γ L c R → Sp (a :: Γ) (a :: L) c R
theorem Sp.eq {Γ L R : List Ck} {c : Ck} (h : Sp Γ L c R) : Γ = L ++ c :: R := by
  induction h with
  | head => rfl
  | tail _ ih => rw [ih]; rfl
theorem Upd1.sp {Γ Γ' : List Ck} {c c' : Ck} (h : Upd1 Γ c c' Γ') : ∃ L R, Sp Γ L c R ∧ Γ' = L ++ c' :: R := by
  induction h with
  | head => exact ⟨[], _, .head, rfl⟩
  | tail _ ih => obtain ⟨L, R, h1, h2⟩ := ih; exact ⟨_ :: L, R, .tail h1, by rw [h2]; rfl⟩
theorem Hp.putS (H : Hp S w0 w Γ) (u : Sp Γ L c R) (H' : Hp c.fp w w' [c']) (ho : c.own = true) (hn : c'.new) : Hp S w0 w' (L ++ c' :: R) := by
  have H1 := (u.eq ▸ H : Hp S w0 w (L ++ c :: R)).perm List.perm_middle
  have H2 := Hp.frame (Γ1 := [c]) (Γ2 := L ++ R) (S' := c.fp) (Γ' := [c']) H1 (by simpa using ho) (fun k h => ⟨c, by simp, h⟩) H' (by simpa using hn)
  exact (show Hp S w0 w' (c' :: (L ++ R)) from H2).perm List.perm_middle.symm
theorem Hp.upd (H : Hp S w0 w Γ) (H' : Hp c.fp w w' [c']) (ho : c.own = true) (hn : c'.new) (u : Upd1 Γ c c' Γ' := by (repeat (first | exact Upd1.head | apply Upd1.tail))) : Hp S w0 w' Γ' := by
  obtain ⟨L, R, h1, rfl⟩ := u.sp
  exact H.putS h1 H' ho hn
theorem Hp.updb {cs' : List Value} (H : Hp S w0 w Γ) (H' : Hp (· = b) w w' [bk b t cs']) (u : Upd1 Γ (bk b t cs) (bk b t cs') Γ' := by (repeat (first | exact Upd1.head | apply Upd1.tail))) : Hp S w0 w' Γ' := H.upd (c := bk b t cs) H' rfl (.inl rfl) u
/-- a call that writes one piece and makes one -/
theorem Hp.updn (H : Hp S w0 w Γ) (H' : Hp c.fp w w' [c', d]) (ho : c.own = true) (hn : c'.new) (hd : d.new) (u : Upd1 Γ c c' Γ' := by (repeat (first | exact Upd1.head | apply Upd1.tail))) : Hp S w0 w' (d :: Γ') := by
  obtain ⟨L, R, h1, rfl⟩ := u.sp
  have H1 := (h1.eq ▸ H : Hp S w0 w (L ++ c :: R)).perm List.perm_middle
  have H2 := Hp.frame (Γ1 := [c]) (Γ2 := L ++ R) (S' := c.fp) (Γ' := [c', d]) H1 (by simpa using ho) (fun k h => ⟨c, by simp, h⟩) H' (by simpa using ⟨hn, hd⟩)
  exact (show Hp S w0 w' (c' :: d :: (L ++ R)) from H2).perm ((List.Perm.swap d c' _).trans (List.Perm.cons d List.perm_middle.symm))
theorem Hp.mem (H : Hp S w0 w Γ) (h : c ∈ Γ) : c.P w := (H.ok c h).holds
theorem src_e (H : Hp nw w0 w Γ) (h : RdS enc sz w0 A l) : RdS enc sz w A l := RdS.from H.e h
theorem src_b (H : Hp S w0 w Γ) (hb : BaseOk S wb w0) (h : RdS enc sz wb A l) : RdS enc sz w A l := RdS.from (H.base2 hb) h
theorem src_q (H : Hp S w0 w Γ) (h : qu enc sz e A cp l ∈ Γ) : RdS enc sz w A l := (show Que enc sz e w 0 A cp l from H.mem h).rd
theorem src_r (H : Hp S w0 w Γ) (h : rk enc sz A l ∈ Γ) : RdS enc sz w A l := H.mem h
theorem Ld1.h {k : Value → Prop} {v : Value} (H : Hp S w0 w Γ) (hk : k v) (hm : bk b t cs ∈ Γ := by (repeat (first | exact List.Mem.head _ | apply List.Mem.tail))) (hv : cs[o]? = some v := by rfl) : Ld1 w ⟨b, o, none⟩ k := Ld1.blk (H.mem hm) hv hk
theorem Ld.h {k : List Value → Prop} {n : Nat} (H : Hp S w0 w Γ) (hk : k ((cs.drop o).take n)) (hm : bk b t cs ∈ Γ := by (repeat (first | exact List.Mem.head _ | apply List.Mem.tail))) (hv : ((cs.drop o).take n).length = n := by rfl) : Ld w ⟨b, o, none⟩ n k := Ld.blk (H.mem hm) hv hk
theorem Ld1.r {k : Value → Prop} {v : Value} {i : Nat} (hk : k v)
    (hr : RdS enc 1 w A l := by (first | assumption | exact src_e (by assumption) (by assumption) | exact src_q (by assumption) (by (repeat (first | exact List.Mem.head _ | apply List.Mem.tail))) | exact src_r (by assumption) (by (repeat (first | exact List.Mem.head _ | apply List.Mem.tail))) | exact src_b (by assumption) (by assumption) (by assumption)))
    (hx : l[i]? = some x := by (first | with_reducible assumption | assumption)) (hv : (enc x)[0]? = some v := by rfl) : Ld1 w ((gA A).add (i * 1)) k := Ld1.rs hr hx hv hk
theorem Ld1.rF {k : Value → Prop} {v : Value} {i : Nat} (hk : k v)
    (hr : RdS enc sz w A l := by (first | assumption | exact src_e (by assumption) (by assumption) | exact src_q (by assumption) (by (repeat (first | exact List.Mem.head _ | apply List.Mem.tail))) | exact src_r (by assumption) (by (repeat (first | exact List.Mem.head _ | apply List.Mem.tail))) | exact src_b (by assumption) (by assumption) (by assumption)))
    (hx : l[i]? = some x := by (first | with_reducible assumption | assumption)) (hv : (enc x)[o]? = some v := by rfl) : Ld1 w (pAdd ((gA A).add (i * sz)) o) k := Ld1.rsF hr hx hv hk
theorem Ld.r {k : List Value → Prop} {i : Nat} (hk : k (enc x))
    (hr : RdS enc sz w A l := by (first | assumption | exact src_e (by assumption) (by assumption) | exact src_q (by assumption) (by (repeat (first | exact List.Mem.head _ | apply List.Mem.tail))) | exact src_r (by assumption) (by (repeat (first | exact List.Mem.head _ | apply List.Mem.tail))) | exact src_b (by assumption) (by assumption) (by assumption)))
    (hx : l[i]? = some x := by (first | with_reducible assumption | assumption)) : Ld w ((gA A).add (i * sz)) sz k := Ld.rs hr hx hk
theorem Ix.h {k : Addr → Prop} {n : Int} {i : Nat} (hk : k ((gA A).add (i * sz)))
    (hr : RdS enc sz w A l := by (first | assumption | exact src_e (by assumption) (by assumption) | exact src_q (by assumption) (by (repeat (first | exact List.Mem.head _ | apply List.Mem.tail))) | exact src_r (by assumption) (by (repeat (first | exact List.Mem.head _ | apply List.Mem.tail))) | exact src_b (by assumption) (by assumption) (by assumption)))
    (he : n = (i : Int) := by (first | (with_reducible exact lit0) | (with_reducible exact lit1) | (with_reducible exact lit2) | with_reducible rfl | with_reducible assumption | assumption)) (h1 : i < l.length := by (first | with_reducible assumption | omega | assumption)) : Ix A l.length n sz k := Ix.rs hr he h1 hk
theorem Ix.ha {k : Addr → Prop} {n : Int} {i len : Nat} (hk : k ((gA A).add (i * sz)))
    (hr : RdS enc sz w A l := by (first | assumption | exact src_e (by assumption) (by assumption) | exact src_q (by assumption) (by (repeat (first | exact List.Mem.head _ | apply List.Mem.tail))) | exact src_r (by assumption) (by (repeat (first | exact List.Mem.head _ | apply List.Mem.tail))) | exact src_b (by assumption) (by assumption) (by assumption)))
    (hl : l.length = len := by (first | with_reducible assumption | (simp; done) | assumption)) (he : n = (i : Int) := by (first | (with_reducible exact lit0) | (with_reducible exact lit1) | (with_reducible exact lit2) | with_reducible rfl | with_reducible assumption | assumption)) (h1 : i < l.length := by (first | with_reducible assumption | omega | assumption)) : Ix A len n sz k := Ix.arr hr hl he h1 hk
section
variable {W : World → Prop} {Rl : World → World → Prop} (hW : QW W w Rl)
include hW
theorem QLd1.h {k : Value → Prop} {v : Value} (H : Hp S w0 w Γ) (hk : k v) (hm : bk b t cs ∈ Γ := by (repeat (first | exact List.Mem.head _ | apply List.Mem.tail))) (hv : cs[o]? = some v := by rfl) : QLd1 W ⟨b, o, none⟩ k := QLd1.blk hW (H.mem hm) hv hk
theorem QLd.h {k : List Value → Prop} {n : Nat} (H : Hp S w0 w Γ) (hk : k ((cs.drop o).take n)) (hm : bk b t cs ∈ Γ := by (repeat (first | exact List.Mem.head _ | apply List.Mem.tail))) (hv : ((cs.drop o).take n).length = n := by rfl) : QLd W ⟨b, o, none⟩ n k := QLd.blk hW (H.mem hm) hv hk
theorem QLd1.r {k : Value → Prop} {v : Value} {i : Nat} (hk : k v)
    (hr : RdS enc 1 w A l := by (first | assumption | exact src_e (by assumption) (by assumption) | exact src_q (by assumption) (by (repeat (first | exact List.Mem.head _ | apply List.Mem.tail))) | exact src_r (by assumption) (by (repeat (first | exact List.Mem.head _ | apply List.Mem.tail))) | exact src_b (by assumption) (by assumption) (by assumption)))
    (hx : l[i]? = some x := by (first | with_reducible assumption | assumption)) (hv : (enc x)[0]? = some v := by rfl) : QLd1 W ((gA A).add (i * 1)) k := QLd1.rs hW hr hx hv hk
theorem QLd1.rF {k : Value → Prop} {v : Value} {i : Nat} (hk : k v)
    (hr : RdS enc sz w A l := by (first | assumption | exact src_e (by assumption) (by assumption) | exact src_q (by assumption) (by (repeat (first | exact List.Mem.head _ | apply List.Mem.tail))) | exact src_r (by assumption) (by (repeat (first | exact List.Mem.head _ | apply List.Mem.tail))) | exact src_b (by assumption) (by assumption) (by assumption)))
    (hx : l[i]? = some x := by (first | with_reducible assumption | assumption)) (hv : (enc x)[o]? = some v := by rfl) : QLd1 W (pAdd ((gA A).add (i * sz)) o) k := QLd1.rsF hW hr hx hv hk
theorem QLd.r {k : List Value → Prop} {i : Nat} (hk : k (enc x))
    (hr : RdS enc sz w A l := by (first | assumption | exact src_e (by assumption) (by assumption) | exact src_q (by assumption) (by (repeat (first | exact List.Mem.head _ | apply List.Mem.tail))) | exact src_r (by assumption) (by (repeat (first | exact List.Mem.head _ | apply List.Mem.tail))) | exact src_b (by assumption) (by assumption) (by assumption)))
    (hx : l[i]? = some x := by (first | with_reducible assumption | assumption)) : QLd W ((gA A).add (i * sz)) sz k := QLd.rs hW hr hx hk
end
theorem Hp.d0 (H : Hp S w0 w (c :: Γ)) : Hp S w0 w Γ := H.sub (List.sublist_cons_self _ _)
theorem Hp.dr (H : Hp S w0 w Γ) (u : Sp Γ L c R) : Hp S w0 w (L ++ R) := ((u.eq ▸ H : Hp S w0 w (L ++ c :: R)).perm List.perm_middle).d0
end
section
variable {S : Nat → Prop} {w0 w w' : World} {Γ Γ' L R : List Ck} {b p o q : Nat} {t : TypeId} {cs vs : List Value} {α : Type} {enc : α → List Value} {sz c : Nat} {e : TypeId} {A : Option Addr} {l m : List α} {x : α} {k : World → Prop}
theorem putL_el {x : α} : ∀ {l : List α} {i : Nat}, (∀ y ∈ l, (enc y).length = sz) → (enc x).length = sz → i < l.length → putL (l.flatMap enc) (i * sz) (enc x) = (l.set i x).flatMap enc
  | [], i, _, _, hi => by simp at hi
  | y :: r, 0, h, hx, _ => by
    have hy := h y (by simp)
    simp [putL, hx, List.drop_append, hy]
  | y :: r, i + 1, h, hx, hi => by
    have ih := putL_el (l := r) (i := i) (fun z hz => h z (by simp [hz])) hx (by simpa using hi)
    have hy := h y (by simp)
    unfold putL at ih ⊢
    simp only [List.flatMap_cons, List.set_cons_succ]
    rw [← ih, show (i + 1) * sz = (enc y).length + i * sz by rw [hy, Nat.add_mul, Nat.one_mul, Nat.add_comm], List.take_length_add_append]
    rw [show (enc y).length + i * sz + (enc x).length = (enc y).length + (i * sz + (enc x).length) by omega, List.drop_length_add_append]
    simp
theorem St.elb {i : Nat} (h : Blk w p t (l.flatMap enc)) (hs : ∀ y ∈ l, (enc y).length = sz) (hx : (enc x).length = sz) (hi : i < l.length) (h1 : (enc x).all Value.oneCell' = true)
    (hk : ∀ w', Upd p w w' → Blk w' p t ((l.set i x).flatMap enc) → k w') : St w ((gA (some ⟨p, 0, none⟩)).add (i * sz)) (enc x) k := by
  have hlen := flat_len hs
  have h5 : i * sz + sz ≤ l.length * sz := by
    have : (i + 1) * sz ≤ l.length * sz := Nat.mul_le_mul_right sz hi
    rw [Nat.add_mul, Nat.one_mul] at this; exact this
  have e1 : (gA (some ⟨p, 0, none⟩)).add (i * sz) = ⟨p, i * sz, none⟩ := by simp only [gA]; rw [add_lit, Nat.zero_add]
  rw [e1]
  refine St.upd h (Nat.ble_eq_true_of_le (by rw [hlen, hx]; exact h5)) h1 fun w' u hb => hk w' u ?_
  rw [putL_el hs hx hi] at hb
  exact hb
theorem St.h (H : Hp S w0 w Γ) (hk : ∀ w', Hp S w0 w' Γ' → k w') (u : Upd1 Γ (bk b t cs) (bk b t (putL cs o vs)) Γ' := by (repeat (first | exact Upd1.head | apply Upd1.tail)))
    (hl : Nat.ble (o + vs.length) cs.length = true := by rfl) (h1 : vs.all Value.oneCell' = true := by rfl) : St w ⟨b, o, none⟩ vs k := by
  obtain ⟨L, R, h2, rfl⟩ := u.sp
  exact St.upd (H.mem (c := bk b t cs) (by rw [h2.eq]; simp)) hl h1 fun w' u hb => hk w' (H.putS h2 (upd_hp u hb) rfl (.inl rfl))
/-- an element of a list is written -/
theorem St.el {j : Nat} (H : Hp S w0 w Γ) (hs : ∀ y ∈ l, (enc y).length = sz) (hx : (enc x).length = sz) (hi : j < l.length) (h1 : (enc x).all Value.oneCell' = true) (hk : ∀ w', Hp S w0 w' Γ' → k w')
    (u : Upd1 Γ (bk b t (l.flatMap enc)) (bk b t ((l.set j x).flatMap enc)) Γ' := by (repeat (first | exact Upd1.head | apply Upd1.tail))) : St w ((gA (some ⟨b, 0, none⟩)).add (j * sz)) (enc x) k := by
  obtain ⟨L, R, h2, rfl⟩ := u.sp
  exact St.elb (H.mem (c := bk b t (l.flatMap enc)) (by rw [h2.eq]; simp)) hs hx hi h1 fun w' u hb => hk w' (H.putS h2 (upd_hp u hb) rfl (.inl rfl))
variable {P : Program} {T : Tab} {ku : Value → World → Prop} {Y : List PanicEntry → World → Prop}
theorem Sm.lith (H : Hp S w0 w Γ) (hT : TabOk P T) {t : TypeId} {ti ei : TI} {len : Nat} {parts : List (Nat × Value)} {cs : List Value}
    (hk : ∀ p w', Hp S w0 w' (bk p e cs :: Γ) → w0.heap.size ≤ p → ku (.slice (some ⟨p, 0, none⟩) len len) w')
    (ht : getT T.ts t = some ti := by rfl) (hd : ti.desc = .slice e := by rfl) (he : getT T.ts e = some ei := by rfl) (hz : Nat.beq ei.zero.cells.toList.length ei.size = true := by rfl)
    (hcs : puBuild ((List.range len).map fun i => (i * ei.size, ei.size)) (List.replicate len ei.zero.cells.toList).flatten (parts.map fun (i, v) => (i, some v)) = some cs := by rfl)
    (hsmall : Nat.ble (len * ei.size) 16777216 = true := by rfl) (hne : Nat.blt 0 (len * ei.size) = true := by rfl) : Sm P (Instr.buildSlice t len parts.toArray) w ku Y :=
  Sm.lit hT ht hd he hz hcs hsmall hne fun p w' hp hb ex _ => hk p w' (H.fr0 (Hp.one (Tch.of_ext ex) (bk_ok hb) (fun k hk => .inr (by subst hk; omega))) (.inl rfl)) (by have := H.size; omega)
theorem Sm.makeh (H : Hp S w0 w Γ) (hT : TabOk P T) {t : TypeId} {ti ei : TI} {n : Nat} {kl kc : IntKind} {a b : Int} {z : α}
    (hbytes : ei.bytes * n ≤ 281474976710656) (h63 : n ≤ 140737488355328)
    (hk : ∀ p w', Hp S w0 w' (bk p e ((List.replicate n z).flatMap enc) :: Γ) → w0.heap.size ≤ p → ku (.slice (some ⟨p, 0, none⟩) n n) w')
    (ht : getT T.ts t = some ti := by rfl) (hd : ti.desc = .slice e := by rfl) (he : getT T.ts e = some ei := by rfl) (ha : a = (n : Int) := by first | rfl | assumption) (hb : b = (n : Int) := by first | rfl | assumption) (hsz : ei.size = sz := by rfl) (hz : ei.zero.cells.toList = enc z := by rfl) (hzl : (enc z).length = sz := by rfl) (hpos : 0 < sz := by decide)
    : Sm P (Instr.makeSlice t (.int kl a) (.int kc b)) w ku Y :=
  Sm.make hT ht hd he ha hb hsz hz hzl hpos hbytes h63 fun p w' hp hb ex => hk p w' (H.fr0 (Hp.one (Tch.of_ext ex) (bk_ok hb) (fun k hk => .inr (by subst hk; omega))) (.inl rfl)) (by have := H.size; omega)
theorem Sm.makeqh (H : Hp S w0 w Γ) (hT : TabOk P T) {t : TypeId} {ti ei : TI} {n c : Nat} {kl kc : IntKind} {a b : Int} {z : α} (hnc : n ≤ c)
    (hbytes : ei.bytes * c ≤ 281474976710656) (h63 : c ≤ 140737488355328)
    (hk : ∀ p w', Hp S w0 w' (qu enc sz e (some ⟨p, 0, none⟩) c (List.replicate n z) :: Γ) → w0.heap.size ≤ p → ku (.slice (some ⟨p, 0, none⟩) n c) w')
    (ht : getT T.ts t = some ti := by rfl) (hd : ti.desc = .slice e := by rfl) (he : getT T.ts e = some ei := by rfl) (ha : a = (n : Int) := by first | rfl | assumption) (hb : b = (c : Int) := by first | rfl | assumption) (hsz : ei.size = sz := by rfl) (hz : ei.zero.cells.toList = enc z := by rfl) (hzl : (enc z).length = sz := by rfl) (hpos : 0 < sz := by decide)
    : Sm P (Instr.makeSlice t (.int kl a) (.int kc b)) w ku Y :=
  Sm.makeQ hT ht hd he ha hb hnc hsz hz hzl hpos hbytes h63 fun p w' hp hb ex => hk p w' (H.fr0 (Hp.one (Tch.of_ext ex) (qu_ok (hb.mono (Nat.zero_le _))) (fun k hk => .inr (by have : some p = some k := hk; simp at this; omega))) (.inl rfl)) (by have := H.size; omega)
/-- a nil slice is a piece of the call's own -/
theorem Hp.nil (H : Hp S w0 w Γ) (enc : α → List Value) (sz : Nat) (e : TypeId) : Hp S w0 w (qu enc sz e none 0 ([] : List α) :: Γ) :=
  H.fr0 (Hp.one (Tch.refl _ _) (qu_ok Que.nil) (fun k hk => by have : none = some k := hk; simp at this)) (.inl rfl)
/-- append(l, m...) -/
theorem Sm.appm (H : Hp S w0 w Γ) (hT : TabOk P T) {t ty : TypeId} {ti ei : TI} {X : Option Addr} {n n2 c2 : Nat}
    (hn : n = l.length) (hr : RdS enc sz w X m) (hn2 : n2 = m.length) (hne : m ≠ []) (hm : ∀ x ∈ m, (enc x).length = sz) (h1 : ∀ x ∈ m, ∀ v ∈ enc x, v.oneCell' = true)
    (hlen : (l.length + m.length) * ei.bytes ≤ 140737488355328) (hlen2 : l.length + m.length ≤ 140737488355328)
    (hk : ∀ A' c' w', Hp S w0 w' (L ++ qu enc sz e A' c' (l ++ m) :: R) → ku (.slice A' (l ++ m).length c') w')
    (u : Sp Γ L (qu enc sz e A c l) R := by (repeat (first | exact Sp.head | apply Sp.tail)))
    (ht : getT T.ts t = some ti := by rfl) (hd : ti.desc = .slice e := by rfl) (he : getT T.ts e = some ei := by rfl) (hsz : ei.size = sz := by rfl) (hz : ei.zero.cells.size = sz := by rfl) (hpos : 0 < sz := by decide)
    : Sm P (Builtin.append_ #[t, t] ty #[.slice A n c, .slice X n2 c2]) w ku Y := by
  have hq : Que enc sz e w 0 A c l := H.mem (c := qu enc sz e A c l) (by rw [u.eq]; simp)
  exact Sm.appQ hT ht hd he hsz hz hpos hq hn hr hn2 hne hm h1 hlen hlen2 (Nat.zero_le _) fun A' c' w' hQ g hb => hk A' c' w' (H.putS u (grow_hp g hq hQ hb) rfl (.inl rfl))
/-- append(l, x) by a literal of one element, which is struck behind it -/
theorem Sm.ap1 (x : α) (H : Hp S w0 w (bk q e (enc x) :: Γ)) (hT : TabOk P T) {t ty : TypeId} {ti ei : TI} {n c2 : Nat}
    (hlen : (n + 1) * ei.bytes ≤ 140737488355328) (hlen2 : n + 1 ≤ 140737488355328)
    (hk : ∀ A' c' w', Hp S w0 w' (L ++ qu enc sz e A' c' (l ++ [x]) :: R) → ku (.slice A' (n + 1) c') w')
    (u : Sp Γ L (qu enc sz e A c l) R := by (repeat (first | exact Sp.head | apply Sp.tail))) (hn : n = l.length := by first | rfl | assumption | (simp; done))
    (hx : (enc x).length = sz := by rfl) (h1 : (enc x).all Value.oneCell' = true := by rfl)
    (ht : getT T.ts t = some ti := by rfl) (hd : ti.desc = .slice e := by rfl) (he : getT T.ts e = some ei := by rfl) (hsz : ei.size = sz := by rfl) (hz : ei.zero.cells.size = sz := by rfl) (hpos : 0 < sz := by decide)
    : Sm P (Builtin.append_ #[t, t] ty #[.slice A n c, .slice (some ⟨q, 0, none⟩) 1 c2]) w ku Y := by
  have hb : Blk w q e ([x].flatMap enc) := by simpa using H.blk 0 rfl
  subst hn
  refine Sm.appm H hT (m := [x]) rfl (rd_full hb (by simpa using hx)) rfl (by simp) (by simpa using hx) (by simpa using h1) hlen hlen2 (L := bk q e (enc x) :: L) (R := R) (fun A' c' w' H' => ?_) (.tail u) ht hd he hsz hz hpos
  have := hk A' c' w' (Hp.d0 H')
  simpa using this
theorem Sm.run_of {s : Sem Value} {v : Value} (h : Sm P s w (fun u w' => u = v ∧ w' = w) (fun _ _ => False)) : s.run P w = .ok v w := by
  have := h.out
  split at this
  · rename_i hr; rw [hr, this.1, this.2]
  · exact this.elim
  · exact this.elim
theorem QSm.cutHi {W : World → Prop} {Rl : World → World → Prop} (hW : QW W w Rl) (hT : TabOk P T) {t : TypeId} {ti ei : TI} {n i : Nat} {kl : IntKind} {a : Int} {k : Value → Prop} (hi : i ≤ c) (hk : k (.slice A i c))
    (ht : getT T.ts t = some ti := by rfl) (hd : ti.desc = .slice e := by rfl) (he : getT T.ts e = some ei := by rfl) (hsz : ei.size = sz := by rfl) (ha : a = (i : Int) := by first | with_reducible rfl | assumption) : QSm P (Instr.sliceAt t (.slice A n c) none (some (.int kl a)) none) W k :=
  QSm.mk hW (fun w' _ => Sm.run_of (Sm.cutHi hT ht hd he hsz ha hi ⟨rfl, rfl⟩)) hk
end
end Go.Sh
namespace Go.Sh
open Go.RowKit
set_option linter.unusedVariables false
set_option linter.unusedSimpArgs false
set_option linter.unusedSectionVars false
def pickO (ops : Array Oper) : List Nat → Option (List Oper)
  | [] => some []
  | i :: r => match ops[i]? with
    | some o => match pickO ops r with
      | some l => some (o :: l)
      | none => none
    | none => none
theorem pickO_get {ops : Array Oper} : ∀ {is : List Nat} {l : List Oper}, pickO ops is = some l → ∀ m : Nat, l[m]? = (is[m]?).bind (ops[·]?)
  | [], l, h, m => by simp [pickO] at h; subst h; simp
  | i :: r, l, h, m => by
    unfold pickO at h
    split at h
    · rename_i o ho
      split at h
      · rename_i l' hl'
        simp at h; subst h
        cases m with
        | zero => simp [ho]
        | succ m => simpa using pickO_get hl' m
      · simp at h
    · simp at h
theorem pickO_len {ops : Array Oper} : ∀ {is : List Nat} {l : List Oper}, pickO ops is = some l → l.length = is.length
  | [], l, h => by simp [pickO] at h; subst h; rfl
  | i :: r, l, h => by
    unfold pickO at h
    split at h
    · rename_i o ho
      split at h
      · rename_i l' hl'
        simp at h; subst h
        simp [pickO_len hl']
      · simp at h
    · simp at h
def ChP (ops : Array Oper) (qis cs : List Nat) : Prop :=
  (∀ i ∈ List.range ops.size, ∀ j ∈ afterOf ops i, j < i) ∧
  (∀ i ∈ List.range ops.size, i ∈ qis ∨ i ∈ cs) ∧
  (∀ i ∈ qis, i ∉ cs ∧ i < ops.size) ∧
  (∀ i ∈ cs, i < ops.size) ∧
  qis.Pairwise (· < ·) ∧
  cs.Pairwise (· < ·) ∧
  (∀ a ∈ cs, ∀ b ∈ cs, a < b → a ∈ ancF ops ops.size b) ∧
  (ops.size - 1 ∈ cs) ∧
  (∀ j ∈ List.range (ops.size - 1), j ∈ ancF ops ops.size (ops.size - 1)) ∧
  (∀ i ∈ List.range ops.size, ∀ j ∈ List.range ops.size, i ≠ j → dstOf ops i ≠ none → dstOf ops j ≠ dstOf ops i) ∧
  (∀ i ∈ qis, ∀ j ∈ List.range ops.size, j ≠ i → ∀ t ∈ rdOf ops i, dstOf ops j = some t → j ∈ qis ∧ ((j < i ∧ j ∈ ancF ops ops.size i) ∨ (i < j ∧ i ∈ ancF ops ops.size j))) ∧
  (∀ i ∈ cs, ∀ j ∈ List.range ops.size, j ≠ i → ∀ t ∈ rdOf ops i, dstOf ops j = some t → j ∈ ancF ops ops.size i)
def chB (ops : Array Oper) (qis cs : List Nat) : Bool :=
  decide ((∀ i ∈ List.range ops.size, ∀ j ∈ afterOf ops i, j < i)) &&
  decide ((∀ i ∈ List.range ops.size, i ∈ qis ∨ i ∈ cs)) &&
  decide ((∀ i ∈ qis, i ∉ cs ∧ i < ops.size)) &&
  decide ((∀ i ∈ cs, i < ops.size)) &&
  decide (qis.Pairwise (· < ·)) &&
  decide (cs.Pairwise (· < ·)) &&
  decide ((∀ a ∈ cs, ∀ b ∈ cs, a < b → a ∈ ancF ops ops.size b)) &&
  decide ((ops.size - 1 ∈ cs)) &&
  decide ((∀ j ∈ List.range (ops.size - 1), j ∈ ancF ops ops.size (ops.size - 1))) &&
  decide ((∀ i ∈ List.range ops.size, ∀ j ∈ List.range ops.size, i ≠ j → dstOf ops i ≠ none → dstOf ops j ≠ dstOf ops i)) &&
  decide ((∀ i ∈ qis, ∀ j ∈ List.range ops.size, j ≠ i → ∀ t ∈ rdOf ops i, dstOf ops j = some t → j ∈ qis ∧ ((j < i ∧ j ∈ ancF ops ops.size i) ∨ (i < j ∧ i ∈ ancF ops ops.size j)))) &&
  decide ((∀ i ∈ cs, ∀ j ∈ List.range ops.size, j ≠ i → ∀ t ∈ rdOf ops i, dstOf ops j = some t → j ∈ ancF ops ops.size i))
theorem chB_spec {ops : Array Oper} {qis cs : List Nat} (h : chB ops qis cs = true) : ChP ops qis cs := by
  unfold chB at h
  simp only [Bool.and_eq_true, decide_eq_true_iff] at h
  obtain ⟨⟨⟨⟨⟨⟨⟨⟨⟨⟨⟨h1, h2⟩, h3⟩, h4⟩, h5⟩, h6⟩, h7⟩, h8⟩, h9⟩, h10⟩, h11⟩, h12⟩ := h
  exact ⟨h1, h2, h3, h4, h5, h6, h7, h8, h9, h10, h11, h12⟩
section
variable {P : Program} {T : Tab} {n : Nat} {ops : Array Oper}
def stepCh (P : Program) (T : Tab) (n : Nat) (W : World → Prop) (o : Oper) (_r : List Oper) (ih : Fr → World → (Fr → World → Prop) → Prop) (F : Fr) (w : World) (k : Fr → World → Prop) : Prop :=
  W w ∧ match dstOk n o.dst with
    | false => False
    | true => match o.guard with
      | some _ => False
      | none => exOp P T (evR o F) o w (fun v w' => ih (F.put o.dst v) w' k) (fun _ _ => False)
def chOps (P : Program) (T : Tab) (n : Nat) (W : World → Prop) (l : List Oper) : Fr → World → (Fr → World → Prop) → Prop :=
  List.rec (motive := fun _ => Fr → World → (Fr → World → Prop) → Prop) (fun F w k => k F w) (stepCh P T n W) l
theorem PhiF_cases {F : Fr} {l : List Oper} {vals : Nat → Value} {t : Nat} {u : Value} : ∀ m, PhiF F l vals m t = some u → (∃ j, j < m ∧ (l[j]?).bind (·.dst) = some t ∧ u = vals j) ∨ ((∀ j, j < m → (l[j]?).bind (·.dst) ≠ some t) ∧ look F.env t = some u)
  | 0, h => .inr ⟨by simp, h⟩
  | m + 1, h => by
    rw [PhiF] at h
    split at h
    · rename_i hd
      simp at h
      exact .inl ⟨m, by omega, hd, h.symm⟩
    · rename_i hd
      rcases PhiF_cases m h with ⟨j, h1, h2, h3⟩ | ⟨h1, h2⟩
      · exact .inl ⟨j, by omega, h2, h3⟩
      · exact .inr ⟨fun j hj => by
          by_cases e : j = m
          · subst e; exact hd
          · exact h1 j (by omega), h2⟩
theorem act_put_ne {a : Act} {d : Option Nat} {v : Value} {t : Nat} (h : d ≠ some t) : (a.put d v).tmps[t]? = a.tmps[t]? := by
  cases d with
  | none => rfl
  | some d' =>
    simp only [Act.put]
    exact Array.getElem?_setIfInBounds_ne (fun e => h (by rw [e]))
theorem act_put_eq {a : Act} {t : Nat} {v : Value} (h : dstOk a.tmps.size (some t) = true) : (a.put (some t) v).tmps[t]? = some v := by
  simp only [Act.put]
  exact Array.getElem?_setIfInBounds_self_of_lt (by simpa [dstOk] using h)
theorem act_put_size {a : Act} {d : Option Nat} {v : Value} : (a.put d v).tmps.size = a.tmps.size := by cases d <;> simp [Act.put]
theorem act_put_defers {a : Act} {d : Option Nat} {v : Value} : (a.put d v).defers = a.defers := by cases d <;> simp [Act.put]
theorem look_put_eq {F : Fr} {d : Nat} {v : Value} : look (F.put (some d) v).env d = some v := by simp [Fr.put, look]
theorem look_put_ne {F : Fr} {d : Option Nat} {v : Value} {t : Nat} (h : d ≠ some t) : look (F.put d v).env t = look F.env t := by
  cases d with
  | none => rfl
  | some d =>
    simp only [Fr.put, look]
    split
    · rename_i e; exact absurd (by rw [Nat.eq_of_beq_eq_true e]) h
    · rfl
theorem Dr.ch (hT : TabOk P T) (hm : P.follows .mixedOrders = true) (qis cs : List Nat) {id : Nat} {F : Fr} {w : World} {K : Exit → Fr → World → Prop} {ql cl : List Oper}
    (hB : chB ops qis cs = true) (hql : pickO ops qis = some ql) (hcl : pickO ops cs = some cl) (W : World → Prop)
    (h : ∀ w1, Ext w w1 → w1.heap.size = w.heap.size → quOps P T n W (fun a b => b = a) ops.toList ql F (fun F' => chOps P T n W cl F' w1 (fun F w => K .normal F w))) : Dr P n id ops F w K := by
  obtain ⟨hac0, hcov, hqc, hclt, hqs, hcs, hcan, hlc, hlast0, huq0, hrq, hrc⟩ := chB_spec hB
  have hac : ∀ i, i < ops.size → ∀ j ∈ afterOf ops i, j < i := fun i hi => hac0 i (List.mem_range.2 hi)
  have hlast : ∀ j, j < ops.size - 1 → j ∈ ancF ops ops.size (ops.size - 1) := fun j hj => hlast0 j (List.mem_range.2 hj)
  have huq : ∀ i, i < ops.size → ∀ j, j < ops.size → i ≠ j → ∀ t, dstOf ops i = some t → dstOf ops j ≠ some t := fun i hi j hj hne t ht => by
    have := huq0 i (List.mem_range.2 hi) j (List.mem_range.2 hj) hne (by rw [ht]; simp)
    rwa [ht] at this
  have e1 : Ext w { w with drawn := w.drawn + 1 } := ⟨rfl, rfl, rfl, Nat.le_refl _, fun _ _ => rfl⟩
  obtain ⟨vals, F', hY, hlook, hds, hfin⟩ := quOps_trace hT ql F _ (h { w with drawn := w.drawn + 1 } e1 rfl)
  have hN : ops.size - 1 < ops.size := hclt _ hlc
  have hqget : ∀ m : Nat, (ql[m]?).bind (·.dst) = (qis[m]?).bind (dstOf ops) := fun m => by
    rw [pickO_get hql m]
    cases qis[m]? <;> rfl
  have hqpos : ∀ i, i ∈ qis → ∃ m, qis[m]? = some i := fun i hi => List.getElem?_of_mem hi
  have hqlt : ∀ (m m' i i' : Nat), qis[m]? = some i → qis[m']? = some i' → m < m' → i < i' := fun m m' i i' h1 h2 hlt => by
    obtain ⟨a1, a2⟩ := List.getElem?_eq_some_iff.1 h1
    obtain ⟨b1, b2⟩ := List.getElem?_eq_some_iff.1 h2
    have := List.pairwise_iff_getElem.1 hqs m m' a1 b1 hlt
    omega
  have hqinj : ∀ (m m' i : Nat), qis[m]? = some i → qis[m']? = some i → m = m' := fun m m' i h1 h2 => by
    rcases Nat.lt_trichotomy m m' with e | e | e
    · have := hqlt m m' i i h1 h2 e; omega
    · exact e
    · have := hqlt m' m i i h2 h1 e; omega
  refine ⟨fun a0 ha0 => ?_⟩
  refine wp_region_any hm ?_
  have main : ∀ (fuel : Nat) (listed : Array Bool) (a : Act) (w' : World) (j : Nat) (Fj : Fr), listed.size = ops.size → Closed ops listed → cnt listed ops.size ≤ fuel → ¬ Lst listed (ops.size - 1) →
      a.tmps.size = n → a.defers = F.ds → Fj.ds = F.ds → chOps P T n W (cl.drop j) Fj w' (fun F w => K .normal F w) →
      (∀ m i, cs[m]? = some i → (Lst listed i ↔ m < j)) →
      (∀ m i, qis[m]? = some i → Lst listed i → ∀ d, dstOf ops i = some d → a.tmps[d]? = some (vals m)) →
      (∀ t u, look F.env t = some u → (∀ i, i < ops.size → Lst listed i → dstOf ops i ≠ some t) → a.tmps[t]? = some u) →
      (∀ t u, look Fj.env t = some u → (∃ i, i ∈ qis ∧ ¬ Lst listed i ∧ dstOf ops i = some t) ∨ a.tmps[t]? = some u) →
      (∀ t, (∀ i, i ∈ cs → dstOf ops i ≠ some t) → look Fj.env t = look F'.env t) →
      wpAny P .any ops (Lift n K) fuel listed a w' := by
    intro fuel
    induction fuel with
    | zero => intro listed a w' j Fj _ _ hc hnl; exact absurd (cnt_pos listed _ hnl ops.size hN) (by omega)
    | succ fuel ih =>
      intro listed a w' j Fj hs hcl' hc hnl hsz hdf hdj hch hcj hA hB' hG hFj
      refine ⟨fun hr => ?_, fun i hi => ?_⟩
      · exfalso
        have : ∃ i, i < ops.size ∧ ¬ Lst listed i ∧ ∀ j, j < i → Lst listed j := by
          have : ∀ m, m ≤ ops.size - 1 → (∀ j, j < m → Lst listed j) ∨ ∃ i, i < ops.size ∧ ¬ Lst listed i ∧ ∀ j, j < i → Lst listed j := by
            intro m
            induction m with
            | zero => intro _; exact .inl fun j hj => by omega
            | succ m ihm =>
              intro hm
              rcases ihm (by omega) with h1 | h1
              · by_cases hl : Lst listed m
                · exact .inl fun j hj => (Nat.lt_or_ge j m).elim (h1 j) fun h2 => (show j = m by omega) ▸ hl
                · exact .inr ⟨m, by omega, hl, h1⟩
              · exact .inr h1
          rcases this (ops.size - 1) (Nat.le_refl _) with h1 | h1
          · exact ⟨ops.size - 1, hN, hnl, h1⟩
          · exact h1
        obtain ⟨i, h1, h2, h3⟩ := this
        have := (mem_ready hs hac).2 ⟨h1, h2, fun j hj => h3 j (hac i h1 j hj)⟩
        rw [hr] at this
        exact absurd this (by simp)
      · obtain ⟨hi1, hi2, hi3⟩ := (mem_ready hs hac).1 hi
        have hs' : (listed.setIfInBounds i true).size = ops.size := by simpa using hs
        have hLs : ∀ j, Lst (listed.setIfInBounds i true) j ↔ j = i ∨ Lst listed j := fun j => by
          unfold Lst; rw [getD_set _ _ _ (by omega)]; by_cases e : j = i <;> simp [e]
        have hcl'' : Closed ops (listed.setIfInBounds i true) := fun m hm hl j hj => by
          rw [hLs] at hl ⊢
          rcases hl with rfl | hl
          · exact .inr (hi3 j hj)
          · exact .inr (hcl' m hm hl j hj)
        have hc' : cnt (listed.setIfInBounds i true) ops.size ≤ fuel := by
          have := cnt_set listed i (by omega) hi2 ops.size
          rw [if_pos hi1] at this; omega
        have hanc : ∀ j, j ∈ ancF ops ops.size i → Lst listed j := fun j hj => by
          have := closed_anc hcl'' hac ops.size i j hi1 ((hLs i).2 (.inl rfl)) hj
          rcases (hLs j).1 this with rfl | h1
          · exfalso
            have lt : ∀ (f m j : Nat), m < ops.size → j ∈ ancF ops f m → j < m := by
              intro f
              induction f with
              | zero => intro m j _ h; simp [ancF] at h
              | succ f ihf =>
                intro m j hm h
                simp only [ancF, List.mem_flatMap, List.mem_cons] at h
                obtain ⟨q, hq, h⟩ := h
                have hqm := hac m hm q hq
                rcases h with rfl | h
                · exact hqm
                · have := ihf q j (by omega) h; omega
            have := lt _ _ _ hi1 hj; omega
          · exact h1
        obtain ⟨o, ho⟩ : ∃ o, ops[i]? = some o := ⟨ops[i], Array.getElem?_eq_getElem hi1⟩
        have hdi : dstOf ops i = o.dst := by simp [dstOf, ho]
        have hrdi : rdOf ops i = tmpsOf o ++ gdOf ops o := by unfold rdOf; simp only [ho]
        have hjlt : j < cs.length := by
          obtain ⟨m, hm⟩ := List.getElem?_of_mem hlc
          have h1 := (List.getElem?_eq_some_iff.1 hm).1
          have h2 := hcj m _ hm
          exact Nat.lt_of_not_le fun h3 => hnl (h2.2 (by omega))
        obtain ⟨ci, hci⟩ : ∃ c, cs[j]? = some c := ⟨cs[j], List.getElem?_eq_getElem hjlt⟩
        obtain ⟨oc, hoc⟩ : ∃ o, ops[ci]? = some o := ⟨_, Array.getElem?_eq_getElem (hclt ci (List.mem_of_getElem? hci))⟩
        have hclj : cl[j]? = some oc := by rw [pickO_get hcl j, hci]; exact hoc
        have hdrop : cl.drop j = oc :: cl.drop (j + 1) := by
          obtain ⟨h1, h2⟩ := List.getElem?_eq_some_iff.1 hclj
          rw [List.drop_eq_getElem_cons h1, h2]
        rw [hdrop] at hch
        have hch' : stepCh P T n W oc (cl.drop (j + 1)) (chOps P T n W (cl.drop (j + 1))) Fj w' (fun F w => K .normal F w) := hch
        obtain ⟨hWw, hrest⟩ := hch'
        unfold wpOp
        simp only [ho]
        by_cases hic : i ∈ cs
        · -- the chain's next
          have hii : i = ci := by
            obtain ⟨m, hm⟩ := List.getElem?_of_mem hic
            have hmj : ¬ m < j := fun e => hi2 ((hcj m i hm).2 e)
            rcases Nat.lt_or_ge j m with e | e
            · exfalso
              have h1 := (List.getElem?_eq_some_iff.1 hm)
              have h2 := (List.getElem?_eq_some_iff.1 hci)
              obtain ⟨h1a, h1b⟩ := h1
              obtain ⟨h2a, h2b⟩ := h2
              have hlt := List.pairwise_iff_getElem.1 hcs j m h2a h1a e
              rw [h1b, h2b] at hlt
              have := hanc ci (hcan ci (List.mem_of_getElem? hci) i hic hlt)
              have := (hcj j ci hci).1 this
              omega
            · have : m = j := by omega
              subst this
              rw [hci] at hm; simpa using hm.symm
          subst hii
          rw [ho] at hoc
          obtain rfl : o = oc := by simpa using hoc
          split at hrest
          · exact hrest.elim
          rename_i hdo
          split at hrest
          · exact hrest.elim
          rename_i hgn
          rw [if_pos (wanted_none hgn)]
          refine .inl ?_
          have hev : ∀ x u, evR o Fj x = some u → a.eval x = u := ev_of_phi (Φ := look Fj.env) (fun t => rfl) fun t ht u hu => by
            rcases hG t u hu with ⟨q, hq1, hq2, hq3⟩ | hu'
            · exfalso
              have hqi : q ≠ i := fun e => (hqc q hq1).1 (e ▸ hic)
              exact hq2 (hanc q (hrc i hic q (List.mem_range.2 (hqc q hq1).2) hqi t (by rw [hrdi]; exact List.mem_append_left _ ht) hq3))
            · exact hu'
          refine exOp_sound hT hev hrest (fun v w2 hnx => ?_) (fun ch w2 q => q.elim)
          have hG2 : ∀ t u, look (Fj.put o.dst v).env t = some u → (∃ q, q ∈ qis ∧ ¬ Lst (listed.setIfInBounds i true) q ∧ dstOf ops q = some t) ∨ (a.put o.dst v).tmps[t]? = some u := fun t u ht => by
            by_cases hd : o.dst = some t
            · rw [hd] at ht hdo ⊢
              rw [look_put_eq] at ht
              simp at ht; subst ht
              exact .inr (act_put_eq (by rw [hsz]; exact hdo))
            · rw [act_put_ne hd]
              have ht' : look Fj.env t = some u := by rw [look_put_ne hd] at ht; exact ht
              rcases hG t u ht' with ⟨q, hq1, hq2, hq3⟩ | hu
              · refine .inl ⟨q, hq1, fun e => ?_, hq3⟩
                rcases (hLs q).1 e with e | e
                · exact (hqc q hq1).1 (e ▸ hic)
                · exact hq2 e
              · exact .inr hu
          have hds2 : (Fj.put o.dst v).ds = F.ds := by cases o.dst <;> exact hdj
          by_cases hl' : i = ops.size - 1
          · -- the last
            have hall : ∀ q, q < ops.size → Lst (listed.setIfInBounds i true) q := fun q hq => by
              rw [hLs]
              by_cases e : q = i
              · exact .inl e
              · exact .inr (hanc q (by rw [hl']; exact hlast q (by omega)))
            have hready : Region.ready .any ops (listed.setIfInBounds i true) = [] := by
              rw [List.eq_nil_iff_forall_not_mem]
              intro q hq
              obtain ⟨h1, h2, _⟩ := (mem_ready hs' hac).1 hq
              exact h2 (hall q h1)
            have hagr : Agr n (Fj.put o.dst v) (a.put o.dst v) := ⟨by rw [act_put_size, hsz], by rw [act_put_defers, hds2, hdf], fun t u ht => by
              rcases hG2 t u ht with ⟨q, hq1, hq2, hq3⟩ | hu
              · exact absurd (hall q (hqc q hq1).2) hq2
              · exact hu⟩
            have hend : cl.drop (j + 1) = [] := by
              refine List.drop_eq_nil_of_le ?_
              rw [pickO_len hcl]
              refine Nat.le_of_not_lt fun hlt => ?_
              obtain ⟨c2, hc2⟩ : ∃ c, cs[j + 1]? = some c := ⟨cs[j + 1], List.getElem?_eq_getElem hlt⟩
              obtain ⟨h1a, h1b⟩ := List.getElem?_eq_some_iff.1 hc2
              obtain ⟨h2a, h2b⟩ := List.getElem?_eq_some_iff.1 hci
              have h3 := List.pairwise_iff_getElem.1 hcs j (j + 1) h2a h1a (by omega)
              rw [h1b, h2b] at h3
              have := hclt c2 (List.mem_of_getElem? hc2)
              omega
            rw [hend] at hnx
            have q : Lift n K .normal (a.put o.dst v) w2 := ⟨_, hagr, hnx⟩
            cases fuel with
            | zero => exact ⟨hready, q⟩
            | succ f => exact ⟨fun _ => q, fun j hj => by rw [hready] at hj; exact absurd hj (by simp)⟩
          · refine ih _ _ _ (j + 1) (Fj.put o.dst v) hs' hcl'' hc' (fun e => ?_) (by rw [act_put_size, hsz]) (by rw [act_put_defers, hdf]) hds2 hnx (fun m q hq => ?_) (fun m q hq hl d hd => ?_) (fun t u ht hno => ?_) hG2 (fun t ht => ?_)
            · rcases (hLs _).1 e with e | e
              · exact hl' e.symm
              · exact hnl e
            · rw [hLs, hcj m q hq]
              constructor
              · rintro (e | e)
                · subst e
                  have hmj : m = j := by
                    rcases Nat.lt_trichotomy m j with e | e | e
                    · exact absurd ((hcj m _ hq).2 e) hi2
                    · exact e
                    · obtain ⟨h1a, h1b⟩ := List.getElem?_eq_some_iff.1 hq
                      obtain ⟨h2a, h2b⟩ := List.getElem?_eq_some_iff.1 hci
                      have h3 := List.pairwise_iff_getElem.1 hcs j m h2a h1a e
                      omega
                  omega
                · omega
              · intro e
                by_cases hmj : m = j
                · subst hmj; rw [hci] at hq; simp at hq; exact .inl hq.symm
                · exact .inr (by omega)
            · have hqm := List.mem_of_getElem? hq
              have hqi : q ≠ i := fun e => (hqc q hqm).1 (e ▸ hic)
              rw [act_put_ne (fun e => huq q (hqc q hqm).2 i hi1 hqi d hd (by rw [hdi, e]))]
              exact hA m q hq (((hLs q).1 hl).resolve_left hqi) d hd
            · rw [act_put_ne (fun e => hno i hi1 ((hLs i).2 (.inl rfl)) (by rw [hdi, e]))]
              exact hB' t u ht fun q hq hl => hno q hq ((hLs q).2 (.inr hl))
            · rw [← hFj t ht, look_put_ne (fun e => ht i hic (by rw [hdi, e]))]
        · -- a quiet one
          have hiq : i ∈ qis := (hcov i (List.mem_range.2 hi1)).resolve_right hic
          obtain ⟨m, hmi⟩ := hqpos i hiq
          obtain ⟨hdo, hy⟩ := hY m o (by rw [pickO_get hql m, hmi]; exact ho)
          have hreads : ∀ t ∈ tmpsOf o ++ gdOf ops o, ∀ u, PhiF F ql vals m t = some u → a.tmps[t]? = some u := by
            intro t ht u hu
            rw [← hrdi] at ht
            rcases PhiF_cases m hu with ⟨k, hk, hkd, rfl⟩ | ⟨hno, hu'⟩
            · rw [hqget] at hkd
              cases hqk : qis[k]? with
              | none => rw [hqk] at hkd; simp at hkd
              | some q =>
                rw [hqk] at hkd
                have hqlt' := hqlt k m q i hqk hmi hk
                have hqm := List.mem_of_getElem? hqk
                rcases (hrq i hiq q (List.mem_range.2 (hqc q hqm).2) (by omega) t ht hkd).2 with ⟨_, h2⟩ | ⟨h2, _⟩
                · exact hA k q hqk (hanc q h2) t hkd
                · omega
            · refine hB' t u hu' fun q hq hl hd => ?_
              by_cases hqi : q = i
              · subst hqi; exact hi2 hl
              obtain ⟨h1, h2⟩ := hrq i hiq q (List.mem_range.2 hq) hqi t ht hd
              obtain ⟨k, hk⟩ := hqpos q h1
              rcases h2 with ⟨h2, h3⟩ | ⟨h2, h3⟩
              · have hkm : k < m := by
                  rcases Nat.lt_trichotomy k m with e | e | e
                  · exact e
                  · subst e; rw [hmi] at hk; simp at hk; omega
                  · have := hqlt m k i q hmi hk e; omega
                exact hno k hkm (by rw [hqget, hk]; exact hd)
              · exact hi2 (closed_anc hcl' hac ops.size q i hq hl h3)
          have hnext : wpAny P .any ops (Lift n K) fuel (listed.setIfInBounds i true) (a.put o.dst (vals m)) w' := by
            refine ih _ _ _ j Fj hs' hcl'' hc' (fun e => ?_) (by rw [act_put_size, hsz]) (by rw [act_put_defers, hdf]) hdj (by rw [hdrop]; exact hch) (fun k q hq => ?_) (fun k q hq hl d hd => ?_) (fun t u ht hno => ?_) (fun t u ht => ?_) hFj
            · rcases (hLs _).1 e with e | e
              · exact hic (e ▸ hlc)
              · exact hnl e
            · rw [hLs, ← hcj k q hq]
              exact ⟨fun e => e.resolve_left (fun e => hic (e ▸ List.mem_of_getElem? hq)), .inr⟩
            · by_cases e : q = i
              · subst e
                have := hqinj k m q hq hmi
                subst this
                rw [hdi] at hd
                rw [hd] at hdo ⊢
                exact act_put_eq (by rw [hsz]; exact hdo)
              · have hqm := List.mem_of_getElem? hq
                rw [act_put_ne (fun e' => huq q (hqc q hqm).2 i hi1 e d hd (by rw [hdi, e']))]
                exact hA k q hq (((hLs q).1 hl).resolve_left e) d hd
            · rw [act_put_ne (fun e => hno i hi1 ((hLs i).2 (.inl rfl)) (by rw [hdi, e]))]
              exact hB' t u ht fun q hq hl => hno q hq ((hLs q).2 (.inr hl))
            · by_cases hd : o.dst = some t
              · refine .inr ?_
                have hF' : look F'.env t = some u := by
                  rw [← hFj t (fun q hq e => huq i hi1 q (hclt q hq) (fun e' => hic (e' ▸ hq)) t (by rw [hdi, hd]) e)]
                  exact ht
                rw [hlook] at hF'
                rcases PhiF_cases _ hF' with ⟨k, hk, hkd, rfl⟩ | ⟨hno, _⟩
                · rw [hqget] at hkd
                  cases hqk : qis[k]? with
                  | none => rw [hqk] at hkd; simp at hkd
                  | some q =>
                    rw [hqk] at hkd
                    have hqm := List.mem_of_getElem? hqk
                    have hqi : q = i := Classical.byContradiction fun e => huq i hi1 q (hqc q hqm).2 (fun e' => e e'.symm) t (by rw [hdi, hd]) hkd
                    subst hqi
                    have := hqinj k m q hqk hmi
                    subst this
                    rw [hd] at hdo ⊢
                    exact act_put_eq (by rw [hsz]; exact hdo)
                · exact absurd (by rw [hqget, hmi]; show dstOf ops i = some t; rw [hdi, hd]) (hno m (by rw [pickO_len hql]; exact (List.getElem?_eq_some_iff.1 hmi).1))
              · rw [act_put_ne hd]
                rcases hG t u ht with ⟨q, hq1, hq2, hq3⟩ | hu
                · refine .inl ⟨q, hq1, fun e => ?_, hq3⟩
                  rcases (hLs q).1 e with e | e
                  · exact hd (by rw [← hdi, ← e]; exact hq3)
                  · exact hq2 e
                · exact .inr hu
          rcases hy a hreads with ⟨hno, hv⟩ | ⟨hyes, hrun⟩
          · rw [if_neg (by rw [hno]; simp)]
            rw [← hv]
            exact hnext
          · rw [if_pos hyes]
            refine .inl ?_
            unfold Oper.wp
            rcases hrun w' hWw with e | ⟨f, args, e, hcl2⟩
            · exact upon_val e hnext
            · rw [e]
              refine Calls.mono hcl2.out fun en w'' q => ?_
              cases en with
              | returned u => obtain ⟨q1, q2⟩ := q; subst q1; subst q2; exact hnext
              | panicked ch => exact q.elim
              | outgrown => exact q.elim
  have hf : ∀ i, i < ops.size → ¬ Lst (Array.replicate ops.size false) i := fun i hi hl => absurd hl (by unfold Lst; simp [Array.getD_eq_getD_getElem?, hi])
  refine main ops.size _ a0 _ 0 F' (by simp) (fun i hi hl => absurd hl (hf i hi)) ?_ (hf _ hN) ha0.1 ha0.2.1 hds (by rw [List.drop_zero]; exact hfin) (fun m i hi => ⟨fun hl => absurd hl (hf i (hclt i (List.mem_of_getElem? hi))), fun e => by omega⟩)
    (fun m i hi hl => absurd hl (hf i (hqc i (List.mem_of_getElem? hi)).2)) (fun t u ht _ => ha0.2.2 t u ht) (fun t u ht => ?_) (fun _ _ => rfl)
  · have : ∀ m, m ≤ ops.size → cnt (Array.replicate ops.size false) m ≤ m := by
      intro m
      induction m with
      | zero => intro _; simp [cnt]
      | succ m ihm => intro h; have := ihm (by omega); simp only [cnt]; split <;> omega
    exact this _ (Nat.le_refl _)
  · rw [hlook] at ht
    rcases PhiF_cases _ ht with ⟨k, hk, hkd, rfl⟩ | ⟨_, hu⟩
    · rw [hqget] at hkd
      cases hqk : qis[k]? with
      | none => rw [hqk] at hkd; simp at hkd
      | some q =>
        rw [hqk] at hkd
        have hqm := List.mem_of_getElem? hqk
        exact .inl ⟨q, hqm, hf q (hqc q hqm).2, hkd⟩
    · exact .inr (ha0.2.2 t u hu)
end
end Go.Sh
namespace Go.Sh
open Go.RowKit
set_option linter.unusedSectionVars false
set_option linter.unusedVariables false
set_option linter.unusedSimpArgs false
section
variable (P : Program) (T : Tab) (n : Nat) (W : World → Prop)
/-- an operation that only looks at memory -/
def tkOp (ev : Operand → Option Value) (o : Oper) (k : Value → Prop) : Prop :=
  match pu T.ts ev o.op with
  | some v => k v
  | none => match o.op with
    | .pick c a b => obp (ev c) fun vc => obp (ev a) fun va => obp (ev b) fun vb => match vc with | .bool t => Gd t (k va) (k vb) | _ => False
    | .load t a => obp (ev a) fun va => match va with
      | .pointer (some p) => match getT T.ts t with
        | none => False
        | some i => match aggD i.desc with
          | true => QLd W p i.size fun vs => k (.agg vs.toArray)
          | false => QLd1 W p fun v => k v
      | _ => False
    | .indexAddr t x i => obp (ev x) fun vx => obp (ev i) fun vi => match vi with
      | .int _ m => match getT T.ts t with
        | none => False
        | some ti => match ti.desc with
          | .slice e => match getT T.ts e with
            | none => False
            | some ei => match vx with | .slice A len _ => Ix A len m ei.size fun ad => k (.pointer (some ad)) | _ => False
          | .array len e => match getT T.ts e with
            | none => False
            | some ei => match vx with | .pointer (some p) => Ix (some p) len m ei.size fun ad => k (.pointer (some ad)) | _ => False
          | _ => False
      | _ => False
    | .index t x i => obp (ev x) fun vx => obp (ev i) fun vi => QSm P (Instr.index t vx vi) W k
    | .slice t x lo hi mx => obp (ev x) fun vx => obo (optL ev lo) fun a => obo (optL ev hi) fun b => obo (optL ev mx) fun c => QSm P (Instr.sliceAt t vx a b c) W k
    | .binOp b t x y _ => obp (ev x) fun vx => obp (ev y) fun vy => QSm P (do eqGuard b t x y vx vy; binOp b t vx vy) W k
    | .call c => alo (allSome (c.args.toList.map ev)) fun args => match c.callee with
      | .builtin b => match b with
        | .len => QSm P (Builtin.len_ c.argTypes o.type args.toArray) W k
        | .cap => QSm P (Builtin.cap_ c.argTypes o.type args.toArray) W k
        | _ => False
      | _ => False
    | _ => False
variable {P T n W}
def RunT (P : Program) (W : World → Prop) (ev : Operand → Option Value) (o : Oper) (v : Value) : Prop :=
  ∀ a : Act, (∀ x u, ev x = some u → a.eval x = u) → ∀ w, W w → (execOp a.eval o).run P w = Result.ok (.value v) w
theorem runt_val {ev : Operand → Option Value} {o : Oper} {v : Value} {k : Value → Prop} (hr : ∀ a : Act, (∀ x u, ev x = some u → a.eval x = u) → ∀ w, W w → (execOp a.eval o).run P w = Result.ok (.value v) w) (h : k v) : ∃ v, k v ∧ RunT P W ev o v := ⟨v, h, hr⟩
theorem runt_sm {ev : Operand → Option Value} {o : Oper} {s : Sem Value} {k : Value → Prop} (hr : ∀ a : Act, (∀ x u, ev x = some u → a.eval x = u) → execOp a.eval o = (do pure (.value (← s)))) (h : QSm P s W k) : ∃ v, k v ∧ RunT P W ev o v := by
  obtain ⟨v, h1, h2⟩ := h
  exact ⟨v, h2, fun a hev w hw => by rw [hr a hev]; simp [h1 w hw]⟩
theorem tkOp_run (hT : TabOk P T) {ev : Operand → Option Value} {o : Oper} {k : Value → Prop} (h : tkOp P T W ev o k) : ∃ v, k v ∧ RunT P W ev o v := by
  unfold tkOp at h
  split at h
  · rename_i v hv
    exact runt_val (fun a hev w _ => pu_sound hT.1 w hev hv) h
  · rename_i hnone; clear hnone
    split at h
    · -- pick
      rename_i c x y e
      replace h := obp_some h; obtain ⟨vc, hc, h⟩ := h
      replace h := obp_some h; obtain ⟨vx, hx, h⟩ := h
      replace h := obp_some h; obtain ⟨vy, hy, h⟩ := h
      split at h <;> try (exact h.elim)
      rename_i t
      cases t
      · exact runt_val (v := vy) (fun a hev w _ => by unfold execOp; simp [e, hev _ _ hc, hev _ _ hx, hev _ _ hy, asBool]) (h.2 rfl)
      · exact runt_val (v := vx) (fun a hev w _ => by unfold execOp; simp [e, hev _ _ hc, hev _ _ hx, hev _ _ hy, asBool]) (h.1 rfl)
    · -- load
      rename_i t x e
      replace h := obp_some h; obtain ⟨v, hx, h⟩ := h
      split at h <;> try (exact h.elim)
      rename_i p
      split at h <;> try (exact h.elim)
      rename_i i hi
      split at h
      · rename_i hag
        obtain ⟨vs, hc, h⟩ := h
        refine runt_val (v := .agg vs.toArray) (fun a hev w hw => ?_) h
        have := run_loadCells_list (P := P) w p vs (hc w hw).2
        rw [(hc w hw).1] at this
        unfold execOp
        simp [e, hev _ _ hx, Instr.loadAt, Instr.sureAddr, loadVar, run_isAgg hT.1 w hi, hag, run_size hT.1 hi, this]
      · rename_i hag
        obtain ⟨u, hu, h⟩ := h
        refine runt_val (v := u) (fun a hev w hw => ?_) h
        unfold execOp
        simp [e, hev _ _ hx, Instr.loadAt, Instr.sureAddr, loadVar, run_isAgg hT.1 w hi, hag, hu w hw]
    · -- indexAddr
      rename_i t x y e
      replace h := obp_some h; obtain ⟨v, hx, h⟩ := h
      replace h := obp_some h; obtain ⟨u, hy, h⟩ := h
      split at h <;> try (exact h.elim)
      rename_i kk n
      split at h <;> try (exact h.elim)
      rename_i ti hti
      split at h
      · rename_i el hd
        split at h <;> try (exact h.elim)
        rename_i ei hei
        split at h <;> try (exact h.elim)
        rename_i A len cap
        obtain ⟨hn, h0, h1, h⟩ := h
        obtain ⟨ad, rfl⟩ : ∃ ad, A = some ad := Option.ne_none_iff_exists'.1 hn
        simp only [gA] at h
        refine runt_val (v := .pointer (some (ad.add (n.toNat * ei.size)))) (fun a hev w hw => ?_) h
        unfold execOp
        simp [e, hev _ _ hx, hev _ _ hy, Instr.indexAt, asIntOf, run_und hT.1 hti, hd, h0, h1, run_size hT.1 hei]
      · rename_i len el hd
        split at h <;> try (exact h.elim)
        rename_i ei hei
        split at h <;> try (exact h.elim)
        rename_i p
        obtain ⟨_, h0, h1, h⟩ := h
        simp only [gA] at h
        refine runt_val (v := .pointer (some (p.add (n.toNat * ei.size)))) (fun a hev w hw => ?_) h
        unfold execOp
        simp [e, hev _ _ hx, hev _ _ hy, Instr.indexAt, asIntOf, run_und hT.1 hti, hd, h0, h1, run_size hT.1 hei, Instr.sureAddr]
      · exact h.elim
    · rename_i t x y e
      replace h := obp_some h; obtain ⟨v0, h0, h⟩ := h
      replace h := obp_some h; obtain ⟨v1, h1, h⟩ := h
      exact runt_sm (fun a hev => by unfold execOp; simp only [e, hev _ _ h0, hev _ _ h1]) h
    · rename_i t x lo hi mx e
      replace h := obp_some h; obtain ⟨v0, h0, h⟩ := h
      replace h := obo_some h; obtain ⟨v1, h1, h⟩ := h
      replace h := obo_some h; obtain ⟨v2, h2, h⟩ := h
      replace h := obo_some h; obtain ⟨v3, h3, h⟩ := h
      exact runt_sm (fun a hev => by unfold execOp; simp only [e, hev _ _ h0, optL_ev hev h1, optL_ev hev h2, optL_ev hev h3]) h
    · rename_i b t x y yt e
      replace h := obp_some h; obtain ⟨v0, h0, h⟩ := h
      replace h := obp_some h; obtain ⟨v1, h1, h⟩ := h
      exact runt_sm (fun a hev => by unfold execOp; simp only [e, hev _ _ h0, hev _ _ h1]) h
    · -- call
      rename_i c e
      replace h := alo_some h; obtain ⟨args, hargs, h⟩ := h
      split at h
      · rename_i b hc
        split at h
        · exact runt_sm (fun a hev => by unfold execOp; simp only [e, resolve, hc, map_ev hev hargs, pure_bind, invoke, builtin]) h
        · exact runt_sm (fun a hev => by unfold execOp; simp only [e, resolve, hc, map_ev hev hargs, pure_bind, invoke, builtin]) h
        · exact h.elim
      · exact h.elim
    · exact h.elim
section
variable (P : Program) (T : Tab) (n : Nat) (W : World → Prop)
def stepLn (all : List Oper) (aL : List Nat) (o : Oper) (_r : List Oper) (ih : Nat → Fr → World → (Fr → World → Prop) → Prop) (k : Nat) (F : Fr) (w : World) (kk : Fr → World → Prop) : Prop :=
  match dstOk n o.dst with
  | false => False
  | true => match memN aL k with
    | true => match o.guard with
      | none => exOp P T (evR o F) o w (fun v w' => W w' ∧ ih (k + 1) (F.put o.dst v) w' kk) (fun _ _ => False)
      | some _ => False
    | false => match o.guard with
      | none => tkOp P T W (evR o F) o (fun v => ih (k + 1) (F.put o.dst v) w kk)
      | some (j, want) => match guardV all F j with
        | none => False
        | some (d, v) => match v with
          | .bool b => match want with
            | true => Gd b (tkOp P T W (evR o (F.put (some d) (.bool true))) o (fun v => ih (k + 1) ((F.put (some d) (.bool true)).put o.dst v) w kk)) (ih (k + 1) ((F.put (some d) (.bool false)).put o.dst undef) w kk)
            | false => Gd b (ih (k + 1) ((F.put (some d) (.bool true)).put o.dst undef) w kk) (tkOp P T W (evR o (F.put (some d) (.bool false))) o (fun v => ih (k + 1) ((F.put (some d) (.bool false)).put o.dst v) w kk))
          | .tuple _ => ih (k + 1) (F.put o.dst undef) w kk
          | _ => False
def lnOps (all : List Oper) (aL : List Nat) (l : List Oper) : Nat → Fr → World → (Fr → World → Prop) → Prop :=
  List.rec (motive := fun _ => Nat → Fr → World → (Fr → World → Prop) → Prop) (fun _ F w k => k F w) (stepLn P T n W all aL) l
end
def linB (ops : Array Oper) (aL : List Nat) : Nat → Nat → Array Bool → Bool
  | 0, _, listed => (Region.ready .any ops listed).isEmpty
  | g + 1, k, listed => (match memN aL k with | true => decide (Region.ready .any ops listed = [k]) | false => (Region.ready .any ops listed).contains k && Region.free .any ops listed k) && linB ops aL g (k + 1) (listed.setIfInBounds k true)
def linAll (ops : Array Oper) (aL : List Nat) : Bool := Region.noSelect ops && linB ops aL ops.size 0 (Array.replicate ops.size false)
def Qn (n : Nat) (K : Fr → World → Prop) : Exit → Act → World → Prop := fun e a w => e = .normal ∧ ∃ F, Agr n F a ∧ K F w
theorem lnOps_sound (hT : TabOk P T) (all : List Oper) (aL : List Nat) (hsel : Region.noSelect all.toArray = true) {K : Fr → World → Prop} : ∀ (l : List Oper) (k : Nat) (listed : Array Bool) (F : Fr) (a : Act) (w : World),
    Agr n F a → W w → (∀ j, l[j]? = all.toArray[k + j]?) → linB all.toArray aL l.length k listed = true → lnOps P T n W all aL l k F w K → wpAnyH P .any all.toArray (Qn n K) W l.length listed a w
  | [], k, listed, F, a, w, ha, _, _, hB, h => ⟨List.isEmpty_iff.1 hB, rfl, F, ha, h⟩
  | o :: r, k, listed, F, a, w, ha, hw, hl, hB, h => by
    have ih := lnOps_sound hT all aL hsel (K := K) r (k + 1) (listed.setIfInBounds k true)
    have h0 : all.toArray[k]? = some o := by simpa using (hl 0).symm
    have hl' : ∀ j, r[j]? = all.toArray[k + 1 + j]? := fun j => by have := hl (j + 1); simpa [Nat.add_assoc, Nat.add_comm 1 j] using this
    change stepLn P T n W all aL o r (lnOps P T n W all aL r) k F w K at h
    unfold stepLn at h
    simp only [List.length_cons, linB, Bool.and_eq_true] at hB
    obtain ⟨hB1, hB2⟩ := hB
    split at h; · exact h.elim
    rename_i hd
    have tk : memN aL k = false → ∀ v, YieldsIf P all.toArray W o v a → (Agr n (F.put o.dst v) (a.put o.dst v) → wpAnyH P .any all.toArray (Qn n K) W r.length (listed.setIfInBounds k true) (a.put o.dst v) w) → wpAnyH P .any all.toArray (Qn n K) W (r.length + 1) listed a w := fun hm v hy hn => by
      rw [hm] at hB1
      simp only [Bool.and_eq_true] at hB1
      exact wpAnyH_take h0 hsel hB1.2 hB1.1 (fun c a w q => nomatch q.1) hy hw (hn (ha.put hd v))
    split at h
    · rename_i hm
      rw [hm] at hB1
      simp only [decide_eq_true_eq] at hB1
      split at h
      · rename_i hg
        refine ⟨fun e => absurd (e.symm.trans hB1) (by simp), fun i hi => ?_⟩
        rw [hB1] at hi
        have hik : i = k := by simpa using hi
        subst hik
        unfold wpOp
        simp only [h0]
        rw [if_pos (wanted_none hg)]
        refine .inl (exOp_sound hT (fun x v h => ha.ev x v (evR_evF h)) h (fun v w' q => ⟨q.1, ih _ _ _ (ha.put hd v) q.1 hl' hB2 q.2⟩) (fun ch w' q => q.elim))
      · exact h.elim
    · rename_i hm
      split at h
      · rename_i hg
        obtain ⟨v, hk, hr⟩ := tkOp_run hT h
        exact tk hm v (.inl ⟨wanted_none hg, hr a (fun x v h => ha.ev x v (evR_evF h))⟩) fun ha' => ih _ _ _ ha' hw hl' hB2 hk
      · rename_i j want hg
        split at h; · exact h.elim
        rename_i d v hgv
        obtain ⟨hld, hy⟩ := guard_yield ha hgv
        split at h
        · rename_i b
          simp only at hy
          split at h
          · cases b
            · exact tk hm undef (.inr ⟨by simp [Region.wanted, hg, hy], rfl⟩) fun _ => ih _ _ _ ((ha.same hld).put hd _) hw hl' hB2 (h.2 rfl)
            · obtain ⟨v, hk, hr⟩ := tkOp_run hT (h.1 rfl)
              exact tk hm v (.inl ⟨by simp [Region.wanted, hg, hy], hr a (fun x v h => (ha.same hld).ev x v (evR_evF h))⟩) fun _ => ih _ _ _ ((ha.same hld).put hd _) hw hl' hB2 hk
          · cases b
            · obtain ⟨v, hk, hr⟩ := tkOp_run hT (h.2 rfl)
              exact tk hm v (.inl ⟨by simp [Region.wanted, hg, hy], hr a (fun x v h => (ha.same hld).ev x v (evR_evF h))⟩) fun _ => ih _ _ _ ((ha.same hld).put hd _) hw hl' hB2 hk
            · exact tk hm undef (.inr ⟨by simp [Region.wanted, hg, hy], rfl⟩) fun _ => ih _ _ _ ((ha.same hld).put hd _) hw hl' hB2 (h.1 rfl)
        · simp only at hy
          exact tk hm undef (.inr ⟨by simp [Region.wanted, hg, hy], rfl⟩) fun ha' => ih _ _ _ ha' hw hl' hB2 h
        · exact h.elim
theorem wpOp_monoQ {P : Program} {ops : Array Oper} {Q Q' : Exit → Act → World → Prop} (hp : ∀ c a w, Q (.panic c) a w → Q' (.panic c) a w) (ho : ∀ a w, Q .outgrown a w → Q' .outgrown a w) {i : Nat} {a : Act} {w : World} {K : Act → World → Prop} (h : wpOp P ops Q i K a w) : wpOp P ops Q' i K a w := by
  unfold wpOp at *
  split
  · simpa [*] using h
  · rename_i o hoi
    simp only [hoi] at h
    split
    · rename_i hw
      simp only [hw, if_true] at h
      rcases h with h | ⟨h1, a', w', h2⟩
      · refine .inl ?_
        unfold Oper.wp at *
        generalize (execOp a.eval o).run P w = r at *
        cases r with
        | ok n w' =>
          cases n <;> simp only [Oper.upon] at h ⊢ <;>
            first
              | exact h
              | exact Calls.mono h (fun e w'' he => by cases e <;> first | exact he | exact hp _ _ _ he | exact (fun ⟨a', w', h'⟩ => ⟨a', w', ho _ _ h'⟩ : LetsOut Q → LetsOut Q') he)
              | exact Rows.mono h (fun _ _ he => he)
        | halt x w' => cases x <;> simp only [Oper.upon] at h ⊢ <;> first | exact hp _ _ _ h | exact h
      · exact .inr ⟨h1, a', w', ho _ _ h2⟩
    · rename_i hw
      simp only [hw] at h
      exact h
theorem wpAny_monoQ {P : Program} {md : Region.Mode} {ops : Array Oper} {Q Q' : Exit → Act → World → Prop} (hn : ∀ a w, Q .normal a w → Q' .normal a w) (hp : ∀ c a w, Q (.panic c) a w → Q' (.panic c) a w) (ho : ∀ a w, Q .outgrown a w → Q' .outgrown a w) : ∀ (fuel : Nat) (listed : Array Bool) (a : Act) (w : World), wpAny P md ops Q fuel listed a w → wpAny P md ops Q' fuel listed a w
  | 0, _, _, _, h => ⟨h.1, hn _ _ h.2⟩
  | f + 1, listed, a, w, h => ⟨fun e => hn _ _ (h.1 e), fun i hi => wpOp_monoQ hp ho (wpOp_mono (fun a w => wpAny_monoQ hn hp ho f _ a w) (h.2 i hi))⟩
theorem Dr.lin (hT : TabOk P T) (hm : P.follows .mixedOrders = true) (aL : List Nat) {id : Nat} {ops : Array Oper} {F : Fr} {w : World} {K : Exit → Fr → World → Prop} (hB : linAll ops aL = true)
    (h : ∀ W w1, QW W w Ext → (∀ w', Ext w w' → W w') → Ext w w1 → w1.heap.size = w.heap.size → lnOps P T n W ops.toList aL ops.toList 0 F w1 (fun F w => K .normal F w)) : Dr P n id ops F w K := by
  refine ⟨fun a ha => ?_⟩
  obtain ⟨l⟩ := ops
  simp only [linAll, Bool.and_eq_true] at hB
  have e1 : Ext w { w with drawn := w.drawn + 1 } := ⟨rfl, rfl, rfl, Nat.le_refl _, fun _ _ => rfl⟩
  have H := lnOps_sound (W := fun w' => Ext w w') hT l aL hB.1 l 0 (Array.replicate l.toArray.size false) F a { w with drawn := w.drawn + 1 } ha e1 (fun j => by simp) (by simpa using hB.2)
    (h (fun w' => Ext w w') _ ⟨fun _ q => q, fun a b q r => Ext.trans q r⟩ (fun _ q => q) e1 rfl)
  refine wp_region_any hm ?_
  refine wpAny_monoQ (fun a w q => ?_) (fun c a w q => ?_) (fun a w q => ?_) _ _ _ _ (wpAny_of_held _ _ _ _ H)
  · exact q.2
  · exact nomatch q.1
  · exact nomatch q.1
end
end Go.Sh
namespace Go.Sh
open Go.RowKit
set_option linter.unusedSectionVars false
set_option linter.unusedVariables false
set_option linter.unusedSimpArgs false
def bs (l : List UInt8) : ByteArray := ⟨l.toArray⟩
theorem bs_size (l : List UInt8) : (bs l).size = l.length := by simp [bs, ByteArray.size]
theorem bs_toList (l : List UInt8) : (bs l).data.toList = l := by simp [bs]
theorem bs_of (s : ByteArray) : s = bs s.data.toList := by cases s; simp [bs]
theorem bs_inj {a b : List UInt8} (h : bs a = bs b) : a = b := by
  have := congrArg (fun s : ByteArray => s.data.toList) h
  simpa [bs] using this
theorem bs_eq (a b : List UInt8) : (bs a == bs b) = decide (a = b) := by
  show ((bs a).data == (bs b).data) = _
  rw [Bool.eq_iff_iff]
  simp [bs]
theorem bs_get {l : List UInt8} {j : Nat} {b : UInt8} (h : l[j]? = some b) : (bs l)[j]? = some b := by
  obtain ⟨h1, h2⟩ := List.getElem?_eq_some_iff.1 h
  have h3 : j < (bs l).size := by rw [bs_size]; exact h1
  rw [getElem?_pos (bs l) j h3]
  congr 1
theorem bs_cut (l : List UInt8) (i j : Nat) : (bs l).extract i j = bs ((l.drop i).take (j - i)) := by
  have h : ((bs l).extract i j).data = (bs ((l.drop i).take (j - i))).data := by
    simp [bs, ByteArray.data_extract]
  cases hx : (bs l).extract i j; cases hy : bs ((l.drop i).take (j - i)); rw [hx, hy] at h; simp only at h; rw [h]
theorem bs_app (a b : List UInt8) : bs a ++ bs b = bs (a ++ b) := by
  have h : (bs a ++ bs b).data = (bs (a ++ b)).data := by
    simp [bs, ByteArray.data_append]
  cases hx : bs a ++ bs b; cases hy : bs (a ++ b); rw [hx, hy] at h; simp only at h; rw [h]
section
variable {P : Program} {T : Tab} {w : World} {k : Value → World → Prop} {Y : List PanicEntry → World → Prop} {t : TypeId} {ti : TI} {l m : List UInt8}
theorem run_strix (hT : TabOk P T) (ht : getT T.ts t = some ti) (hd : ti.desc = .string) {kl : IntKind} {j : Nat} {b : UInt8} (hx : l[j]? = some b) (w : World) : (Instr.index t (.string (bs l)) (.int kl (j : Int))).run P w = .ok (.int .u8 (b.toNat : Int)) w := by
  have hg := bs_get hx
  simp [Instr.index, asIntOf, run_und hT.1 ht, hd, hg]
theorem Sm.strix (hT : TabOk P T) {kl : IntKind} {a : Int} {j : Nat} {b : UInt8} (hk : k (.int .u8 (b.toNat : Int)) w) (ht : getT T.ts t = some ti := by rfl) (hd : ti.desc = .string := by rfl) (ha : a = (j : Int) := by first | with_reducible rfl | assumption) (hx : l[j]? = some b := by assumption) : Sm P (Instr.index t (.string (bs l)) (.int kl a)) w k Y := by
  subst ha
  exact ⟨by rw [run_strix hT ht hd hx]; exact hk⟩
theorem run_strcut (hT : TabOk P T) (ht : getT T.ts t = some ti) (hd : ti.desc = .string) {kl kh : IntKind} {i j : Nat} (hi : i ≤ j) (hj : j ≤ l.length) (w : World) : (Instr.sliceAt t (.string (bs l)) (some (.int kl (i : Int))) (some (.int kh (j : Int))) none).run P w = .ok (.string (bs ((l.drop i).take (j - i)))) w := by
  have hs := bs_size l
  have hbd : (Instr.sliceBounds false (bs l).size (bs l).size (some (.int kl (i : Int))) (some (.int kh (j : Int))) none).run P w = .ok (i, j, (bs l).size) w := by
    simp [Instr.sliceBounds, run_bound hi, run_bound (show j ≤ (bs l).size by omega)]
  simp [Instr.sliceAt, Instr.slice, run_und hT.1 ht, hd, hbd, bs_cut]
theorem Sm.strcut (hT : TabOk P T) {kl kh : IntKind} {a b : Int} {i j : Nat} (hi : i ≤ j) (hj : j ≤ l.length) (hk : k (.string (bs ((l.drop i).take (j - i)))) w) (ht : getT T.ts t = some ti := by rfl) (hd : ti.desc = .string := by rfl) (ha : a = (i : Int) := by first | with_reducible rfl | assumption) (hb : b = (j : Int) := by first | with_reducible rfl | assumption) : Sm P (Instr.sliceAt t (.string (bs l)) (some (.int kl a)) (some (.int kh b)) none) w k Y := by
  subst ha hb
  exact ⟨by rw [run_strcut hT ht hd hi hj]; exact hk⟩
theorem run_cat {x y : Operand} (h : l.length + m.length ≤ 9223372036854775807) (w : World) : (do eqGuard .add t x y (.string (bs l)) (.string (bs m)); binOp .add t (.string (bs l)) (.string (bs m)) : Sem Value).run P w = .ok (.string (bs (l ++ m))) w := by
  have hg : (eqGuard .add t x y (.string (bs l)) (.string (bs m))).run P w = .ok () w := by unfold eqGuard; simp
  have h1 := bs_size l
  have h2 := bs_size m
  have h3 : ¬ (((bs l).size : Int) + ((bs m).size : Int) > IntKind.i64.max) := by
    have : IntKind.i64.max = 9223372036854775807 := by decide
    omega
  simp [hg, binOp, Op.stringOp, bs_app]
  omega
theorem Sm.cat {x y : Operand} (h : l.length + m.length ≤ 9223372036854775807) (hk : k (.string (bs (l ++ m))) w) : Sm P (do eqGuard .add t x y (.string (bs l)) (.string (bs m)); binOp .add t (.string (bs l)) (.string (bs m)) : Sem Value) w k Y := ⟨by rw [run_cat h]; exact hk⟩
end
/-- an iterator over a string -/
abbrev si (r : Nat) (l : List UInt8) (p : Nat) : Ck := ⟨(· = r), fun w => w.heap[r]? = some (.stringIter (bs l) p), true, false⟩
theorem si_ok {r : Nat} {l : List UInt8} {p : Nat} {w : World} (h : w.heap[r]? = some (.stringIter (bs l) p)) : (si r l p).Ok w :=
  ⟨h, fun k hk => by subst hk; exact (Array.getElem?_eq_some_iff.1 h).1, fun w' _ hb => (hb r rfl).trans h⟩
section
variable {S : Nat → Prop} {w0 w : World} {Γ L R : List Ck} {P : Program} {T : Tab} {k : Value → World → Prop} {Y : List PanicEntry → World → Prop} {t ty : TypeId} {ti : TI} {l : List UInt8} {r p : Nat}
theorem Sm.srange (H : Hp S w0 w Γ) (hT : TabOk P T) (hk : ∀ r w', Hp S w0 w' (si r l 0 :: Γ) → w0.heap.size ≤ r → k (.pointer (some ⟨r, 0, none⟩)) w') (ht : getT T.ts t = some ti := by rfl) (hd : ti.desc = .string := by rfl) : Sm P (Instr.range t (.string (bs l))) w k Y := by
  have hrun : (Instr.range t (.string (bs l))).run P w = .ok (.pointer (some ⟨w.heap.size, 0, none⟩)) (w.alloc (.stringIter (bs l) 0)) := by
    simp only [Instr.range, Sem.run_bind, run_und hT.1 ht, hd, Result.andThen_ok, newObj, Sem.run_pure]
    simp [Sem.run, Result.andThen]
  refine ⟨?_⟩
  rw [hrun]
  refine hk _ _ (H.fr0 (Hp.one (Tch.of_ext (Ext.alloc w _)) (si_ok ?_) (fun k hk => .inr (by subst hk; exact Nat.le_refl _))) (.inl rfl)) H.size
  show (w.heap.push _)[w.heap.size]? = _
  simp
theorem Sm.snext {b : UInt8} (H : Hp S w0 w Γ) (hb : l[p]? = some b) (h7 : b.toNat < 128) (hk : ∀ w', Hp S w0 w' (L ++ si r l (p + 1) :: R) → k (.tuple #[.bool true, .int .i64 (p : Int), .int .i32 (b.toNat : Int)]) w')
    (u : Sp Γ L (si r l p) R := by (repeat (first | exact Sp.head | apply Sp.tail))) : Sm P (Instr.next (.pointer (some ⟨r, 0, none⟩)) true ty) w k Y := by
  have hr : w.heap[r]? = some (.stringIter (bs l) p) := H.mem (c := si r l p) (by rw [u.eq]; simp)
  have hg := bs_get hb
  have hsz := bs_size l
  have hpl := (List.getElem?_eq_some_iff.1 hb).1
  have hdec : Utf8.decode (bs l) p = (b.toNat, 1) := by
    have h0 : (bs l).get! (p + 0) = b := by
      have : (bs l).data[p]! = b := by simp [bs, hpl, (List.getElem?_eq_some_iff.1 hb).2]
      exact this
    unfold Utf8.decode
    simp only [h0]
    rw [if_pos h7]
  have hrun : (Instr.next (.pointer (some ⟨r, 0, none⟩)) true ty).run P w = .ok (.tuple #[.bool true, .int .i64 (p : Int), .int .i32 (b.toNat : Int)]) (ChangeMaps.setBlock w r (.stringIter (bs l) (p + 1))) := by
    have hlt : p < (bs l).size := by omega
    simp only [Instr.next, getObj, Sem.run_bind, Sem.run, hr, Result.andThen]
    simp [hlt, hdec, setObj, Sem.run, Result.andThen, hr, ChangeMaps.setBlock, goInt]
  refine ⟨?_⟩
  rw [hrun]
  have hupd : Upd r w (ChangeMaps.setBlock w r (.stringIter (bs l) (p + 1))) := by
    refine ⟨rfl, rfl, rfl, by simp [ChangeMaps.setBlock], fun j hj => ?_⟩
    show (w.heap.setIfInBounds r _)[j]? = w.heap[j]?
    rw [Array.getElem?_setIfInBounds, if_neg (fun e : r = j => hj e.symm)]
  refine hk _ (H.putS u (Hp.one ((Tch.refl _ _).upd hupd (.inl rfl)) (si_ok ?_) fun k hk => .inl hk) rfl (.inl rfl))
  show (w.heap.setIfInBounds r _)[r]? = _
  simp [(Array.getElem?_eq_some_iff.1 hr).1]
theorem Sm.send (H : Hp S w0 w Γ) (hp : l.length ≤ p) (hk : k (.tuple #[.bool false]) w) (hm : si r l p ∈ Γ := by (repeat (first | exact List.Mem.head _ | apply List.Mem.tail))) : Sm P (Instr.next (.pointer (some ⟨r, 0, none⟩)) true ty) w k Y := by
  have hr : w.heap[r]? = some (.stringIter (bs l) p) := H.mem hm
  have hsz := bs_size l
  have hlt : ¬ p < (bs l).size := by omega
  have hrun : (Instr.next (.pointer (some ⟨r, 0, none⟩)) true ty).run P w = .ok (.tuple #[.bool false]) w := by
    simp only [Instr.next, getObj, Sem.run_bind, Sem.run, hr, Result.andThen]
    simp [hlt, Sem.run]
  exact ⟨by rw [hrun]; exact hk⟩
end
theorem Gd.sy {a b : List UInt8} {c : ByteArray} {X Y : Prop} (h : a = b) (hx : X) (hc : c = bs b := by rfl) : Gd (bs a == c) X Y := by
  subst h hc
  have hb : (bs a == bs a) = true := by rw [bs_eq]; simp
  exact ⟨fun _ => hx, fun h => absurd (h.symm.trans hb) (by simp)⟩
theorem Gd.sn {a b : List UInt8} {c : ByteArray} {X Y : Prop} (h : a ≠ b) (hy : Y) (hc : c = bs b := by rfl) : Gd (bs a == c) X Y := by
  subst hc
  have hb : (bs a == bs b) = false := by rw [bs_eq]; exact decide_eq_false h
  exact ⟨fun h => absurd (h.symm.trans hb) (by simp), fun _ => hy⟩
theorem Gd.ss {a b : List UInt8} {c : ByteArray} {X Y : Prop} (hc : c = bs b) (h1 : a = b → X) (h2 : a ≠ b → Y) : Gd (bs a == c) X Y := by
  by_cases h : a = b
  · exact Gd.sy h (h1 h) hc
  · exact Gd.sn h (h2 h) hc
theorem Gd.sk {a b : List UInt8} {c : ByteArray} {X Y : Prop} (h : a = b) (hy : Y) (hc : (bs b == c) = false := by rfl) : Gd (bs a == c) X Y := by
  subst h
  exact ⟨fun h => absurd (h.symm.trans hc) (by simp), fun _ => hy⟩
section
variable {P : Program} {T : Tab} {w : World} {k : Value → World → Prop} {Y : List PanicEntry → World → Prop} {t e : TypeId} {ti ei : TI}
theorem run_arrix (hT : TabOk P T) {len i : Nat} {kl : IntKind} {cs : Array Value} {v : Value} (ht : getT T.ts t = some ti) (hd : ti.desc = .array len e) (he : getT T.ts e = some ei) (hag : aggD ei.desc = false) (hsz : ei.size = 1) (hi : i < len) (hv : cs.toList[i]? = some v) (w : World) : (Instr.index t (.agg cs) (.int kl (i : Int))).run P w = .ok v w := by
  have hp : partF T.ts e cs.toList (i * 1) = some v := by
    unfold partF
    rw [he]
    simp only [hag, Nat.mul_one]
    exact hv
  have h1 : ((0 : Int) ≤ (i : Int) ∧ (i : Int) < (len : Int)) := by omega
  simp [Instr.index, asIntOf, run_und hT.1 ht, hd, h1, run_size hT.1 he, hsz]
  rw [if_pos hi]
  exact run_part hT.1 w (by simpa using hp)
theorem Sm.arrix (hT : TabOk P T) {len i : Nat} {kl : IntKind} {cs : Array Value} {v : Value} {a : Int} (hv : cs.toList[i]? = some v) (hi : i < len) (hk : k v w) (ha : a = (i : Int) := by first | with_reducible rfl | assumption) (ht : getT T.ts t = some ti := by rfl) (hd : ti.desc = .array len e := by rfl) (he : getT T.ts e = some ei := by rfl) (hag : aggD ei.desc = false := by rfl) (hsz : ei.size = 1 := by rfl) : Sm P (Instr.index t (.agg cs) (.int kl a)) w k Y := by
  subst ha
  exact ⟨by rw [run_arrix hT ht hd he hag hsz hi hv]; exact hk⟩
theorem Ld.all {α : Type} {g : α → Value} {p : Addr} {l : List α} {m : Nat} {kk : List Value → Prop} (h : RdS (fun x => [g x]) 1 w (some p) l) (hk : kk (l.map g)) (hm : l.length = m := by rfl) : Ld w p m kk := by
  refine ⟨l.map g, by simpa using hm, fun i v hv => ?_, hk⟩
  rw [List.getElem?_map] at hv
  cases hx : l[i]? with
  | none => rw [hx] at hv; simp at hv
  | some x =>
    rw [hx] at hv
    simp only [Option.map_some, Option.some.injEq] at hv
    obtain ⟨vs, h1, h2, h3⟩ := h.at_ i x hx
    unfold Fl at h2
    subst h2
    have := h3 0 (g x) rfl
    subst hv
    simpa [gA] using this
end
theorem Gd.sY {a : List UInt8} {c : ByteArray} {X Y : Prop} (h : a = c.data.toList) (hx : X) : Gd (bs a == c) X Y := Gd.sy h hx (bs_of c)
theorem Gd.sN {a : List UInt8} {c : ByteArray} {X Y : Prop} (h : ¬ a = c.data.toList) (hy : Y) : Gd (bs a == c) X Y := Gd.sn h hy (bs_of c)
end Go.Sh
namespace Go.Sh
set_option linter.unusedVariables false
set_option linter.unusedSimpArgs false
structure DCl (P : Program) (f : Nat) (args : Array Value) (u : FrameMode) (w : World) (k : FrameMode → World → Prop) : Prop where
  of ::
  out : CallsD P f args u w fun e u' w' => match e with | .returned _ => k u' w' | _ => False
def retR (T : List (Nat × TI)) (rs : List ResultVar) (R : Value → World → Prop) (F : Fr) (w : World) : Prop :=
  match retV F rs with
  | none => False
  | some l => getR T w l fun vs => R (oneV vs) w
def dfT (fs : List Nat) (d : Deferred) (k : Nat → Array Value → Prop) : Prop :=
  match d.target with
  | .fn fn cap => match fn with
    | .func g => match memN fs g with | true => k g (cat d.args.toList cap.toList).toArray | false => False
    | _ => False
  | _ => False
def retD (P : Program) (T : Tab) (rs : List ResultVar) (R : Value → World → Prop) (X : List PanicEntry → World → Prop) : Exit → Fr → World → Prop := fun e F w =>
  match e with
  | .normal | .ret => match F.ds with
    | [] => retR T.ts rs R F w
    | d :: ds => match ds with
      | [] => dfT T.fs d fun g args => DCl P g args .returning w fun u w' => u = .returning ∧ retR T.ts rs R F w'
      | _ => False
  | .panic ch => match F.ds with
    | [] => X ch w
    | d :: ds => match ds with
      | [] => dfT T.fs d fun g args => DCl P g args (.panicking ch) w fun u w' => match settle u with
        | .returning => retR T.ts rs R F w'
        | .panicking ch' => X ch' w'
        | .run => False
      | _ => False
  | _ => False
section
variable {P : Program} {T : Tab}
theorem dfT_some (hT : TabOk P T) {d : Deferred} {k : Nat → Array Value → Prop} (h : dfT T.fs d k) : ∃ fv cap g args, d.target = .fn fv cap ∧ (∀ w, (invoke d.target d.args).run P w = .ok (.enter g args) w) ∧ k g args := by
  unfold dfT at h
  split at h <;> try (exact h.elim)
  rename_i fn cap ht
  split at h <;> try (exact h.elim)
  rename_i g
  split at h <;> try (exact h.elim)
  rename_i hm
  obtain ⟨fn', hf, hn, hb⟩ := hT.2.get hm
  refine ⟨_, _, _, _, ht, fun w => ?_, h⟩
  rw [ht]
  have e : (cat d.args.toList cap.toList).toArray = d.args ++ cap := by
    unfold cat
    split
    · rename_i hc; simp [Array.toList_eq_nil_iff] at hc; simp [hc]
    · rename_i hc; apply Array.ext'; simp
  rw [e]
  have hn' : ¬ fn'.name = "runtime.NumGoroutine" := by simpa using hn
  have hb' : ¬ fn'.body = none := by
    intro h0; rw [h0] at hb; simp at hb
  simp [invoke, callFunc, hf, hn', hb']
theorem calls_exd (hT : TabOk P T) {f : FuncId} {fn : Func} {c : Code} {args : List Value} {w : World} {R : Value → World → Prop} {X : List PanicEntry → World → Prop} {m : Nat} {rs : List ResultVar}
    (hf : P.funcs[f]? = some fn) (hb : fn.body = some c) (hm : fn.ntmps = m) (hrs : fn.results.toList = rs) (hn : Nat.ble args.length m = true)
    (h : exC P T m c ⟨argsEnv args 0, []⟩ w (retD P T rs R X)) : Cl P f args.toArray w R X := by
  subst hm hrs
  let Q : Ending → World → Prop := fun e w' => match e with | .returned v => R v w' | .panicked ch => X ch w' | .outgrown => False
  refine ⟨calls_of_wp_defers hf hb (wp_mono (exC_sound hT c _ _ w _ (Agr.enter hn) h) fun e a' w' q => ?_)⟩
  obtain ⟨F', ha', q⟩ := q
  have res : ∀ w', retR T.ts fn.results.toList R F' w' → ∃ v, (results fn a'.tmps).run P w' = .ok v w' ∧ Q (.returned v) w' := fun w' q => by
    unfold retR at q
    split at q <;> try (exact q.elim)
    rename_i l hl
    obtain ⟨vs, hr, q⟩ := run_results hT w' ha' hl q
    exact ⟨_, hr, q⟩
  have fin : ∀ w' u', (match settle u' with | .returning => retR T.ts fn.results.toList R F' w' | .panicking ch' => X ch' w' | .run => False) → Leaves P fn a'.tmps Q [] (settle u') w' := fun w' u' q => by
    split at q <;> rename_i hs <;> rw [hs]
    · exact res w' q
    · exact q
    · exact q.elim
  have key : retD P T fn.results.toList R X .ret F' w' → Leaves P fn a'.tmps Q a'.defers .returning w' := fun q => by
    unfold retD at q
    simp only at q
    rw [ha'.2.1]
    split at q
    · rename_i hds; rw [hds]; exact res w' q
    · rename_i d ds hds
      rw [hds]
      split at q <;> try (exact q.elim)
      obtain ⟨fv, cap, g, args, h1, h2, hd⟩ := dfT_some hT q
      refine ⟨by simp, fv, cap, g, args, h1, h2 w', CallsD.mono hd.out fun e u' w'' q => ?_⟩
      cases e with
      | returned v =>
        obtain ⟨rfl, q⟩ := q
        exact fin w'' .returning (by simpa [settle] using q)
      | panicked ch => exact q.elim
      | outgrown => exact q.elim
  cases e with
  | normal => exact key q
  | ret => exact key q
  | panic ch =>
    unfold retD at q
    simp only at q
    show Leaves P fn a'.tmps Q a'.defers (.panicking ch) w'
    rw [ha'.2.1]
    split at q
    · rename_i hds; rw [hds]; exact q
    · rename_i d ds hds
      rw [hds]
      split at q <;> try (exact q.elim)
      obtain ⟨fv, cap, g, args, h1, h2, hd⟩ := dfT_some hT q
      refine ⟨by simp, fv, cap, g, args, h1, h2 w', CallsD.mono hd.out fun e u' w'' q => ?_⟩
      cases e with
      | returned v => exact fin w'' u' q
      | panicked ch => exact q.elim
      | outgrown => exact q.elim
  | _ => exact q.elim
/-- a closure whose first region recovers alone -/
theorem DCl.recov (hT : TabOk P T) {f : FuncId} {fn : Func} {args : List Value} {w : World} {k : FrameMode → World → Prop} {m id d : Nat} {o : Oper} {c2 : Code} {u u1 : FrameMode} {v : Value}
    (hf : P.funcs[f]? = some fn) (hb : fn.body = some (.seq (.region id #[o] false) c2)) (hm : fn.ntmps = m) (hrs : fn.results = #[]) (hn : Nat.ble args.length m = true)
    (ho : ∀ ρ w, (execOp ρ o).run P w = .ok .recover w) (hg : o.guard = none) (hd : o.dst = some d) (hdn : Nat.blt d m = true)
    (hu : (u = .returning ∧ v = .nilIface ∧ u1 = .returning) ∨ ∃ x, u = .panicking [{ v := x, recovered := false }] ∧ v = x ∧ u1 = .panicking [{ v := x, recovered := true }])
    (h : exC P T m c2 ⟨(d, v) :: argsEnv args 0, []⟩ w (fun e F w' => match e with | .normal | .ret => F.ds = [] ∧ k u1 w' | _ => False)) : DCl P f args.toArray u w k := by
  subst hm
  refine ⟨callsD_of_wpS hf hb fun c₀ cs hc => ?_⟩
  refine wpS_seq (wpS_region ?_)
  have hr0 : List.range (#[o] : Array Oper).size = [0] := rfl
  rw [hr0]
  have ha := (Agr.enter (fn := fn) hn).put (d := some d) (by simpa [dstOk] using hdn) v
  have fin : ∀ c₁ : Frame, c₁ = { c₀ with mode := u1 } → c2.wpS P (bodyPostS P fn c₀ cs (fun e u' w' => match e with | .returned _ => k u' w' | _ => False)) (Act.put { tmps := args.toArray ++ Array.replicate (fn.ntmps - args.toArray.size) undef, defers := [] } (some d) v) (c₁ :: cs) w := fun c₁ h1 => by
    refine wpS_of_wp (wp_mono (exC_sound hT c2 _ _ w _ ha (by exact h)) fun e a' w' q => ?_)
    obtain ⟨F', ha', q⟩ := q
    cases e with
    | normal =>
      refine ⟨ha'.2.1.trans q.1, u1, by rw [h1], .tuple #[], ?_, q.2⟩
      exact (by simp [results, hrs] : (results fn a'.tmps).run P w' = .ok (.tuple #[]) w')
    | ret =>
      refine ⟨ha'.2.1.trans q.1, u1, by rw [h1], .tuple #[], ?_, q.2⟩
      exact (by simp [results, hrs] : (results fn a'.tmps).run P w' = .ok (.tuple #[]) w')
    | _ => exact q.elim
  unfold wpOpsS
  simp only [List.getElem?_toArray, List.getElem?_cons_zero, wanted_none hg, if_true, ho, hd]
  rcases hu with ⟨h1, rfl, h3⟩ | ⟨x, h1, rfl, h3⟩
  · have : recoverD (c₀ :: cs) = none := by simp [recoverD, hc, h1]
    simp only [this]
    exact fin c₀ (by rw [h3, ← h1, ← hc])
  · have : recoverD (c₀ :: cs) = some (v, { c₀ with mode := u1 } :: cs) := by simp [recoverD, hc, h1, h3]
    simp only [this]
    exact fin _ rfl
theorem DCl.mono {f : Nat} {args : Array Value} {u : FrameMode} {w : World} {k k' : FrameMode → World → Prop} (h : DCl P f args u w k) (hk : ∀ u' w', k u' w' → k' u' w') : DCl P f args u w k' :=
  ⟨CallsD.mono h.out fun e u' w' q => by
    cases e with
    | returned v => exact hk u' w' q
    | panicked ch => exact q.elim
    | outgrown => exact q.elim⟩
theorem Sm.ran {s : Sem Value} {w w' : World} {v : Value} {k : Value → World → Prop} {X : List PanicEntry → World → Prop} (h : s.run P w = .ok v w') (hk : k v w') : Sm P s w k X := ⟨by rw [h]; exact hk⟩
end
end Go.Sh
namespace Go.Sh
open Go.RowKit
set_option linter.unusedSectionVars false
set_option linter.unusedVariables false
set_option linter.unusedSimpArgs false
section
variable {S : Nat → Prop} {w0 w w' : World} {Γ L R : List Ck} {α : Type} {enc : α → List Value} {sz c : Nat} {e : TypeId} {A : Option Addr} {l : List α} {x : α} {k : World → Prop} {a b : Ck}
theorem Hp.swap (H : Hp S w0 w (a :: b :: Γ)) : Hp S w0 w (b :: a :: Γ) := H.perm (List.Perm.swap b a Γ)
/-- the pieces behind the first under a name -/
theorem Hp.hide (H : Hp S w0 w (a :: Γ)) : ∃ Γ', Γ' = Γ ∧ Hp S w0 w (a :: Γ') := ⟨Γ, rfl, H⟩
theorem putL_get {cs vs : List Value} {o j : Nat} (h : o + vs.length ≤ cs.length) : (putL cs o vs)[j]? = if j < o then cs[j]? else if j < o + vs.length then vs[j - o]? else cs[j]? := by
  unfold putL
  rw [List.append_assoc]
  split
  · rw [List.getElem?_append_left (by simp; omega), List.getElem?_take_of_lt (by omega)]
  · rw [List.getElem?_append_right (by simp; omega), List.length_take, Nat.min_eq_left (by omega)]
    split
    · rw [List.getElem?_append_left (by omega)]
    · rw [List.getElem?_append_right (by omega), List.getElem?_drop]
      congr 1; omega
/-- an element of a growing slice is written -/
theorem St.elq {i : Nat} (H : Hp S w0 w Γ) (hx : (enc x).length = sz) (hi : i < l.length) (h1 : (enc x).all Value.oneCell' = true)
    (hk : ∀ w', Hp S w0 w' (L ++ qu enc sz e A c (l.set i x) :: R) → k w') (u : Sp Γ L (qu enc sz e A c l) R := by (repeat (first | exact Sp.head | apply Sp.tail))) : St w ((gA A).add (i * sz)) (enc x) k := by
  have hq : Que enc sz e w 0 A c l := H.mem (c := qu enc sz e A c l) (by rw [u.eq]; simp)
  rcases hq.place with ⟨_, hc⟩ | ⟨b, off, cs, rfl, hB, hb, hfit, hat⟩
  · have := hq.le; omega
  have hlen := flat_len hq.sizes
  have h5 : i * sz + sz ≤ l.length * sz := by
    have : (i + 1) * sz ≤ l.length * sz := Nat.mul_le_mul_right sz hi
    rw [Nat.add_mul, Nat.one_mul] at this; exact this
  have h6 : l.length * sz ≤ c * sz := Nat.mul_le_mul_right sz hq.le
  have e1 : (gA (some ⟨b, off, none⟩)).add (i * sz) = ⟨b, off + i * sz, none⟩ := by simp only [gA]; rw [add_lit]
  rw [e1]
  refine St.upd hb (Nat.ble_eq_true_of_le (by rw [hx]; omega)) h1 fun w' up hb' => hk w' (H.putS u (Hp.one ((Tch.refl _ _).upd up (.inl rfl)) (qu_ok (Que.of_blk hb' hB ?_ ?_ ?_ ?_)) fun k hk => .inl hk) rfl (.inl rfl))
  · intro y hy
    rcases List.mem_or_eq_of_mem_set hy with h | h
    · exact hq.sizes y h
    · rw [h]; exact hx
  · rw [List.length_set]; exact hq.le
  · unfold putL; simp only [List.length_append, List.length_take, List.length_drop, hx]; omega
  · intro j v hv
    rw [← putL_el hq.sizes hx hi, putL_get (by rw [hlen, hx]; exact h5)] at hv
    rw [putL_get (by rw [hx]; omega)]
    split at hv
    · rw [if_pos (by omega)]; exact hat j v hv
    · split at hv
      · rw [if_neg (by omega), if_pos (by omega), show off + j - (off + i * sz) = j - i * sz by omega]; exact hv
      · rw [if_neg (by omega), if_neg (by omega)]; exact hat j v hv
end
section
variable {S : Nat → Prop} {w0 w : World} {Γ : List Ck}
/-- one piece as two -/
theorem Hp.split2 {e c d : Ck} (H : Hp S w0 w (e :: Γ)) (heo : e.own = true) (hfp : ∀ k, c.fp k ∨ d.fp k → e.fp k) (hok : e.Ok w → c.Ok w ∧ d.Ok w ∧ ∀ k, ¬ (c.fp k ∧ d.fp k)) : Hp S w0 w (c :: d :: Γ) := by
  have hs := List.pairwise_cons.1 H.sep
  obtain ⟨h1, h2, h3⟩ := hok (H.ok e (by simp))
  refine ⟨H.tch, fun b hb => ?_, List.pairwise_cons.2 ⟨fun b hb _ k hk => ?_, List.pairwise_cons.2 ⟨fun b hb _ k hk => ?_, hs.2⟩⟩, fun b hb hb' k hk => ?_⟩
  · rcases List.mem_cons.1 hb with rfl | hb
    · exact h1
    · rcases List.mem_cons.1 hb with rfl | hb
      · exact h2
      · exact H.ok b (by simp [hb])
  · rcases List.mem_cons.1 hb with rfl | hb
    · exact h3 k hk
    · exact hs.1 b hb (.inl heo) k ⟨hfp k (.inl hk.1), hk.2⟩
  · exact hs.1 b hb (.inl heo) k ⟨hfp k (.inr hk.1), hk.2⟩
  · rcases List.mem_cons.1 hb with rfl | hb
    · exact H.dom e (by simp) (.inl heo) k (hfp k (.inl hk))
    · rcases List.mem_cons.1 hb with rfl | hb
      · exact H.dom e (by simp) (.inl heo) k (hfp k (.inr hk))
      · exact H.dom b (by simp [hb]) hb' k hk
/-- a piece that says less -/
theorem Hp.less {e c : Ck} (H : Hp S w0 w (e :: Γ)) (heo : e.own = true) (hfp : ∀ k, c.fp k → e.fp k) (hok : e.Ok w → c.Ok w) : Hp S w0 w (c :: Γ) := by
  have hs := List.pairwise_cons.1 H.sep
  refine ⟨H.tch, fun b hb => ?_, List.pairwise_cons.2 ⟨fun b hb _ k hk => hs.1 b hb (.inl heo) k ⟨hfp k hk.1, hk.2⟩, hs.2⟩, fun b hb hb' k hk => ?_⟩
  · rcases List.mem_cons.1 hb with rfl | hb
    · exact hok (H.ok e (by simp))
    · exact H.ok b (by simp [hb])
  · rcases List.mem_cons.1 hb with rfl | hb
    · exact H.dom e (by simp) (.inl heo) k (hfp k hk)
    · exact H.dom b (by simp [hb]) hb' k hk
end
theorem QLd1.own {W : World → Prop} {b o : Nat} {t : TypeId} {vs : List Value} {v : Value} {k : Value → Prop} (h : ∀ w', W w' → Blk w' b t vs) (hk : k v) (hv : vs[o]? = some v := by rfl) : QLd1 W ⟨b, o, none⟩ k :=
  ⟨v, fun w' hw' => ((h w' hw').cell o).trans hv, hk⟩
theorem QLd1.rsw {α : Type} {enc : α → List Value} {W : World → Prop} {A : Option Addr} {l : List α} {i : Nat} {x : α} {v : Value} {k : Value → Prop} (h : ∀ w', W w' → RdS enc 1 w' A l) (hk : k v) (hx : l[i]? = some x := by assumption) (hv : (enc x)[0]? = some v := by rfl) : QLd1 W ((gA A).add (i * 1)) k := by
  refine ⟨v, fun w' hw' => ?_, hk⟩
  obtain ⟨vs, h1, h2, h3⟩ := (h w' hw').at_ i x hx
  unfold Fl at h2
  subst h2
  simpa using h3 0 v hv
theorem QLd1.rswF {α : Type} {enc : α → List Value} {sz : Nat} {W : World → Prop} {A : Option Addr} {l : List α} {i o : Nat} {x : α} {v : Value} {k : Value → Prop} (h : ∀ w', W w' → RdS enc sz w' A l) (hk : k v) (hx : l[i]? = some x := by assumption) (hv : (enc x)[o]? = some v := by rfl) : QLd1 W (pAdd ((gA A).add (i * sz)) o) k := by
  refine ⟨v, fun w' hw' => ?_, hk⟩
  obtain ⟨vs, h1, h2, h3⟩ := (h w' hw').at_ i x hx
  unfold Fl at h2
  subst h2
  rw [pAdd_add]
  exact h3 o v hv
theorem Hp.bq {S : Nat → Prop} {w0 w : World} {Γ : List Ck} {p sz : Nat} {t : TypeId} {α : Type} {enc : α → List Value} {l : List α} (H : Hp S w0 w (bk p t (l.flatMap enc) :: Γ)) (hm : ∀ x ∈ l, (enc x).length = sz) : Hp S w0 w (qu enc sz t (some ⟨p, 0, none⟩) l.length l :: Γ) := by
  have hs := List.pairwise_cons.1 H.sep
  have hfp : ∀ k, (qu enc sz t (some ⟨p, 0, none⟩) l.length l).fp k → (bk p t (l.flatMap enc)).fp k := fun k hk => by
    have : some p = some k := hk
    simpa using this.symm
  refine ⟨H.tch, fun b hb => ?_, List.pairwise_cons.2 ⟨fun b hb h k hk => hs.1 b hb (.inl rfl) k ⟨hfp k hk.1, hk.2⟩, hs.2⟩, fun b hb hb' k hk => ?_⟩
  · rcases List.mem_cons.1 hb with rfl | hb
    · exact qu_ok (Que.of_full (H.blk 0 rfl) (Nat.zero_le _) hm)
    · exact H.ok b (by simp [hb])
  · rcases List.mem_cons.1 hb with rfl | hb
    · exact H.dom _ (List.mem_cons_self ..) (.inl rfl) k (hfp k hk)
    · exact H.dom b (by simp [hb]) hb' k hk
def sumL (l : List Int) : Int := l.foldl (fun h x => IntKind.i64.wrap (IntKind.i64.wrap (h * 31) + x)) 0
end Go.Sh
namespace Go.Proofs.YtfnjodpehomgfaaDoor
open Go Go.Sh
set_option maxRecDepth 100000
namespace T
def t0 : TI := ⟨.tuple #[], 1, 0, (.tuple #[]), false⟩
def t1 : TI := ⟨.func #[] #[] false, 1, 8, .nilFunc, false⟩
def t2 : TI := ⟨.int .i64, 1, 8, (.int .i64 0), false⟩
def t3 : TI := ⟨.int .i64, 1, 8, (.int .i64 0), false⟩
def t4 : TI := ⟨.bool, 1, 1, (.bool false), false⟩
def t5 : TI := ⟨.int .u8, 1, 1, (.int .u8 0), false⟩
def t9 : TI := ⟨.string, 1, 16, (.string ⟨#[]⟩), false⟩
def t12 : TI := ⟨.int .u64, 1, 8, (.int .u64 0), false⟩
def t13 : TI := ⟨.struct #[⟨"msg", 9, 0, false, "", "runtime", 0⟩, ⟨"addr", 12, 1, false, "", "runtime", 16⟩], 2, 24, (.agg #[(.string ⟨#[]⟩), (.int .u64 0)]), false⟩
def t20 : TI := ⟨.interface #[], 1, 16, .nilIface, false⟩
def t21 : TI := ⟨.int .i32, 1, 4, (.int .i32 0), false⟩
def t22 : TI := ⟨.slice 9, 1, 24, (.slice none 0 0), false⟩
def t23 : TI := ⟨.func #[] #[22] false, 1, 8, .nilFunc, false⟩
def t24 : TI := ⟨.func #[3, 3] #[3] false, 1, 8, .nilFunc, false⟩
def t25 : TI := ⟨.slice 27, 1, 24, (.slice none 0 0), false⟩
def t26 : TI := ⟨.struct #[⟨"Kind", 3, 0, false, "", "", 0⟩, ⟨"Op", 3, 1, false, "", "", 8⟩, ⟨"K", 2, 2, false, "", "", 16⟩, ⟨"Name", 9, 3, false, "", "", 24⟩, ⟨"Comb", 9, 4, false, "", "", 40⟩, ⟨"Kids", 25, 5, false, "", "", 56⟩], 6, 80, (.agg #[(.int .i64 0), (.int .i64 0), (.int .i64 0), (.string ⟨#[]⟩), (.string ⟨#[]⟩), (.slice none 0 0)]), false⟩
def t27 : TI := ⟨.struct #[⟨"Kind", 3, 0, false, "", "", 0⟩, ⟨"Op", 3, 1, false, "", "", 8⟩, ⟨"K", 2, 2, false, "", "", 16⟩, ⟨"Name", 9, 3, false, "", "", 24⟩, ⟨"Comb", 9, 4, false, "", "", 40⟩, ⟨"Kids", 25, 5, false, "", "", 56⟩], 6, 80, (.agg #[(.int .i64 0), (.int .i64 0), (.int .i64 0), (.string ⟨#[]⟩), (.string ⟨#[]⟩), (.slice none 0 0)]), false⟩
def t28 : TI := ⟨.tuple #[27, 4], 1, 0, (.tuple #[(.agg #[(.int .i64 0), (.int .i64 0), (.int .i64 0), (.string ⟨#[]⟩), (.string ⟨#[]⟩), (.slice none 0 0)]), (.bool false)]), false⟩
def t29 : TI := ⟨.func #[9] #[27, 4] false, 1, 8, .nilFunc, false⟩
def t30 : TI := ⟨.func #[27, 27] #[4] false, 1, 8, .nilFunc, false⟩
def t31 : TI := ⟨.func #[3] #[3] false, 1, 8, .nilFunc, false⟩
def t32 : TI := ⟨.func #[3, 3] #[4] false, 1, 8, .nilFunc, false⟩
def t33 : TI := ⟨.func #[2] #[9] false, 1, 8, .nilFunc, false⟩
def t34 : TI := ⟨.func #[2] #[4] false, 1, 8, .nilFunc, false⟩
def t35 : TI := ⟨.slice 47, 1, 24, (.slice none 0 0), false⟩
def t36 : TI := ⟨.struct #[⟨"Fns", 35, 0, false, "", "", 0⟩], 1, 24, (.agg #[(.slice none 0 0)]), false⟩
def t37 : TI := ⟨.struct #[⟨"Fns", 35, 0, false, "", "", 0⟩], 1, 24, (.agg #[(.slice none 0 0)]), false⟩
def t38 : TI := ⟨.int .i64, 1, 8, (.int .i64 0), false⟩
def t39 : TI := ⟨.struct #[⟨"Err", 38, 0, false, "", "", 0⟩, ⟨"At", 3, 1, false, "", "", 8⟩], 2, 16, (.agg #[(.int .i64 0), (.int .i64 0)]), true⟩
def t40 : TI := ⟨.struct #[⟨"Err", 38, 0, false, "", "", 0⟩, ⟨"At", 3, 1, false, "", "", 8⟩], 2, 16, (.agg #[(.int .i64 0), (.int .i64 0)]), true⟩
def t41 : TI := ⟨.tuple #[37, 40], 1, 0, (.tuple #[(.agg #[(.slice none 0 0)]), (.agg #[(.int .i64 0), (.int .i64 0)])]), false⟩
def t42 : TI := ⟨.func #[9] #[37, 40] false, 1, 8, .nilFunc, false⟩
def t43 : TI := ⟨.func #[] #[4] false, 1, 8, .nilFunc, false⟩
def t44 : TI := ⟨.func #[9, 9] #[4] false, 1, 8, .nilFunc, false⟩
def t45 : TI := ⟨.slice 49, 1, 24, (.slice none 0 0), false⟩
def t46 : TI := ⟨.struct #[⟨"Name", 9, 0, false, "", "", 0⟩, ⟨"Params", 22, 1, false, "", "", 16⟩, ⟨"Body", 45, 2, false, "", "", 40⟩], 3, 64, (.agg #[(.string ⟨#[]⟩), (.slice none 0 0), (.slice none 0 0)]), false⟩
def t47 : TI := ⟨.struct #[⟨"Name", 9, 0, false, "", "", 0⟩, ⟨"Params", 22, 1, false, "", "", 16⟩, ⟨"Body", 45, 2, false, "", "", 40⟩], 3, 64, (.agg #[(.string ⟨#[]⟩), (.slice none 0 0), (.slice none 0 0)]), false⟩
def t48 : TI := ⟨.struct #[⟨"Kind", 3, 0, false, "", "", 0⟩, ⟨"Name", 9, 1, false, "", "", 8⟩, ⟨"E", 27, 2, false, "", "", 24⟩, ⟨"Body", 45, 8, false, "", "", 104⟩, ⟨"Else", 45, 9, false, "", "", 128⟩], 10, 152, (.agg #[(.int .i64 0), (.string ⟨#[]⟩), (.int .i64 0), (.int .i64 0), (.int .i64 0), (.string ⟨#[]⟩), (.string ⟨#[]⟩), (.slice none 0 0), (.slice none 0 0), (.slice none 0 0)]), false⟩
def t49 : TI := ⟨.struct #[⟨"Kind", 3, 0, false, "", "", 0⟩, ⟨"Name", 9, 1, false, "", "", 8⟩, ⟨"E", 27, 2, false, "", "", 24⟩, ⟨"Body", 45, 8, false, "", "", 104⟩, ⟨"Else", 45, 9, false, "", "", 128⟩], 10, 152, (.agg #[(.int .i64 0), (.string ⟨#[]⟩), (.int .i64 0), (.int .i64 0), (.int .i64 0), (.string ⟨#[]⟩), (.string ⟨#[]⟩), (.slice none 0 0), (.slice none 0 0), (.slice none 0 0)]), false⟩
def t50 : TI := ⟨.slice 3, 1, 24, (.slice none 0 0), false⟩
def t51 : TI := ⟨.func #[2, 3] #[9] false, 1, 8, .nilFunc, false⟩
def t52 : TI := ⟨.pointer 59, 1, 8, (.pointer none), false⟩
def t53 : TI := ⟨.interface #[("Error", 99)], 1, 16, .nilIface, false⟩
def t54 : TI := ⟨.interface #[("Error", 99)], 1, 16, .nilIface, false⟩
def t55 : TI := ⟨.tuple #[54, 4], 1, 0, (.tuple #[.nilIface, (.bool false)]), false⟩
def t56 : TI := ⟨.func #[54, 20] #[4] false, 1, 8, .nilFunc, false⟩
def t57 : TI := ⟨.pointer 52, 1, 8, (.pointer none), false⟩
def t58 : TI := ⟨.struct #[⟨"spot", 40, 0, false, "", "plunder/text", 0⟩], 2, 16, (.agg #[(.int .i64 0), (.int .i64 0)]), true⟩
def t59 : TI := ⟨.struct #[⟨"spot", 40, 0, false, "", "plunder/text", 0⟩], 2, 16, (.agg #[(.int .i64 0), (.int .i64 0)]), true⟩
def t60 : TI := ⟨.pointer 64, 1, 8, (.pointer none), false⟩
def t61 : TI := ⟨.struct #[⟨"kind", 9, 0, false, "", "plunder/text", 0⟩, ⟨"text", 9, 1, false, "", "plunder/text", 16⟩, ⟨"at", 3, 2, false, "", "plunder/text", 32⟩, ⟨"n", 2, 3, false, "", "plunder/text", 40⟩, ⟨"err", 38, 4, false, "", "plunder/text", 48⟩], 5, 56, (.agg #[(.string ⟨#[]⟩), (.string ⟨#[]⟩), (.int .i64 0), (.int .i64 0), (.int .i64 0)]), true⟩
def t62 : TI := ⟨.struct #[⟨"kind", 9, 0, false, "", "plunder/text", 0⟩, ⟨"text", 9, 1, false, "", "plunder/text", 16⟩, ⟨"at", 3, 2, false, "", "plunder/text", 32⟩, ⟨"n", 2, 3, false, "", "plunder/text", 40⟩, ⟨"err", 38, 4, false, "", "plunder/text", 48⟩], 5, 56, (.agg #[(.string ⟨#[]⟩), (.string ⟨#[]⟩), (.int .i64 0), (.int .i64 0), (.int .i64 0)]), true⟩
def t63 : TI := ⟨.struct #[⟨"src", 9, 0, false, "", "plunder/text", 0⟩, ⟨"next", 3, 1, false, "", "plunder/text", 16⟩, ⟨"cur", 62, 2, false, "", "plunder/text", 24⟩], 7, 80, (.agg #[(.string ⟨#[]⟩), (.int .i64 0), (.string ⟨#[]⟩), (.string ⟨#[]⟩), (.int .i64 0), (.int .i64 0), (.int .i64 0)]), true⟩
def t64 : TI := ⟨.struct #[⟨"src", 9, 0, false, "", "plunder/text", 0⟩, ⟨"next", 3, 1, false, "", "plunder/text", 16⟩, ⟨"cur", 62, 2, false, "", "plunder/text", 24⟩], 7, 80, (.agg #[(.string ⟨#[]⟩), (.int .i64 0), (.string ⟨#[]⟩), (.string ⟨#[]⟩), (.int .i64 0), (.int .i64 0), (.int .i64 0)]), true⟩
def t65 : TI := ⟨.func #[4] #[] false, 1, 8, .nilFunc, false⟩
def t66 : TI := ⟨.func #[] #[47] false, 1, 8, .nilFunc, false⟩
def t67 : TI := ⟨.tuple #[9, 38], 1, 0, (.tuple #[(.string ⟨#[]⟩), (.int .i64 0)]), false⟩
def t68 : TI := ⟨.func #[37] #[9, 38] false, 1, 8, .nilFunc, false⟩
def t81 : TI := ⟨.tuple #[62, 3], 1, 0, (.tuple #[(.agg #[(.string ⟨#[]⟩), (.string ⟨#[]⟩), (.int .i64 0), (.int .i64 0), (.int .i64 0)]), (.int .i64 0)]), false⟩
def t82 : TI := ⟨.func #[9, 3] #[62, 3] false, 1, 8, .nilFunc, false⟩
def t83 : TI := ⟨.func #[38, 3] #[] false, 1, 8, .nilFunc, false⟩
def t84 : TI := ⟨.func #[9] #[62] false, 1, 8, .nilFunc, false⟩
def t85 : TI := ⟨.func #[3] #[45] false, 1, 8, .nilFunc, false⟩
def t86 : TI := ⟨.func #[9] #[4] false, 1, 8, .nilFunc, false⟩
def t87 : TI := ⟨.func #[22] #[4] false, 1, 8, .nilFunc, false⟩
def t88 : TI := ⟨.func #[45] #[4] false, 1, 8, .nilFunc, false⟩
def t89 : TI := ⟨.pointer 95, 1, 8, (.pointer none), false⟩
def t90 : TI := ⟨.pointer 93, 1, 8, (.pointer none), false⟩
def t91 : TI := ⟨.slice 5, 1, 24, (.slice none 0 0), false⟩
def t92 : TI := ⟨.struct #[⟨"addr", 90, 0, false, "", "strings", 0⟩, ⟨"buf", 91, 1, false, "", "strings", 8⟩], 2, 32, (.agg #[(.pointer none), (.slice none 0 0)]), false⟩
def t93 : TI := ⟨.struct #[⟨"addr", 90, 0, false, "", "strings", 0⟩, ⟨"buf", 91, 1, false, "", "strings", 8⟩], 2, 32, (.agg #[(.pointer none), (.slice none 0 0)]), false⟩
def t94 : TI := ⟨.struct #[⟨"b", 93, 0, false, "", "plunder/text", 0⟩], 2, 32, (.agg #[(.pointer none), (.slice none 0 0)]), false⟩
def t95 : TI := ⟨.struct #[⟨"b", 93, 0, false, "", "plunder/text", 0⟩], 2, 32, (.agg #[(.pointer none), (.slice none 0 0)]), false⟩
def t96 : TI := ⟨.func #[22] #[] true, 1, 8, .nilFunc, false⟩
def t97 : TI := ⟨.func #[22, 9] #[9] false, 1, 8, .nilFunc, false⟩
def t98 : TI := ⟨.func #[45, 3] #[] false, 1, 8, .nilFunc, false⟩
def t99 : TI := ⟨.func #[] #[9] false, 1, 8, .nilFunc, false⟩
def t100 : TI := ⟨.func #[3] #[9] false, 1, 8, .nilFunc, false⟩
def t101 : TI := ⟨.array 24 5, 24, 24, (.agg #[(.int .u8 0), (.int .u8 0), (.int .u8 0), (.int .u8 0), (.int .u8 0), (.int .u8 0), (.int .u8 0), (.int .u8 0), (.int .u8 0), (.int .u8 0), (.int .u8 0), (.int .u8 0), (.int .u8 0), (.int .u8 0), (.int .u8 0), (.int .u8 0), (.int .u8 0), (.int .u8 0), (.int .u8 0), (.int .u8 0), (.int .u8 0), (.int .u8 0), (.int .u8 0), (.int .u8 0)]), false⟩
def t102 : TI := ⟨.int .u64, 1, 8, (.int .u64 0), false⟩
def t103 : TI := ⟨.func #[102] #[3] false, 1, 8, .nilFunc, false⟩
def t104 : TI := ⟨.func #[91, 102] #[] false, 1, 8, .nilFunc, false⟩
def t105 : TI := ⟨.tuple #[91, 9], 1, 0, (.tuple #[(.slice none 0 0), (.string ⟨#[]⟩)]), false⟩
def t106 : TI := ⟨.func #[91, 102, 3, 4, 4] #[91, 9] false, 1, 8, .nilFunc, false⟩
def t113 : TI := ⟨.interface #[("As", 115)], 1, 16, .nilIface, false⟩
def t114 : TI := ⟨.tuple #[113, 4], 1, 0, (.tuple #[.nilIface, (.bool false)]), false⟩
def t115 : TI := ⟨.func #[20] #[4] false, 1, 8, .nilFunc, false⟩
def t116 : TI := ⟨.interface #[("Unwrap", 117)], 1, 16, .nilIface, false⟩
def t117 : TI := ⟨.func #[] #[54] false, 1, 8, .nilFunc, false⟩
def t118 : TI := ⟨.interface #[("Unwrap", 120)], 1, 16, .nilIface, false⟩
def t119 : TI := ⟨.slice 54, 1, 24, (.slice none 0 0), false⟩
def t120 : TI := ⟨.func #[] #[119] false, 1, 8, .nilFunc, false⟩
def t121 : TI := ⟨.func #[9, 3] #[3] false, 1, 8, .nilFunc, false⟩
def t122 : TI := ⟨.func #[21] #[4] false, 1, 8, .nilFunc, false⟩
def t123 : TI := ⟨.func #[9, 3] #[62] false, 1, 8, .nilFunc, false⟩
def t124 : TI := ⟨.array 24 9, 24, 384, (.agg #[(.string ⟨#[]⟩), (.string ⟨#[]⟩), (.string ⟨#[]⟩), (.string ⟨#[]⟩), (.string ⟨#[]⟩), (.string ⟨#[]⟩), (.string ⟨#[]⟩), (.string ⟨#[]⟩), (.string ⟨#[]⟩), (.string ⟨#[]⟩), (.string ⟨#[]⟩), (.string ⟨#[]⟩), (.string ⟨#[]⟩), (.string ⟨#[]⟩), (.string ⟨#[]⟩), (.string ⟨#[]⟩), (.string ⟨#[]⟩), (.string ⟨#[]⟩), (.string ⟨#[]⟩), (.string ⟨#[]⟩), (.string ⟨#[]⟩), (.string ⟨#[]⟩), (.string ⟨#[]⟩), (.string ⟨#[]⟩)]), false⟩
def t125 : TI := ⟨.func #[3] #[49] false, 1, 8, .nilFunc, false⟩
def t126 : TI := ⟨.func #[49] #[4] false, 1, 8, .nilFunc, false⟩
def t127 : TI := ⟨.tuple #[3, 54], 1, 0, (.tuple #[(.int .i64 0), .nilIface]), false⟩
def t128 : TI := ⟨.func #[9] #[3, 54] false, 1, 8, .nilFunc, false⟩
def t129 : TI := ⟨.func #[3] #[] false, 1, 8, .nilFunc, false⟩
def t130 : TI := ⟨.func #[9, 3] #[9] false, 1, 8, .nilFunc, false⟩
def t131 : TI := ⟨.func #[49, 3] #[] false, 1, 8, .nilFunc, false⟩
def t132 : TI := ⟨.pointer 5, 1, 8, (.pointer none), false⟩
def t133 : TI := ⟨.func #[4] #[3] false, 1, 8, .nilFunc, false⟩
def t134 : TI := ⟨.array 20 102, 20, 160, (.agg #[(.int .u64 0), (.int .u64 0), (.int .u64 0), (.int .u64 0), (.int .u64 0), (.int .u64 0), (.int .u64 0), (.int .u64 0), (.int .u64 0), (.int .u64 0), (.int .u64 0), (.int .u64 0), (.int .u64 0), (.int .u64 0), (.int .u64 0), (.int .u64 0), (.int .u64 0), (.int .u64 0), (.int .u64 0), (.int .u64 0)]), false⟩
def t135 : TI := ⟨.int .u32, 1, 4, (.int .u32 0), false⟩
def t137 : TI := ⟨.func #[3] #[4] false, 1, 8, .nilFunc, false⟩
def t138 : TI := ⟨.int .u64, 1, 8, (.int .u64 0), false⟩
def t139 : TI := ⟨.func #[138] #[3] false, 1, 8, .nilFunc, false⟩
def t140 : TI := ⟨.tuple #[2, 38], 1, 0, (.tuple #[(.int .i64 0), (.int .i64 0)]), false⟩
def t141 : TI := ⟨.func #[9] #[2, 38] false, 1, 8, .nilFunc, false⟩
def t142 : TI := ⟨.func #[3, 3] #[27] false, 1, 8, .nilFunc, false⟩
def t143 : TI := ⟨.array 15 9, 15, 240, (.agg #[(.string ⟨#[]⟩), (.string ⟨#[]⟩), (.string ⟨#[]⟩), (.string ⟨#[]⟩), (.string ⟨#[]⟩), (.string ⟨#[]⟩), (.string ⟨#[]⟩), (.string ⟨#[]⟩), (.string ⟨#[]⟩), (.string ⟨#[]⟩), (.string ⟨#[]⟩), (.string ⟨#[]⟩), (.string ⟨#[]⟩), (.string ⟨#[]⟩), (.string ⟨#[]⟩)]), false⟩
def t144 : TI := ⟨.func #[27] #[4] false, 1, 8, .nilFunc, false⟩
def t145 : TI := ⟨.tuple #[138, 138], 1, 0, (.tuple #[(.int .u64 0), (.int .u64 0)]), false⟩
def t146 : TI := ⟨.func #[138, 138] #[138, 138] false, 1, 8, .nilFunc, false⟩
def t147 : TI := ⟨.func #[] #[3] false, 1, 8, .nilFunc, false⟩
def t148 : TI := ⟨.func #[27] #[9] false, 1, 8, .nilFunc, false⟩
def t149 : TI := ⟨.func #[135] #[3] false, 1, 8, .nilFunc, false⟩
def t150 : TI := ⟨.func #[3] #[27] false, 1, 8, .nilFunc, false⟩
def t151 : TI := ⟨.func #[9, 27, 27] #[27] false, 1, 8, .nilFunc, false⟩
def t152 : TI := ⟨.func #[3] #[25] false, 1, 8, .nilFunc, false⟩
def t153 : TI := ⟨.func #[69] #[69] false, 1, 8, .nilFunc, false⟩
def t154 : TI := ⟨.func #[3] #[91] false, 1, 8, .nilFunc, false⟩
def t155 : TI := ⟨.tuple #[135, 135], 1, 0, (.tuple #[(.int .u32 0), (.int .u32 0)]), false⟩
def t156 : TI := ⟨.func #[135, 135] #[135, 135] false, 1, 8, .nilFunc, false⟩
def t157 : TI := ⟨.tuple #[102, 102], 1, 0, (.tuple #[(.int .u64 0), (.int .u64 0)]), false⟩
def t158 : TI := ⟨.func #[102, 102] #[102, 102] false, 1, 8, .nilFunc, false⟩
def t159 : TI := ⟨.tuple #[9, 3], 1, 0, (.tuple #[(.string ⟨#[]⟩), (.int .i64 0)]), false⟩
def t160 : TI := ⟨.func #[27] #[9, 3] false, 1, 8, .nilFunc, false⟩
def t161 : TI := ⟨.func #[27, 4] #[9] false, 1, 8, .nilFunc, false⟩
def t162 : TI := ⟨.func #[25] #[9] false, 1, 8, .nilFunc, false⟩
def t163 : TI := ⟨.array 32 5, 32, 32, (.agg #[(.int .u8 0), (.int .u8 0), (.int .u8 0), (.int .u8 0), (.int .u8 0), (.int .u8 0), (.int .u8 0), (.int .u8 0), (.int .u8 0), (.int .u8 0), (.int .u8 0), (.int .u8 0), (.int .u8 0), (.int .u8 0), (.int .u8 0), (.int .u8 0), (.int .u8 0), (.int .u8 0), (.int .u8 0), (.int .u8 0), (.int .u8 0), (.int .u8 0), (.int .u8 0), (.int .u8 0), (.int .u8 0), (.int .u8 0), (.int .u8 0), (.int .u8 0), (.int .u8 0), (.int .u8 0), (.int .u8 0), (.int .u8 0)]), false⟩
def t165 : TI := ⟨.array 8 22, 8, 192, (.agg #[(.slice none 0 0), (.slice none 0 0), (.slice none 0 0), (.slice none 0 0), (.slice none 0 0), (.slice none 0 0), (.slice none 0 0), (.slice none 0 0)]), false⟩
def t166 : TI := ⟨.func #[9] #[3] false, 1, 8, .nilFunc, false⟩
def t167 : TI := ⟨.array 16 9, 16, 256, (.agg #[(.string ⟨#[]⟩), (.string ⟨#[]⟩), (.string ⟨#[]⟩), (.string ⟨#[]⟩), (.string ⟨#[]⟩), (.string ⟨#[]⟩), (.string ⟨#[]⟩), (.string ⟨#[]⟩), (.string ⟨#[]⟩), (.string ⟨#[]⟩), (.string ⟨#[]⟩), (.string ⟨#[]⟩), (.string ⟨#[]⟩), (.string ⟨#[]⟩), (.string ⟨#[]⟩), (.string ⟨#[]⟩)]), false⟩
def t168 : TI := ⟨.func #[9, 3] #[27] false, 1, 8, .nilFunc, false⟩
def t176 : TI := ⟨.func #[69, 69] #[4] false, 1, 8, .nilFunc, false⟩
def t181 : TI := ⟨.func #[] #[12] false, 1, 8, .nilFunc, false⟩
def t187 : TI := ⟨.int .u16, 1, 2, (.int .u16 0), false⟩
def t194 : TI := ⟨.pointer 54, 1, 8, (.pointer none), false⟩
theorem o0 : Tryd.prog.underlying 0 = some t0.desc ∧ (Tryd.prog.info? 0).map (fun j => (j.zero, j.size, j.bytes)) = some (some t0.zero, t0.size, t0.bytes) ∧ (t0.flat = true → FlatOk Tryd.prog 0 t0) := ⟨by kernel_rfl, by kernel_rfl, fun h => absurd h (by decide)⟩
theorem o1 : Tryd.prog.underlying 1 = some t1.desc ∧ (Tryd.prog.info? 1).map (fun j => (j.zero, j.size, j.bytes)) = some (some t1.zero, t1.size, t1.bytes) ∧ (t1.flat = true → FlatOk Tryd.prog 1 t1) := ⟨by kernel_rfl, by kernel_rfl, fun h => absurd h (by decide)⟩
theorem o2 : Tryd.prog.underlying 2 = some t2.desc ∧ (Tryd.prog.info? 2).map (fun j => (j.zero, j.size, j.bytes)) = some (some t2.zero, t2.size, t2.bytes) ∧ (t2.flat = true → FlatOk Tryd.prog 2 t2) := ⟨by kernel_rfl, by kernel_rfl, fun h => absurd h (by decide)⟩
theorem o3 : Tryd.prog.underlying 3 = some t3.desc ∧ (Tryd.prog.info? 3).map (fun j => (j.zero, j.size, j.bytes)) = some (some t3.zero, t3.size, t3.bytes) ∧ (t3.flat = true → FlatOk Tryd.prog 3 t3) := ⟨by kernel_rfl, by kernel_rfl, fun h => absurd h (by decide)⟩
theorem o4 : Tryd.prog.underlying 4 = some t4.desc ∧ (Tryd.prog.info? 4).map (fun j => (j.zero, j.size, j.bytes)) = some (some t4.zero, t4.size, t4.bytes) ∧ (t4.flat = true → FlatOk Tryd.prog 4 t4) := ⟨by kernel_rfl, by kernel_rfl, fun h => absurd h (by decide)⟩
theorem o5 : Tryd.prog.underlying 5 = some t5.desc ∧ (Tryd.prog.info? 5).map (fun j => (j.zero, j.size, j.bytes)) = some (some t5.zero, t5.size, t5.bytes) ∧ (t5.flat = true → FlatOk Tryd.prog 5 t5) := ⟨by kernel_rfl, by kernel_rfl, fun h => absurd h (by decide)⟩
theorem o9 : Tryd.prog.underlying 9 = some t9.desc ∧ (Tryd.prog.info? 9).map (fun j => (j.zero, j.size, j.bytes)) = some (some t9.zero, t9.size, t9.bytes) ∧ (t9.flat = true → FlatOk Tryd.prog 9 t9) := ⟨by kernel_rfl, by kernel_rfl, fun h => absurd h (by decide)⟩
theorem o12 : Tryd.prog.underlying 12 = some t12.desc ∧ (Tryd.prog.info? 12).map (fun j => (j.zero, j.size, j.bytes)) = some (some t12.zero, t12.size, t12.bytes) ∧ (t12.flat = true → FlatOk Tryd.prog 12 t12) := ⟨by kernel_rfl, by kernel_rfl, fun h => absurd h (by decide)⟩
theorem o13 : Tryd.prog.underlying 13 = some t13.desc ∧ (Tryd.prog.info? 13).map (fun j => (j.zero, j.size, j.bytes)) = some (some t13.zero, t13.size, t13.bytes) ∧ (t13.flat = true → FlatOk Tryd.prog 13 t13) := ⟨by kernel_rfl, by kernel_rfl, fun h => absurd h (by decide)⟩
theorem o20 : Tryd.prog.underlying 20 = some t20.desc ∧ (Tryd.prog.info? 20).map (fun j => (j.zero, j.size, j.bytes)) = some (some t20.zero, t20.size, t20.bytes) ∧ (t20.flat = true → FlatOk Tryd.prog 20 t20) := ⟨by kernel_rfl, by kernel_rfl, fun h => absurd h (by decide)⟩
theorem o21 : Tryd.prog.underlying 21 = some t21.desc ∧ (Tryd.prog.info? 21).map (fun j => (j.zero, j.size, j.bytes)) = some (some t21.zero, t21.size, t21.bytes) ∧ (t21.flat = true → FlatOk Tryd.prog 21 t21) := ⟨by kernel_rfl, by kernel_rfl, fun h => absurd h (by decide)⟩
theorem o22 : Tryd.prog.underlying 22 = some t22.desc ∧ (Tryd.prog.info? 22).map (fun j => (j.zero, j.size, j.bytes)) = some (some t22.zero, t22.size, t22.bytes) ∧ (t22.flat = true → FlatOk Tryd.prog 22 t22) := ⟨by kernel_rfl, by kernel_rfl, fun h => absurd h (by decide)⟩
theorem o23 : Tryd.prog.underlying 23 = some t23.desc ∧ (Tryd.prog.info? 23).map (fun j => (j.zero, j.size, j.bytes)) = some (some t23.zero, t23.size, t23.bytes) ∧ (t23.flat = true → FlatOk Tryd.prog 23 t23) := ⟨by kernel_rfl, by kernel_rfl, fun h => absurd h (by decide)⟩
theorem o24 : Tryd.prog.underlying 24 = some t24.desc ∧ (Tryd.prog.info? 24).map (fun j => (j.zero, j.size, j.bytes)) = some (some t24.zero, t24.size, t24.bytes) ∧ (t24.flat = true → FlatOk Tryd.prog 24 t24) := ⟨by kernel_rfl, by kernel_rfl, fun h => absurd h (by decide)⟩
theorem o25 : Tryd.prog.underlying 25 = some t25.desc ∧ (Tryd.prog.info? 25).map (fun j => (j.zero, j.size, j.bytes)) = some (some t25.zero, t25.size, t25.bytes) ∧ (t25.flat = true → FlatOk Tryd.prog 25 t25) := ⟨by kernel_rfl, by kernel_rfl, fun h => absurd h (by decide)⟩
theorem o26 : Tryd.prog.underlying 26 = some t26.desc ∧ (Tryd.prog.info? 26).map (fun j => (j.zero, j.size, j.bytes)) = some (some t26.zero, t26.size, t26.bytes) ∧ (t26.flat = true → FlatOk Tryd.prog 26 t26) := ⟨by kernel_rfl, by kernel_rfl, fun h => absurd h (by decide)⟩
theorem o27 : Tryd.prog.underlying 27 = some t27.desc ∧ (Tryd.prog.info? 27).map (fun j => (j.zero, j.size, j.bytes)) = some (some t27.zero, t27.size, t27.bytes) ∧ (t27.flat = true → FlatOk Tryd.prog 27 t27) := ⟨by kernel_rfl, by kernel_rfl, fun h => absurd h (by decide)⟩
theorem o28 : Tryd.prog.underlying 28 = some t28.desc ∧ (Tryd.prog.info? 28).map (fun j => (j.zero, j.size, j.bytes)) = some (some t28.zero, t28.size, t28.bytes) ∧ (t28.flat = true → FlatOk Tryd.prog 28 t28) := ⟨by kernel_rfl, by kernel_rfl, fun h => absurd h (by decide)⟩
theorem o29 : Tryd.prog.underlying 29 = some t29.desc ∧ (Tryd.prog.info? 29).map (fun j => (j.zero, j.size, j.bytes)) = some (some t29.zero, t29.size, t29.bytes) ∧ (t29.flat = true → FlatOk Tryd.prog 29 t29) := ⟨by kernel_rfl, by kernel_rfl, fun h => absurd h (by decide)⟩
theorem o30 : Tryd.prog.underlying 30 = some t30.desc ∧ (Tryd.prog.info? 30).map (fun j => (j.zero, j.size, j.bytes)) = some (some t30.zero, t30.size, t30.bytes) ∧ (t30.flat = true → FlatOk Tryd.prog 30 t30) := ⟨by kernel_rfl, by kernel_rfl, fun h => absurd h (by decide)⟩
theorem o31 : Tryd.prog.underlying 31 = some t31.desc ∧ (Tryd.prog.info? 31).map (fun j => (j.zero, j.size, j.bytes)) = some (some t31.zero, t31.size, t31.bytes) ∧ (t31.flat = true → FlatOk Tryd.prog 31 t31) := ⟨by kernel_rfl, by kernel_rfl, fun h => absurd h (by decide)⟩
theorem o32 : Tryd.prog.underlying 32 = some t32.desc ∧ (Tryd.prog.info? 32).map (fun j => (j.zero, j.size, j.bytes)) = some (some t32.zero, t32.size, t32.bytes) ∧ (t32.flat = true → FlatOk Tryd.prog 32 t32) := ⟨by kernel_rfl, by kernel_rfl, fun h => absurd h (by decide)⟩
theorem o33 : Tryd.prog.underlying 33 = some t33.desc ∧ (Tryd.prog.info? 33).map (fun j => (j.zero, j.size, j.bytes)) = some (some t33.zero, t33.size, t33.bytes) ∧ (t33.flat = true → FlatOk Tryd.prog 33 t33) := ⟨by kernel_rfl, by kernel_rfl, fun h => absurd h (by decide)⟩
theorem o34 : Tryd.prog.underlying 34 = some t34.desc ∧ (Tryd.prog.info? 34).map (fun j => (j.zero, j.size, j.bytes)) = some (some t34.zero, t34.size, t34.bytes) ∧ (t34.flat = true → FlatOk Tryd.prog 34 t34) := ⟨by kernel_rfl, by kernel_rfl, fun h => absurd h (by decide)⟩
theorem o35 : Tryd.prog.underlying 35 = some t35.desc ∧ (Tryd.prog.info? 35).map (fun j => (j.zero, j.size, j.bytes)) = some (some t35.zero, t35.size, t35.bytes) ∧ (t35.flat = true → FlatOk Tryd.prog 35 t35) := ⟨by kernel_rfl, by kernel_rfl, fun h => absurd h (by decide)⟩
theorem o36 : Tryd.prog.underlying 36 = some t36.desc ∧ (Tryd.prog.info? 36).map (fun j => (j.zero, j.size, j.bytes)) = some (some t36.zero, t36.size, t36.bytes) ∧ (t36.flat = true → FlatOk Tryd.prog 36 t36) := ⟨by kernel_rfl, by kernel_rfl, fun h => absurd h (by decide)⟩
theorem o37 : Tryd.prog.underlying 37 = some t37.desc ∧ (Tryd.prog.info? 37).map (fun j => (j.zero, j.size, j.bytes)) = some (some t37.zero, t37.size, t37.bytes) ∧ (t37.flat = true → FlatOk Tryd.prog 37 t37) := ⟨by kernel_rfl, by kernel_rfl, fun h => absurd h (by decide)⟩
theorem o38 : Tryd.prog.underlying 38 = some t38.desc ∧ (Tryd.prog.info? 38).map (fun j => (j.zero, j.size, j.bytes)) = some (some t38.zero, t38.size, t38.bytes) ∧ (t38.flat = true → FlatOk Tryd.prog 38 t38) := ⟨by kernel_rfl, by kernel_rfl, fun h => absurd h (by decide)⟩
theorem o39 : Tryd.prog.underlying 39 = some t39.desc ∧ (Tryd.prog.info? 39).map (fun j => (j.zero, j.size, j.bytes)) = some (some t39.zero, t39.size, t39.bytes) ∧ (t39.flat = true → FlatOk Tryd.prog 39 t39) := ⟨by kernel_rfl, by kernel_rfl, fun _ => ⟨by kernel_rfl, by kernel_rfl, by kernel_rfl⟩⟩
theorem o40 : Tryd.prog.underlying 40 = some t40.desc ∧ (Tryd.prog.info? 40).map (fun j => (j.zero, j.size, j.bytes)) = some (some t40.zero, t40.size, t40.bytes) ∧ (t40.flat = true → FlatOk Tryd.prog 40 t40) := ⟨by kernel_rfl, by kernel_rfl, fun _ => ⟨by kernel_rfl, by kernel_rfl, by kernel_rfl⟩⟩
theorem o41 : Tryd.prog.underlying 41 = some t41.desc ∧ (Tryd.prog.info? 41).map (fun j => (j.zero, j.size, j.bytes)) = some (some t41.zero, t41.size, t41.bytes) ∧ (t41.flat = true → FlatOk Tryd.prog 41 t41) := ⟨by kernel_rfl, by kernel_rfl, fun h => absurd h (by decide)⟩
theorem o42 : Tryd.prog.underlying 42 = some t42.desc ∧ (Tryd.prog.info? 42).map (fun j => (j.zero, j.size, j.bytes)) = some (some t42.zero, t42.size, t42.bytes) ∧ (t42.flat = true → FlatOk Tryd.prog 42 t42) := ⟨by kernel_rfl, by kernel_rfl, fun h => absurd h (by decide)⟩
theorem o43 : Tryd.prog.underlying 43 = some t43.desc ∧ (Tryd.prog.info? 43).map (fun j => (j.zero, j.size, j.bytes)) = some (some t43.zero, t43.size, t43.bytes) ∧ (t43.flat = true → FlatOk Tryd.prog 43 t43) := ⟨by kernel_rfl, by kernel_rfl, fun h => absurd h (by decide)⟩
theorem o44 : Tryd.prog.underlying 44 = some t44.desc ∧ (Tryd.prog.info? 44).map (fun j => (j.zero, j.size, j.bytes)) = some (some t44.zero, t44.size, t44.bytes) ∧ (t44.flat = true → FlatOk Tryd.prog 44 t44) := ⟨by kernel_rfl, by kernel_rfl, fun h => absurd h (by decide)⟩
theorem o45 : Tryd.prog.underlying 45 = some t45.desc ∧ (Tryd.prog.info? 45).map (fun j => (j.zero, j.size, j.bytes)) = some (some t45.zero, t45.size, t45.bytes) ∧ (t45.flat = true → FlatOk Tryd.prog 45 t45) := ⟨by kernel_rfl, by kernel_rfl, fun h => absurd h (by decide)⟩
theorem o46 : Tryd.prog.underlying 46 = some t46.desc ∧ (Tryd.prog.info? 46).map (fun j => (j.zero, j.size, j.bytes)) = some (some t46.zero, t46.size, t46.bytes) ∧ (t46.flat = true → FlatOk Tryd.prog 46 t46) := ⟨by kernel_rfl, by kernel_rfl, fun h => absurd h (by decide)⟩
theorem o47 : Tryd.prog.underlying 47 = some t47.desc ∧ (Tryd.prog.info? 47).map (fun j => (j.zero, j.size, j.bytes)) = some (some t47.zero, t47.size, t47.bytes) ∧ (t47.flat = true → FlatOk Tryd.prog 47 t47) := ⟨by kernel_rfl, by kernel_rfl, fun h => absurd h (by decide)⟩
theorem o48 : Tryd.prog.underlying 48 = some t48.desc ∧ (Tryd.prog.info? 48).map (fun j => (j.zero, j.size, j.bytes)) = some (some t48.zero, t48.size, t48.bytes) ∧ (t48.flat = true → FlatOk Tryd.prog 48 t48) := ⟨by kernel_rfl, by kernel_rfl, fun h => absurd h (by decide)⟩
theorem o49 : Tryd.prog.underlying 49 = some t49.desc ∧ (Tryd.prog.info? 49).map (fun j => (j.zero, j.size, j.bytes)) = some (some t49.zero, t49.size, t49.bytes) ∧ (t49.flat = true → FlatOk Tryd.prog 49 t49) := ⟨by kernel_rfl, by kernel_rfl, fun h => absurd h (by decide)⟩
theorem o50 : Tryd.prog.underlying 50 = some t50.desc ∧ (Tryd.prog.info? 50).map (fun j => (j.zero, j.size, j.bytes)) = some (some t50.zero, t50.size, t50.bytes) ∧ (t50.flat = true → FlatOk Tryd.prog 50 t50) := ⟨by kernel_rfl, by kernel_rfl, fun h => absurd h (by decide)⟩
theorem o51 : Tryd.prog.underlying 51 = some t51.desc ∧ (Tryd.prog.info? 51).map (fun j => (j.zero, j.size, j.bytes)) = some (some t51.zero, t51.size, t51.bytes) ∧ (t51.flat = true → FlatOk Tryd.prog 51 t51) := ⟨by kernel_rfl, by kernel_rfl, fun h => absurd h (by decide)⟩
theorem o52 : Tryd.prog.underlying 52 = some t52.desc ∧ (Tryd.prog.info? 52).map (fun j => (j.zero, j.size, j.bytes)) = some (some t52.zero, t52.size, t52.bytes) ∧ (t52.flat = true → FlatOk Tryd.prog 52 t52) := ⟨by kernel_rfl, by kernel_rfl, fun h => absurd h (by decide)⟩
theorem o53 : Tryd.prog.underlying 53 = some t53.desc ∧ (Tryd.prog.info? 53).map (fun j => (j.zero, j.size, j.bytes)) = some (some t53.zero, t53.size, t53.bytes) ∧ (t53.flat = true → FlatOk Tryd.prog 53 t53) := ⟨by kernel_rfl, by kernel_rfl, fun h => absurd h (by decide)⟩
theorem o54 : Tryd.prog.underlying 54 = some t54.desc ∧ (Tryd.prog.info? 54).map (fun j => (j.zero, j.size, j.bytes)) = some (some t54.zero, t54.size, t54.bytes) ∧ (t54.flat = true → FlatOk Tryd.prog 54 t54) := ⟨by kernel_rfl, by kernel_rfl, fun h => absurd h (by decide)⟩
theorem o55 : Tryd.prog.underlying 55 = some t55.desc ∧ (Tryd.prog.info? 55).map (fun j => (j.zero, j.size, j.bytes)) = some (some t55.zero, t55.size, t55.bytes) ∧ (t55.flat = true → FlatOk Tryd.prog 55 t55) := ⟨by kernel_rfl, by kernel_rfl, fun h => absurd h (by decide)⟩
theorem o56 : Tryd.prog.underlying 56 = some t56.desc ∧ (Tryd.prog.info? 56).map (fun j => (j.zero, j.size, j.bytes)) = some (some t56.zero, t56.size, t56.bytes) ∧ (t56.flat = true → FlatOk Tryd.prog 56 t56) := ⟨by kernel_rfl, by kernel_rfl, fun h => absurd h (by decide)⟩
theorem o57 : Tryd.prog.underlying 57 = some t57.desc ∧ (Tryd.prog.info? 57).map (fun j => (j.zero, j.size, j.bytes)) = some (some t57.zero, t57.size, t57.bytes) ∧ (t57.flat = true → FlatOk Tryd.prog 57 t57) := ⟨by kernel_rfl, by kernel_rfl, fun h => absurd h (by decide)⟩
theorem o58 : Tryd.prog.underlying 58 = some t58.desc ∧ (Tryd.prog.info? 58).map (fun j => (j.zero, j.size, j.bytes)) = some (some t58.zero, t58.size, t58.bytes) ∧ (t58.flat = true → FlatOk Tryd.prog 58 t58) := ⟨by kernel_rfl, by kernel_rfl, fun _ => ⟨by kernel_rfl, by kernel_rfl, by kernel_rfl⟩⟩
theorem o59 : Tryd.prog.underlying 59 = some t59.desc ∧ (Tryd.prog.info? 59).map (fun j => (j.zero, j.size, j.bytes)) = some (some t59.zero, t59.size, t59.bytes) ∧ (t59.flat = true → FlatOk Tryd.prog 59 t59) := ⟨by kernel_rfl, by kernel_rfl, fun _ => ⟨by kernel_rfl, by kernel_rfl, by kernel_rfl⟩⟩
theorem o60 : Tryd.prog.underlying 60 = some t60.desc ∧ (Tryd.prog.info? 60).map (fun j => (j.zero, j.size, j.bytes)) = some (some t60.zero, t60.size, t60.bytes) ∧ (t60.flat = true → FlatOk Tryd.prog 60 t60) := ⟨by kernel_rfl, by kernel_rfl, fun h => absurd h (by decide)⟩
theorem o61 : Tryd.prog.underlying 61 = some t61.desc ∧ (Tryd.prog.info? 61).map (fun j => (j.zero, j.size, j.bytes)) = some (some t61.zero, t61.size, t61.bytes) ∧ (t61.flat = true → FlatOk Tryd.prog 61 t61) := ⟨by kernel_rfl, by kernel_rfl, fun _ => ⟨by kernel_rfl, by kernel_rfl, by kernel_rfl⟩⟩
theorem o62 : Tryd.prog.underlying 62 = some t62.desc ∧ (Tryd.prog.info? 62).map (fun j => (j.zero, j.size, j.bytes)) = some (some t62.zero, t62.size, t62.bytes) ∧ (t62.flat = true → FlatOk Tryd.prog 62 t62) := ⟨by kernel_rfl, by kernel_rfl, fun _ => ⟨by kernel_rfl, by kernel_rfl, by kernel_rfl⟩⟩
theorem o63 : Tryd.prog.underlying 63 = some t63.desc ∧ (Tryd.prog.info? 63).map (fun j => (j.zero, j.size, j.bytes)) = some (some t63.zero, t63.size, t63.bytes) ∧ (t63.flat = true → FlatOk Tryd.prog 63 t63) := ⟨by kernel_rfl, by kernel_rfl, fun _ => ⟨by kernel_rfl, by kernel_rfl, by kernel_rfl⟩⟩
theorem o64 : Tryd.prog.underlying 64 = some t64.desc ∧ (Tryd.prog.info? 64).map (fun j => (j.zero, j.size, j.bytes)) = some (some t64.zero, t64.size, t64.bytes) ∧ (t64.flat = true → FlatOk Tryd.prog 64 t64) := ⟨by kernel_rfl, by kernel_rfl, fun _ => ⟨by kernel_rfl, by kernel_rfl, by kernel_rfl⟩⟩
theorem o65 : Tryd.prog.underlying 65 = some t65.desc ∧ (Tryd.prog.info? 65).map (fun j => (j.zero, j.size, j.bytes)) = some (some t65.zero, t65.size, t65.bytes) ∧ (t65.flat = true → FlatOk Tryd.prog 65 t65) := ⟨by kernel_rfl, by kernel_rfl, fun h => absurd h (by decide)⟩
theorem o66 : Tryd.prog.underlying 66 = some t66.desc ∧ (Tryd.prog.info? 66).map (fun j => (j.zero, j.size, j.bytes)) = some (some t66.zero, t66.size, t66.bytes) ∧ (t66.flat = true → FlatOk Tryd.prog 66 t66) := ⟨by kernel_rfl, by kernel_rfl, fun h => absurd h (by decide)⟩
theorem o67 : Tryd.prog.underlying 67 = some t67.desc ∧ (Tryd.prog.info? 67).map (fun j => (j.zero, j.size, j.bytes)) = some (some t67.zero, t67.size, t67.bytes) ∧ (t67.flat = true → FlatOk Tryd.prog 67 t67) := ⟨by kernel_rfl, by kernel_rfl, fun h => absurd h (by decide)⟩
theorem o68 : Tryd.prog.underlying 68 = some t68.desc ∧ (Tryd.prog.info? 68).map (fun j => (j.zero, j.size, j.bytes)) = some (some t68.zero, t68.size, t68.bytes) ∧ (t68.flat = true → FlatOk Tryd.prog 68 t68) := ⟨by kernel_rfl, by kernel_rfl, fun h => absurd h (by decide)⟩
theorem o81 : Tryd.prog.underlying 81 = some t81.desc ∧ (Tryd.prog.info? 81).map (fun j => (j.zero, j.size, j.bytes)) = some (some t81.zero, t81.size, t81.bytes) ∧ (t81.flat = true → FlatOk Tryd.prog 81 t81) := ⟨by kernel_rfl, by kernel_rfl, fun h => absurd h (by decide)⟩
theorem o82 : Tryd.prog.underlying 82 = some t82.desc ∧ (Tryd.prog.info? 82).map (fun j => (j.zero, j.size, j.bytes)) = some (some t82.zero, t82.size, t82.bytes) ∧ (t82.flat = true → FlatOk Tryd.prog 82 t82) := ⟨by kernel_rfl, by kernel_rfl, fun h => absurd h (by decide)⟩
theorem o83 : Tryd.prog.underlying 83 = some t83.desc ∧ (Tryd.prog.info? 83).map (fun j => (j.zero, j.size, j.bytes)) = some (some t83.zero, t83.size, t83.bytes) ∧ (t83.flat = true → FlatOk Tryd.prog 83 t83) := ⟨by kernel_rfl, by kernel_rfl, fun h => absurd h (by decide)⟩
theorem o84 : Tryd.prog.underlying 84 = some t84.desc ∧ (Tryd.prog.info? 84).map (fun j => (j.zero, j.size, j.bytes)) = some (some t84.zero, t84.size, t84.bytes) ∧ (t84.flat = true → FlatOk Tryd.prog 84 t84) := ⟨by kernel_rfl, by kernel_rfl, fun h => absurd h (by decide)⟩
theorem o85 : Tryd.prog.underlying 85 = some t85.desc ∧ (Tryd.prog.info? 85).map (fun j => (j.zero, j.size, j.bytes)) = some (some t85.zero, t85.size, t85.bytes) ∧ (t85.flat = true → FlatOk Tryd.prog 85 t85) := ⟨by kernel_rfl, by kernel_rfl, fun h => absurd h (by decide)⟩
theorem o86 : Tryd.prog.underlying 86 = some t86.desc ∧ (Tryd.prog.info? 86).map (fun j => (j.zero, j.size, j.bytes)) = some (some t86.zero, t86.size, t86.bytes) ∧ (t86.flat = true → FlatOk Tryd.prog 86 t86) := ⟨by kernel_rfl, by kernel_rfl, fun h => absurd h (by decide)⟩
theorem o87 : Tryd.prog.underlying 87 = some t87.desc ∧ (Tryd.prog.info? 87).map (fun j => (j.zero, j.size, j.bytes)) = some (some t87.zero, t87.size, t87.bytes) ∧ (t87.flat = true → FlatOk Tryd.prog 87 t87) := ⟨by kernel_rfl, by kernel_rfl, fun h => absurd h (by decide)⟩
theorem o88 : Tryd.prog.underlying 88 = some t88.desc ∧ (Tryd.prog.info? 88).map (fun j => (j.zero, j.size, j.bytes)) = some (some t88.zero, t88.size, t88.bytes) ∧ (t88.flat = true → FlatOk Tryd.prog 88 t88) := ⟨by kernel_rfl, by kernel_rfl, fun h => absurd h (by decide)⟩
theorem o89 : Tryd.prog.underlying 89 = some t89.desc ∧ (Tryd.prog.info? 89).map (fun j => (j.zero, j.size, j.bytes)) = some (some t89.zero, t89.size, t89.bytes) ∧ (t89.flat = true → FlatOk Tryd.prog 89 t89) := ⟨by kernel_rfl, by kernel_rfl, fun h => absurd h (by decide)⟩
theorem o90 : Tryd.prog.underlying 90 = some t90.desc ∧ (Tryd.prog.info? 90).map (fun j => (j.zero, j.size, j.bytes)) = some (some t90.zero, t90.size, t90.bytes) ∧ (t90.flat = true → FlatOk Tryd.prog 90 t90) := ⟨by kernel_rfl, by kernel_rfl, fun h => absurd h (by decide)⟩
theorem o91 : Tryd.prog.underlying 91 = some t91.desc ∧ (Tryd.prog.info? 91).map (fun j => (j.zero, j.size, j.bytes)) = some (some t91.zero, t91.size, t91.bytes) ∧ (t91.flat = true → FlatOk Tryd.prog 91 t91) := ⟨by kernel_rfl, by kernel_rfl, fun h => absurd h (by decide)⟩
theorem o92 : Tryd.prog.underlying 92 = some t92.desc ∧ (Tryd.prog.info? 92).map (fun j => (j.zero, j.size, j.bytes)) = some (some t92.zero, t92.size, t92.bytes) ∧ (t92.flat = true → FlatOk Tryd.prog 92 t92) := ⟨by kernel_rfl, by kernel_rfl, fun h => absurd h (by decide)⟩
theorem o93 : Tryd.prog.underlying 93 = some t93.desc ∧ (Tryd.prog.info? 93).map (fun j => (j.zero, j.size, j.bytes)) = some (some t93.zero, t93.size, t93.bytes) ∧ (t93.flat = true → FlatOk Tryd.prog 93 t93) := ⟨by kernel_rfl, by kernel_rfl, fun h => absurd h (by decide)⟩
theorem o94 : Tryd.prog.underlying 94 = some t94.desc ∧ (Tryd.prog.info? 94).map (fun j => (j.zero, j.size, j.bytes)) = some (some t94.zero, t94.size, t94.bytes) ∧ (t94.flat = true → FlatOk Tryd.prog 94 t94) := ⟨by kernel_rfl, by kernel_rfl, fun h => absurd h (by decide)⟩
theorem o95 : Tryd.prog.underlying 95 = some t95.desc ∧ (Tryd.prog.info? 95).map (fun j => (j.zero, j.size, j.bytes)) = some (some t95.zero, t95.size, t95.bytes) ∧ (t95.flat = true → FlatOk Tryd.prog 95 t95) := ⟨by kernel_rfl, by kernel_rfl, fun h => absurd h (by decide)⟩
theorem o96 : Tryd.prog.underlying 96 = some t96.desc ∧ (Tryd.prog.info? 96).map (fun j => (j.zero, j.size, j.bytes)) = some (some t96.zero, t96.size, t96.bytes) ∧ (t96.flat = true → FlatOk Tryd.prog 96 t96) := ⟨by kernel_rfl, by kernel_rfl, fun h => absurd h (by decide)⟩
theorem o97 : Tryd.prog.underlying 97 = some t97.desc ∧ (Tryd.prog.info? 97).map (fun j => (j.zero, j.size, j.bytes)) = some (some t97.zero, t97.size, t97.bytes) ∧ (t97.flat = true → FlatOk Tryd.prog 97 t97) := ⟨by kernel_rfl, by kernel_rfl, fun h => absurd h (by decide)⟩
theorem o98 : Tryd.prog.underlying 98 = some t98.desc ∧ (Tryd.prog.info? 98).map (fun j => (j.zero, j.size, j.bytes)) = some (some t98.zero, t98.size, t98.bytes) ∧ (t98.flat = true → FlatOk Tryd.prog 98 t98) := ⟨by kernel_rfl, by kernel_rfl, fun h => absurd h (by decide)⟩
theorem o99 : Tryd.prog.underlying 99 = some t99.desc ∧ (Tryd.prog.info? 99).map (fun j => (j.zero, j.size, j.bytes)) = some (some t99.zero, t99.size, t99.bytes) ∧ (t99.flat = true → FlatOk Tryd.prog 99 t99) := ⟨by kernel_rfl, by kernel_rfl, fun h => absurd h (by decide)⟩
theorem o100 : Tryd.prog.underlying 100 = some t100.desc ∧ (Tryd.prog.info? 100).map (fun j => (j.zero, j.size, j.bytes)) = some (some t100.zero, t100.size, t100.bytes) ∧ (t100.flat = true → FlatOk Tryd.prog 100 t100) := ⟨by kernel_rfl, by kernel_rfl, fun h => absurd h (by decide)⟩
theorem o101 : Tryd.prog.underlying 101 = some t101.desc ∧ (Tryd.prog.info? 101).map (fun j => (j.zero, j.size, j.bytes)) = some (some t101.zero, t101.size, t101.bytes) ∧ (t101.flat = true → FlatOk Tryd.prog 101 t101) := ⟨by kernel_rfl, by kernel_rfl, fun h => absurd h (by decide)⟩
theorem o102 : Tryd.prog.underlying 102 = some t102.desc ∧ (Tryd.prog.info? 102).map (fun j => (j.zero, j.size, j.bytes)) = some (some t102.zero, t102.size, t102.bytes) ∧ (t102.flat = true → FlatOk Tryd.prog 102 t102) := ⟨by kernel_rfl, by kernel_rfl, fun h => absurd h (by decide)⟩
theorem o103 : Tryd.prog.underlying 103 = some t103.desc ∧ (Tryd.prog.info? 103).map (fun j => (j.zero, j.size, j.bytes)) = some (some t103.zero, t103.size, t103.bytes) ∧ (t103.flat = true → FlatOk Tryd.prog 103 t103) := ⟨by kernel_rfl, by kernel_rfl, fun h => absurd h (by decide)⟩
theorem o104 : Tryd.prog.underlying 104 = some t104.desc ∧ (Tryd.prog.info? 104).map (fun j => (j.zero, j.size, j.bytes)) = some (some t104.zero, t104.size, t104.bytes) ∧ (t104.flat = true → FlatOk Tryd.prog 104 t104) := ⟨by kernel_rfl, by kernel_rfl, fun h => absurd h (by decide)⟩
theorem o105 : Tryd.prog.underlying 105 = some t105.desc ∧ (Tryd.prog.info? 105).map (fun j => (j.zero, j.size, j.bytes)) = some (some t105.zero, t105.size, t105.bytes) ∧ (t105.flat = true → FlatOk Tryd.prog 105 t105) := ⟨by kernel_rfl, by kernel_rfl, fun h => absurd h (by decide)⟩
theorem o106 : Tryd.prog.underlying 106 = some t106.desc ∧ (Tryd.prog.info? 106).map (fun j => (j.zero, j.size, j.bytes)) = some (some t106.zero, t106.size, t106.bytes) ∧ (t106.flat = true → FlatOk Tryd.prog 106 t106) := ⟨by kernel_rfl, by kernel_rfl, fun h => absurd h (by decide)⟩
theorem o113 : Tryd.prog.underlying 113 = some t113.desc ∧ (Tryd.prog.info? 113).map (fun j => (j.zero, j.size, j.bytes)) = some (some t113.zero, t113.size, t113.bytes) ∧ (t113.flat = true → FlatOk Tryd.prog 113 t113) := ⟨by kernel_rfl, by kernel_rfl, fun h => absurd h (by decide)⟩
theorem o114 : Tryd.prog.underlying 114 = some t114.desc ∧ (Tryd.prog.info? 114).map (fun j => (j.zero, j.size, j.bytes)) = some (some t114.zero, t114.size, t114.bytes) ∧ (t114.flat = true → FlatOk Tryd.prog 114 t114) := ⟨by kernel_rfl, by kernel_rfl, fun h => absurd h (by decide)⟩
theorem o115 : Tryd.prog.underlying 115 = some t115.desc ∧ (Tryd.prog.info? 115).map (fun j => (j.zero, j.size, j.bytes)) = some (some t115.zero, t115.size, t115.bytes) ∧ (t115.flat = true → FlatOk Tryd.prog 115 t115) := ⟨by kernel_rfl, by kernel_rfl, fun h => absurd h (by decide)⟩
theorem o116 : Tryd.prog.underlying 116 = some t116.desc ∧ (Tryd.prog.info? 116).map (fun j => (j.zero, j.size, j.bytes)) = some (some t116.zero, t116.size, t116.bytes) ∧ (t116.flat = true → FlatOk Tryd.prog 116 t116) := ⟨by kernel_rfl, by kernel_rfl, fun h => absurd h (by decide)⟩
theorem o117 : Tryd.prog.underlying 117 = some t117.desc ∧ (Tryd.prog.info? 117).map (fun j => (j.zero, j.size, j.bytes)) = some (some t117.zero, t117.size, t117.bytes) ∧ (t117.flat = true → FlatOk Tryd.prog 117 t117) := ⟨by kernel_rfl, by kernel_rfl, fun h => absurd h (by decide)⟩
theorem o118 : Tryd.prog.underlying 118 = some t118.desc ∧ (Tryd.prog.info? 118).map (fun j => (j.zero, j.size, j.bytes)) = some (some t118.zero, t118.size, t118.bytes) ∧ (t118.flat = true → FlatOk Tryd.prog 118 t118) := ⟨by kernel_rfl, by kernel_rfl, fun h => absurd h (by decide)⟩
theorem o119 : Tryd.prog.underlying 119 = some t119.desc ∧ (Tryd.prog.info? 119).map (fun j => (j.zero, j.size, j.bytes)) = some (some t119.zero, t119.size, t119.bytes) ∧ (t119.flat = true → FlatOk Tryd.prog 119 t119) := ⟨by kernel_rfl, by kernel_rfl, fun h => absurd h (by decide)⟩
theorem o120 : Tryd.prog.underlying 120 = some t120.desc ∧ (Tryd.prog.info? 120).map (fun j => (j.zero, j.size, j.bytes)) = some (some t120.zero, t120.size, t120.bytes) ∧ (t120.flat = true → FlatOk Tryd.prog 120 t120) := ⟨by kernel_rfl, by kernel_rfl, fun h => absurd h (by decide)⟩
theorem o121 : Tryd.prog.underlying 121 = some t121.desc ∧ (Tryd.prog.info? 121).map (fun j => (j.zero, j.size, j.bytes)) = some (some t121.zero, t121.size, t121.bytes) ∧ (t121.flat = true → FlatOk Tryd.prog 121 t121) := ⟨by kernel_rfl, by kernel_rfl, fun h => absurd h (by decide)⟩
theorem o122 : Tryd.prog.underlying 122 = some t122.desc ∧ (Tryd.prog.info? 122).map (fun j => (j.zero, j.size, j.bytes)) = some (some t122.zero, t122.size, t122.bytes) ∧ (t122.flat = true → FlatOk Tryd.prog 122 t122) := ⟨by kernel_rfl, by kernel_rfl, fun h => absurd h (by decide)⟩
theorem o123 : Tryd.prog.underlying 123 = some t123.desc ∧ (Tryd.prog.info? 123).map (fun j => (j.zero, j.size, j.bytes)) = some (some t123.zero, t123.size, t123.bytes) ∧ (t123.flat = true → FlatOk Tryd.prog 123 t123) := ⟨by kernel_rfl, by kernel_rfl, fun h => absurd h (by decide)⟩
theorem o124 : Tryd.prog.underlying 124 = some t124.desc ∧ (Tryd.prog.info? 124).map (fun j => (j.zero, j.size, j.bytes)) = some (some t124.zero, t124.size, t124.bytes) ∧ (t124.flat = true → FlatOk Tryd.prog 124 t124) := ⟨by kernel_rfl, by kernel_rfl, fun h => absurd h (by decide)⟩
theorem o125 : Tryd.prog.underlying 125 = some t125.desc ∧ (Tryd.prog.info? 125).map (fun j => (j.zero, j.size, j.bytes)) = some (some t125.zero, t125.size, t125.bytes) ∧ (t125.flat = true → FlatOk Tryd.prog 125 t125) := ⟨by kernel_rfl, by kernel_rfl, fun h => absurd h (by decide)⟩
theorem o126 : Tryd.prog.underlying 126 = some t126.desc ∧ (Tryd.prog.info? 126).map (fun j => (j.zero, j.size, j.bytes)) = some (some t126.zero, t126.size, t126.bytes) ∧ (t126.flat = true → FlatOk Tryd.prog 126 t126) := ⟨by kernel_rfl, by kernel_rfl, fun h => absurd h (by decide)⟩
theorem o127 : Tryd.prog.underlying 127 = some t127.desc ∧ (Tryd.prog.info? 127).map (fun j => (j.zero, j.size, j.bytes)) = some (some t127.zero, t127.size, t127.bytes) ∧ (t127.flat = true → FlatOk Tryd.prog 127 t127) := ⟨by kernel_rfl, by kernel_rfl, fun h => absurd h (by decide)⟩
theorem o128 : Tryd.prog.underlying 128 = some t128.desc ∧ (Tryd.prog.info? 128).map (fun j => (j.zero, j.size, j.bytes)) = some (some t128.zero, t128.size, t128.bytes) ∧ (t128.flat = true → FlatOk Tryd.prog 128 t128) := ⟨by kernel_rfl, by kernel_rfl, fun h => absurd h (by decide)⟩
theorem o129 : Tryd.prog.underlying 129 = some t129.desc ∧ (Tryd.prog.info? 129).map (fun j => (j.zero, j.size, j.bytes)) = some (some t129.zero, t129.size, t129.bytes) ∧ (t129.flat = true → FlatOk Tryd.prog 129 t129) := ⟨by kernel_rfl, by kernel_rfl, fun h => absurd h (by decide)⟩
theorem o130 : Tryd.prog.underlying 130 = some t130.desc ∧ (Tryd.prog.info? 130).map (fun j => (j.zero, j.size, j.bytes)) = some (some t130.zero, t130.size, t130.bytes) ∧ (t130.flat = true → FlatOk Tryd.prog 130 t130) := ⟨by kernel_rfl, by kernel_rfl, fun h => absurd h (by decide)⟩
theorem o131 : Tryd.prog.underlying 131 = some t131.desc ∧ (Tryd.prog.info? 131).map (fun j => (j.zero, j.size, j.bytes)) = some (some t131.zero, t131.size, t131.bytes) ∧ (t131.flat = true → FlatOk Tryd.prog 131 t131) := ⟨by kernel_rfl, by kernel_rfl, fun h => absurd h (by decide)⟩
theorem o132 : Tryd.prog.underlying 132 = some t132.desc ∧ (Tryd.prog.info? 132).map (fun j => (j.zero, j.size, j.bytes)) = some (some t132.zero, t132.size, t132.bytes) ∧ (t132.flat = true → FlatOk Tryd.prog 132 t132) := ⟨by kernel_rfl, by kernel_rfl, fun h => absurd h (by decide)⟩
theorem o133 : Tryd.prog.underlying 133 = some t133.desc ∧ (Tryd.prog.info? 133).map (fun j => (j.zero, j.size, j.bytes)) = some (some t133.zero, t133.size, t133.bytes) ∧ (t133.flat = true → FlatOk Tryd.prog 133 t133) := ⟨by kernel_rfl, by kernel_rfl, fun h => absurd h (by decide)⟩
theorem o134 : Tryd.prog.underlying 134 = some t134.desc ∧ (Tryd.prog.info? 134).map (fun j => (j.zero, j.size, j.bytes)) = some (some t134.zero, t134.size, t134.bytes) ∧ (t134.flat = true → FlatOk Tryd.prog 134 t134) := ⟨by kernel_rfl, by kernel_rfl, fun h => absurd h (by decide)⟩
theorem o135 : Tryd.prog.underlying 135 = some t135.desc ∧ (Tryd.prog.info? 135).map (fun j => (j.zero, j.size, j.bytes)) = some (some t135.zero, t135.size, t135.bytes) ∧ (t135.flat = true → FlatOk Tryd.prog 135 t135) := ⟨by kernel_rfl, by kernel_rfl, fun h => absurd h (by decide)⟩
theorem o137 : Tryd.prog.underlying 137 = some t137.desc ∧ (Tryd.prog.info? 137).map (fun j => (j.zero, j.size, j.bytes)) = some (some t137.zero, t137.size, t137.bytes) ∧ (t137.flat = true → FlatOk Tryd.prog 137 t137) := ⟨by kernel_rfl, by kernel_rfl, fun h => absurd h (by decide)⟩
theorem o138 : Tryd.prog.underlying 138 = some t138.desc ∧ (Tryd.prog.info? 138).map (fun j => (j.zero, j.size, j.bytes)) = some (some t138.zero, t138.size, t138.bytes) ∧ (t138.flat = true → FlatOk Tryd.prog 138 t138) := ⟨by kernel_rfl, by kernel_rfl, fun h => absurd h (by decide)⟩
theorem o139 : Tryd.prog.underlying 139 = some t139.desc ∧ (Tryd.prog.info? 139).map (fun j => (j.zero, j.size, j.bytes)) = some (some t139.zero, t139.size, t139.bytes) ∧ (t139.flat = true → FlatOk Tryd.prog 139 t139) := ⟨by kernel_rfl, by kernel_rfl, fun h => absurd h (by decide)⟩
theorem o140 : Tryd.prog.underlying 140 = some t140.desc ∧ (Tryd.prog.info? 140).map (fun j => (j.zero, j.size, j.bytes)) = some (some t140.zero, t140.size, t140.bytes) ∧ (t140.flat = true → FlatOk Tryd.prog 140 t140) := ⟨by kernel_rfl, by kernel_rfl, fun h => absurd h (by decide)⟩
theorem o141 : Tryd.prog.underlying 141 = some t141.desc ∧ (Tryd.prog.info? 141).map (fun j => (j.zero, j.size, j.bytes)) = some (some t141.zero, t141.size, t141.bytes) ∧ (t141.flat = true → FlatOk Tryd.prog 141 t141) := ⟨by kernel_rfl, by kernel_rfl, fun h => absurd h (by decide)⟩
theorem o142 : Tryd.prog.underlying 142 = some t142.desc ∧ (Tryd.prog.info? 142).map (fun j => (j.zero, j.size, j.bytes)) = some (some t142.zero, t142.size, t142.bytes) ∧ (t142.flat = true → FlatOk Tryd.prog 142 t142) := ⟨by kernel_rfl, by kernel_rfl, fun h => absurd h (by decide)⟩
theorem o143 : Tryd.prog.underlying 143 = some t143.desc ∧ (Tryd.prog.info? 143).map (fun j => (j.zero, j.size, j.bytes)) = some (some t143.zero, t143.size, t143.bytes) ∧ (t143.flat = true → FlatOk Tryd.prog 143 t143) := ⟨by kernel_rfl, by kernel_rfl, fun h => absurd h (by decide)⟩
theorem o144 : Tryd.prog.underlying 144 = some t144.desc ∧ (Tryd.prog.info? 144).map (fun j => (j.zero, j.size, j.bytes)) = some (some t144.zero, t144.size, t144.bytes) ∧ (t144.flat = true → FlatOk Tryd.prog 144 t144) := ⟨by kernel_rfl, by kernel_rfl, fun h => absurd h (by decide)⟩
theorem o145 : Tryd.prog.underlying 145 = some t145.desc ∧ (Tryd.prog.info? 145).map (fun j => (j.zero, j.size, j.bytes)) = some (some t145.zero, t145.size, t145.bytes) ∧ (t145.flat = true → FlatOk Tryd.prog 145 t145) := ⟨by kernel_rfl, by kernel_rfl, fun h => absurd h (by decide)⟩
theorem o146 : Tryd.prog.underlying 146 = some t146.desc ∧ (Tryd.prog.info? 146).map (fun j => (j.zero, j.size, j.bytes)) = some (some t146.zero, t146.size, t146.bytes) ∧ (t146.flat = true → FlatOk Tryd.prog 146 t146) := ⟨by kernel_rfl, by kernel_rfl, fun h => absurd h (by decide)⟩
theorem o147 : Tryd.prog.underlying 147 = some t147.desc ∧ (Tryd.prog.info? 147).map (fun j => (j.zero, j.size, j.bytes)) = some (some t147.zero, t147.size, t147.bytes) ∧ (t147.flat = true → FlatOk Tryd.prog 147 t147) := ⟨by kernel_rfl, by kernel_rfl, fun h => absurd h (by decide)⟩
theorem o148 : Tryd.prog.underlying 148 = some t148.desc ∧ (Tryd.prog.info? 148).map (fun j => (j.zero, j.size, j.bytes)) = some (some t148.zero, t148.size, t148.bytes) ∧ (t148.flat = true → FlatOk Tryd.prog 148 t148) := ⟨by kernel_rfl, by kernel_rfl, fun h => absurd h (by decide)⟩
theorem o149 : Tryd.prog.underlying 149 = some t149.desc ∧ (Tryd.prog.info? 149).map (fun j => (j.zero, j.size, j.bytes)) = some (some t149.zero, t149.size, t149.bytes) ∧ (t149.flat = true → FlatOk Tryd.prog 149 t149) := ⟨by kernel_rfl, by kernel_rfl, fun h => absurd h (by decide)⟩
theorem o150 : Tryd.prog.underlying 150 = some t150.desc ∧ (Tryd.prog.info? 150).map (fun j => (j.zero, j.size, j.bytes)) = some (some t150.zero, t150.size, t150.bytes) ∧ (t150.flat = true → FlatOk Tryd.prog 150 t150) := ⟨by kernel_rfl, by kernel_rfl, fun h => absurd h (by decide)⟩
theorem o151 : Tryd.prog.underlying 151 = some t151.desc ∧ (Tryd.prog.info? 151).map (fun j => (j.zero, j.size, j.bytes)) = some (some t151.zero, t151.size, t151.bytes) ∧ (t151.flat = true → FlatOk Tryd.prog 151 t151) := ⟨by kernel_rfl, by kernel_rfl, fun h => absurd h (by decide)⟩
theorem o152 : Tryd.prog.underlying 152 = some t152.desc ∧ (Tryd.prog.info? 152).map (fun j => (j.zero, j.size, j.bytes)) = some (some t152.zero, t152.size, t152.bytes) ∧ (t152.flat = true → FlatOk Tryd.prog 152 t152) := ⟨by kernel_rfl, by kernel_rfl, fun h => absurd h (by decide)⟩
theorem o153 : Tryd.prog.underlying 153 = some t153.desc ∧ (Tryd.prog.info? 153).map (fun j => (j.zero, j.size, j.bytes)) = some (some t153.zero, t153.size, t153.bytes) ∧ (t153.flat = true → FlatOk Tryd.prog 153 t153) := ⟨by kernel_rfl, by kernel_rfl, fun h => absurd h (by decide)⟩
theorem o154 : Tryd.prog.underlying 154 = some t154.desc ∧ (Tryd.prog.info? 154).map (fun j => (j.zero, j.size, j.bytes)) = some (some t154.zero, t154.size, t154.bytes) ∧ (t154.flat = true → FlatOk Tryd.prog 154 t154) := ⟨by kernel_rfl, by kernel_rfl, fun h => absurd h (by decide)⟩
theorem o155 : Tryd.prog.underlying 155 = some t155.desc ∧ (Tryd.prog.info? 155).map (fun j => (j.zero, j.size, j.bytes)) = some (some t155.zero, t155.size, t155.bytes) ∧ (t155.flat = true → FlatOk Tryd.prog 155 t155) := ⟨by kernel_rfl, by kernel_rfl, fun h => absurd h (by decide)⟩
theorem o156 : Tryd.prog.underlying 156 = some t156.desc ∧ (Tryd.prog.info? 156).map (fun j => (j.zero, j.size, j.bytes)) = some (some t156.zero, t156.size, t156.bytes) ∧ (t156.flat = true → FlatOk Tryd.prog 156 t156) := ⟨by kernel_rfl, by kernel_rfl, fun h => absurd h (by decide)⟩
theorem o157 : Tryd.prog.underlying 157 = some t157.desc ∧ (Tryd.prog.info? 157).map (fun j => (j.zero, j.size, j.bytes)) = some (some t157.zero, t157.size, t157.bytes) ∧ (t157.flat = true → FlatOk Tryd.prog 157 t157) := ⟨by kernel_rfl, by kernel_rfl, fun h => absurd h (by decide)⟩
theorem o158 : Tryd.prog.underlying 158 = some t158.desc ∧ (Tryd.prog.info? 158).map (fun j => (j.zero, j.size, j.bytes)) = some (some t158.zero, t158.size, t158.bytes) ∧ (t158.flat = true → FlatOk Tryd.prog 158 t158) := ⟨by kernel_rfl, by kernel_rfl, fun h => absurd h (by decide)⟩
theorem o159 : Tryd.prog.underlying 159 = some t159.desc ∧ (Tryd.prog.info? 159).map (fun j => (j.zero, j.size, j.bytes)) = some (some t159.zero, t159.size, t159.bytes) ∧ (t159.flat = true → FlatOk Tryd.prog 159 t159) := ⟨by kernel_rfl, by kernel_rfl, fun h => absurd h (by decide)⟩
theorem o160 : Tryd.prog.underlying 160 = some t160.desc ∧ (Tryd.prog.info? 160).map (fun j => (j.zero, j.size, j.bytes)) = some (some t160.zero, t160.size, t160.bytes) ∧ (t160.flat = true → FlatOk Tryd.prog 160 t160) := ⟨by kernel_rfl, by kernel_rfl, fun h => absurd h (by decide)⟩
theorem o161 : Tryd.prog.underlying 161 = some t161.desc ∧ (Tryd.prog.info? 161).map (fun j => (j.zero, j.size, j.bytes)) = some (some t161.zero, t161.size, t161.bytes) ∧ (t161.flat = true → FlatOk Tryd.prog 161 t161) := ⟨by kernel_rfl, by kernel_rfl, fun h => absurd h (by decide)⟩
theorem o162 : Tryd.prog.underlying 162 = some t162.desc ∧ (Tryd.prog.info? 162).map (fun j => (j.zero, j.size, j.bytes)) = some (some t162.zero, t162.size, t162.bytes) ∧ (t162.flat = true → FlatOk Tryd.prog 162 t162) := ⟨by kernel_rfl, by kernel_rfl, fun h => absurd h (by decide)⟩
theorem o163 : Tryd.prog.underlying 163 = some t163.desc ∧ (Tryd.prog.info? 163).map (fun j => (j.zero, j.size, j.bytes)) = some (some t163.zero, t163.size, t163.bytes) ∧ (t163.flat = true → FlatOk Tryd.prog 163 t163) := ⟨by kernel_rfl, by kernel_rfl, fun h => absurd h (by decide)⟩
theorem o165 : Tryd.prog.underlying 165 = some t165.desc ∧ (Tryd.prog.info? 165).map (fun j => (j.zero, j.size, j.bytes)) = some (some t165.zero, t165.size, t165.bytes) ∧ (t165.flat = true → FlatOk Tryd.prog 165 t165) := ⟨by kernel_rfl, by kernel_rfl, fun h => absurd h (by decide)⟩
theorem o166 : Tryd.prog.underlying 166 = some t166.desc ∧ (Tryd.prog.info? 166).map (fun j => (j.zero, j.size, j.bytes)) = some (some t166.zero, t166.size, t166.bytes) ∧ (t166.flat = true → FlatOk Tryd.prog 166 t166) := ⟨by kernel_rfl, by kernel_rfl, fun h => absurd h (by decide)⟩
theorem o167 : Tryd.prog.underlying 167 = some t167.desc ∧ (Tryd.prog.info? 167).map (fun j => (j.zero, j.size, j.bytes)) = some (some t167.zero, t167.size, t167.bytes) ∧ (t167.flat = true → FlatOk Tryd.prog 167 t167) := ⟨by kernel_rfl, by kernel_rfl, fun h => absurd h (by decide)⟩
theorem o168 : Tryd.prog.underlying 168 = some t168.desc ∧ (Tryd.prog.info? 168).map (fun j => (j.zero, j.size, j.bytes)) = some (some t168.zero, t168.size, t168.bytes) ∧ (t168.flat = true → FlatOk Tryd.prog 168 t168) := ⟨by kernel_rfl, by kernel_rfl, fun h => absurd h (by decide)⟩
theorem o176 : Tryd.prog.underlying 176 = some t176.desc ∧ (Tryd.prog.info? 176).map (fun j => (j.zero, j.size, j.bytes)) = some (some t176.zero, t176.size, t176.bytes) ∧ (t176.flat = true → FlatOk Tryd.prog 176 t176) := ⟨by kernel_rfl, by kernel_rfl, fun h => absurd h (by decide)⟩
theorem o181 : Tryd.prog.underlying 181 = some t181.desc ∧ (Tryd.prog.info? 181).map (fun j => (j.zero, j.size, j.bytes)) = some (some t181.zero, t181.size, t181.bytes) ∧ (t181.flat = true → FlatOk Tryd.prog 181 t181) := ⟨by kernel_rfl, by kernel_rfl, fun h => absurd h (by decide)⟩
theorem o187 : Tryd.prog.underlying 187 = some t187.desc ∧ (Tryd.prog.info? 187).map (fun j => (j.zero, j.size, j.bytes)) = some (some t187.zero, t187.size, t187.bytes) ∧ (t187.flat = true → FlatOk Tryd.prog 187 t187) := ⟨by kernel_rfl, by kernel_rfl, fun h => absurd h (by decide)⟩
theorem o194 : Tryd.prog.underlying 194 = some t194.desc ∧ (Tryd.prog.info? 194).map (fun j => (j.zero, j.size, j.bytes)) = some (some t194.zero, t194.size, t194.bytes) ∧ (t194.flat = true → FlatOk Tryd.prog 194 t194) := ⟨by kernel_rfl, by kernel_rfl, fun h => absurd h (by decide)⟩
def ts : List (Nat × TI) := [(0, t0), (1, t1), (2, t2), (3, t3), (4, t4), (5, t5), (9, t9), (12, t12), (13, t13), (20, t20), (21, t21), (22, t22), (23, t23), (24, t24), (25, t25), (26, t26), (27, t27), (28, t28), (29, t29), (30, t30), (31, t31), (32, t32), (33, t33), (34, t34), (35, t35), (36, t36), (37, t37), (38, t38), (39, t39), (40, t40), (41, t41), (42, t42), (43, t43), (44, t44), (45, t45), (46, t46), (47, t47), (48, t48), (49, t49), (50, t50), (51, t51), (52, t52), (53, t53), (54, t54), (55, t55), (56, t56), (57, t57), (58, t58), (59, t59), (60, t60), (61, t61), (62, t62), (63, t63), (64, t64), (65, t65), (66, t66), (67, t67), (68, t68), (81, t81), (82, t82), (83, t83), (84, t84), (85, t85), (86, t86), (87, t87), (88, t88), (89, t89), (90, t90), (91, t91), (92, t92), (93, t93), (94, t94), (95, t95), (96, t96), (97, t97), (98, t98), (99, t99), (100, t100), (101, t101), (102, t102), (103, t103), (104, t104), (105, t105), (106, t106), (113, t113), (114, t114), (115, t115), (116, t116), (117, t117), (118, t118), (119, t119), (120, t120), (121, t121), (122, t122), (123, t123), (124, t124), (125, t125), (126, t126), (127, t127), (128, t128), (129, t129), (130, t130), (131, t131), (132, t132), (133, t133), (134, t134), (135, t135), (137, t137), (138, t138), (139, t139), (140, t140), (141, t141), (142, t142), (143, t143), (144, t144), (145, t145), (146, t146), (147, t147), (148, t148), (149, t149), (150, t150), (151, t151), (152, t152), (153, t153), (154, t154), (155, t155), (156, t156), (157, t157), (158, t158), (159, t159), (160, t160), (161, t161), (162, t162), (163, t163), (165, t165), (166, t166), (167, t167), (168, t168), (176, t176), (181, t181), (187, t187), (194, t194)]
theorem ts_ok : TabOkT Tryd.prog ts := by
  refine ⟨o0, o1, o2, o3, o4, o5, o9, o12, o13, o20, o21, o22, o23, o24, o25, o26, o27, o28, o29, o30, o31, o32, o33, o34, o35, o36, o37, o38, o39, o40, o41, o42, o43, o44, o45, o46, o47, o48, o49, o50, o51, o52, o53, o54, o55, o56, o57, o58, o59, o60, o61, o62, o63, o64, o65, o66, o67, o68, o81, o82, o83, o84, o85, o86, o87, o88, o89, o90, o91, o92, o93, o94, o95, o96, o97, o98, o99, o100, o101, o102, o103, o104, o105, o106, o113, o114, o115, o116, o117, o118, o119, o120, o121, o122, o123, o124, o125, o126, o127, o128, o129, o130, o131, o132, o133, o134, o135, o137, o138, o139, o140, o141, o142, o143, o144, o145, o146, o147, o148, o149, o150, o151, o152, o153, o154, o155, o156, o157, o158, o159, o160, o161, o162, o163, o165, o166, o167, o168, o176, o181, o187, o194, trivial⟩
theorem g3 : IsGo Tryd.prog 3 := ⟨Tryd.f3, Tryd.func3, by kernel_rfl, by kernel_rfl⟩
theorem g4 : IsGo Tryd.prog 4 := ⟨Tryd.f4, Tryd.func4, by kernel_rfl, by kernel_rfl⟩
theorem g5 : IsGo Tryd.prog 5 := ⟨Tryd.f5, Tryd.func5, by kernel_rfl, by kernel_rfl⟩
theorem g6 : IsGo Tryd.prog 6 := ⟨Tryd.f6, Tryd.func6, by kernel_rfl, by kernel_rfl⟩
theorem g7 : IsGo Tryd.prog 7 := ⟨Tryd.f7, Tryd.func7, by kernel_rfl, by kernel_rfl⟩
theorem g8 : IsGo Tryd.prog 8 := ⟨Tryd.f8, Tryd.func8, by kernel_rfl, by kernel_rfl⟩
theorem g9 : IsGo Tryd.prog 9 := ⟨Tryd.f9, Tryd.func9, by kernel_rfl, by kernel_rfl⟩
theorem g10 : IsGo Tryd.prog 10 := ⟨Tryd.f10, Tryd.func10, by kernel_rfl, by kernel_rfl⟩
theorem g11 : IsGo Tryd.prog 11 := ⟨Tryd.f11, Tryd.func11, by kernel_rfl, by kernel_rfl⟩
theorem g12 : IsGo Tryd.prog 12 := ⟨Tryd.f12, Tryd.func12, by kernel_rfl, by kernel_rfl⟩
theorem g13 : IsGo Tryd.prog 13 := ⟨Tryd.f13, Tryd.func13, by kernel_rfl, by kernel_rfl⟩
theorem g14 : IsGo Tryd.prog 14 := ⟨Tryd.f14, Tryd.func14, by kernel_rfl, by kernel_rfl⟩
theorem g15 : IsGo Tryd.prog 15 := ⟨Tryd.f15, Tryd.func15, by kernel_rfl, by kernel_rfl⟩
theorem g16 : IsGo Tryd.prog 16 := ⟨Tryd.f16, Tryd.func16, by kernel_rfl, by kernel_rfl⟩
theorem g17 : IsGo Tryd.prog 17 := ⟨Tryd.f17, Tryd.func17, by kernel_rfl, by kernel_rfl⟩
theorem g18 : IsGo Tryd.prog 18 := ⟨Tryd.f18, Tryd.func18, by kernel_rfl, by kernel_rfl⟩
theorem g19 : IsGo Tryd.prog 19 := ⟨Tryd.f19, Tryd.func19, by kernel_rfl, by kernel_rfl⟩
theorem g24 : IsGo Tryd.prog 24 := ⟨Tryd.f24, Tryd.func24, by kernel_rfl, by kernel_rfl⟩
theorem g25 : IsGo Tryd.prog 25 := ⟨Tryd.f25, Tryd.func25, by kernel_rfl, by kernel_rfl⟩
theorem g26 : IsGo Tryd.prog 26 := ⟨Tryd.f26, Tryd.func26, by kernel_rfl, by kernel_rfl⟩
theorem g27 : IsGo Tryd.prog 27 := ⟨Tryd.f27, Tryd.func27, by kernel_rfl, by kernel_rfl⟩
theorem g28 : IsGo Tryd.prog 28 := ⟨Tryd.f28, Tryd.func28, by kernel_rfl, by kernel_rfl⟩
theorem g29 : IsGo Tryd.prog 29 := ⟨Tryd.f29, Tryd.func29, by kernel_rfl, by kernel_rfl⟩
theorem g30 : IsGo Tryd.prog 30 := ⟨Tryd.f30, Tryd.func30, by kernel_rfl, by kernel_rfl⟩
theorem g31 : IsGo Tryd.prog 31 := ⟨Tryd.f31, Tryd.func31, by kernel_rfl, by kernel_rfl⟩
theorem g32 : IsGo Tryd.prog 32 := ⟨Tryd.f32, Tryd.func32, by kernel_rfl, by kernel_rfl⟩
theorem g33 : IsGo Tryd.prog 33 := ⟨Tryd.f33, Tryd.func33, by kernel_rfl, by kernel_rfl⟩
theorem g34 : IsGo Tryd.prog 34 := ⟨Tryd.f34, Tryd.func34, by kernel_rfl, by kernel_rfl⟩
theorem g35 : IsGo Tryd.prog 35 := ⟨Tryd.f35, Tryd.func35, by kernel_rfl, by kernel_rfl⟩
theorem g43 : IsGo Tryd.prog 43 := ⟨Tryd.f43, Tryd.func43, by kernel_rfl, by kernel_rfl⟩
theorem g44 : IsGo Tryd.prog 44 := ⟨Tryd.f44, Tryd.func44, by kernel_rfl, by kernel_rfl⟩
theorem g45 : IsGo Tryd.prog 45 := ⟨Tryd.f45, Tryd.func45, by kernel_rfl, by kernel_rfl⟩
theorem g46 : IsGo Tryd.prog 46 := ⟨Tryd.f46, Tryd.func46, by kernel_rfl, by kernel_rfl⟩
theorem g47 : IsGo Tryd.prog 47 := ⟨Tryd.f47, Tryd.func47, by kernel_rfl, by kernel_rfl⟩
theorem g48 : IsGo Tryd.prog 48 := ⟨Tryd.f48, Tryd.func48, by kernel_rfl, by kernel_rfl⟩
theorem g49 : IsGo Tryd.prog 49 := ⟨Tryd.f49, Tryd.func49, by kernel_rfl, by kernel_rfl⟩
theorem g50 : IsGo Tryd.prog 50 := ⟨Tryd.f50, Tryd.func50, by kernel_rfl, by kernel_rfl⟩
theorem g51 : IsGo Tryd.prog 51 := ⟨Tryd.f51, Tryd.func51, by kernel_rfl, by kernel_rfl⟩
theorem g52 : IsGo Tryd.prog 52 := ⟨Tryd.f52, Tryd.func52, by kernel_rfl, by kernel_rfl⟩
theorem g53 : IsGo Tryd.prog 53 := ⟨Tryd.f53, Tryd.func53, by kernel_rfl, by kernel_rfl⟩
theorem g54 : IsGo Tryd.prog 54 := ⟨Tryd.f54, Tryd.func54, by kernel_rfl, by kernel_rfl⟩
theorem g60 : IsGo Tryd.prog 60 := ⟨Tryd.f60, Tryd.func60, by kernel_rfl, by kernel_rfl⟩
theorem g61 : IsGo Tryd.prog 61 := ⟨Tryd.f61, Tryd.func61, by kernel_rfl, by kernel_rfl⟩
theorem g62 : IsGo Tryd.prog 62 := ⟨Tryd.f62, Tryd.func62, by kernel_rfl, by kernel_rfl⟩
theorem g63 : IsGo Tryd.prog 63 := ⟨Tryd.f63, Tryd.func63, by kernel_rfl, by kernel_rfl⟩
theorem g64 : IsGo Tryd.prog 64 := ⟨Tryd.f64, Tryd.func64, by kernel_rfl, by kernel_rfl⟩
theorem g65 : IsGo Tryd.prog 65 := ⟨Tryd.f65, Tryd.func65, by kernel_rfl, by kernel_rfl⟩
theorem g66 : IsGo Tryd.prog 66 := ⟨Tryd.f66, Tryd.func66, by kernel_rfl, by kernel_rfl⟩
theorem g67 : IsGo Tryd.prog 67 := ⟨Tryd.f67, Tryd.func67, by kernel_rfl, by kernel_rfl⟩
theorem g68 : IsGo Tryd.prog 68 := ⟨Tryd.f68, Tryd.func68, by kernel_rfl, by kernel_rfl⟩
theorem g70 : IsGo Tryd.prog 70 := ⟨Tryd.f70, Tryd.func70, by kernel_rfl, by kernel_rfl⟩
theorem g71 : IsGo Tryd.prog 71 := ⟨Tryd.f71, Tryd.func71, by kernel_rfl, by kernel_rfl⟩
theorem g72 : IsGo Tryd.prog 72 := ⟨Tryd.f72, Tryd.func72, by kernel_rfl, by kernel_rfl⟩
theorem g75 : IsGo Tryd.prog 75 := ⟨Tryd.f75, Tryd.func75, by kernel_rfl, by kernel_rfl⟩
theorem g76 : IsGo Tryd.prog 76 := ⟨Tryd.f76, Tryd.func76, by kernel_rfl, by kernel_rfl⟩
theorem g77 : IsGo Tryd.prog 77 := ⟨Tryd.f77, Tryd.func77, by kernel_rfl, by kernel_rfl⟩
theorem g78 : IsGo Tryd.prog 78 := ⟨Tryd.f78, Tryd.func78, by kernel_rfl, by kernel_rfl⟩
theorem g79 : IsGo Tryd.prog 79 := ⟨Tryd.f79, Tryd.func79, by kernel_rfl, by kernel_rfl⟩
theorem g85 : IsGo Tryd.prog 85 := ⟨Tryd.f85, Tryd.func85, by kernel_rfl, by kernel_rfl⟩
theorem g86 : IsGo Tryd.prog 86 := ⟨Tryd.f86, Tryd.func86, by kernel_rfl, by kernel_rfl⟩
theorem g87 : IsGo Tryd.prog 87 := ⟨Tryd.f87, Tryd.func87, by kernel_rfl, by kernel_rfl⟩
theorem g88 : IsGo Tryd.prog 88 := ⟨Tryd.f88, Tryd.func88, by kernel_rfl, by kernel_rfl⟩
theorem g89 : IsGo Tryd.prog 89 := ⟨Tryd.f89, Tryd.func89, by kernel_rfl, by kernel_rfl⟩
theorem g90 : IsGo Tryd.prog 90 := ⟨Tryd.f90, Tryd.func90, by kernel_rfl, by kernel_rfl⟩
theorem g91 : IsGo Tryd.prog 91 := ⟨Tryd.f91, Tryd.func91, by kernel_rfl, by kernel_rfl⟩
def fs : List Nat := [3, 4, 5, 6, 7, 8, 9, 10, 11, 12, 13, 14, 15, 16, 17, 18, 19, 24, 25, 26, 27, 28, 29, 30, 31, 32, 33, 34, 35, 43, 44, 45, 46, 47, 48, 49, 50, 51, 52, 53, 54, 60, 61, 62, 63, 64, 65, 66, 67, 68, 70, 71, 72, 75, 76, 77, 78, 79, 85, 86, 87, 88, 89, 90, 91]
theorem fs_ok : TabOkF Tryd.prog fs := ⟨g3, g4, g5, g6, g7, g8, g9, g10, g11, g12, g13, g14, g15, g16, g17, g18, g19, g24, g25, g26, g27, g28, g29, g30, g31, g32, g33, g34, g35, g43, g44, g45, g46, g47, g48, g49, g50, g51, g52, g53, g54, g60, g61, g62, g63, g64, g65, g66, g67, g68, g70, g71, g72, g75, g76, g77, g78, g79, g85, g86, g87, g88, g89, g90, g91, trivial⟩
def tb : Tab := ⟨ts, fs⟩
theorem ok : TabOk Tryd.prog tb := ⟨ts_ok, fs_ok⟩
end T
end Go.Proofs.YtfnjodpehomgfaaDoor
namespace Go.Tx
abbrev Bs := List UInt8
def k_fn : Bs := [102, 110]
def k_let : Bs := [108, 101, 116]
def k_spawn : Bs := [115, 112, 97, 119, 110]
def k_sync : Bs := [115, 121, 110, 99]
def k_if : Bs := [105, 102]
def k_else : Bs := [101, 108, 115, 101]
def k_while : Bs := [119, 104, 105, 108, 101]
def k_do : Bs := [100, 111]
def k_return : Bs := [114, 101, 116, 117, 114, 110]
def k_break : Bs := [98, 114, 101, 97, 107]
def k_continue : Bs := [99, 111, 110, 116, 105, 110, 117, 101]
def k_min : Bs := [109, 105, 110]
def k_max : Bs := [109, 97, 120]
def k_reduce : Bs := [114, 101, 100, 117, 99, 101]
def k_each : Bs := [101, 97, 99, 104]
def k_name : Bs := [110, 97, 109, 101]
def k_number : Bs := [110, 117, 109, 98, 101, 114]
def k_end : Bs := [101, 110, 100]
def s_shl : Bs := [60, 60]
def s_shr : Bs := [62, 62]
def s_le : Bs := [60, 61]
def s_eqq : Bs := [61, 61]
def s_neq : Bs := [33, 61]
def s_andd : Bs := [38, 38]
def s_orr : Bs := [124, 124]
def s_lp : Bs := [40]
def s_rp : Bs := [41]
def s_lb : Bs := [123]
def s_rb : Bs := [125]
def s_comma : Bs := [44]
def s_semi : Bs := [59]
def s_asg : Bs := [61]
def s_plus : Bs := [43]
def s_minus : Bs := [45]
def s_star : Bs := [42]
def s_slash : Bs := [47]
def s_pct : Bs := [37]
def s_amp : Bs := [38]
def s_bar : Bs := [124]
def s_xor : Bs := [94]
def s_lt : Bs := [60]
def s_bang : Bs := [33]
def keywords : List Bs := [k_fn, k_let, k_spawn, k_sync, k_if, k_else, k_while, k_do, k_return, k_break, k_continue, k_min, k_max, k_reduce, k_each]
def signs : List Bs := [s_shl, s_shr, s_le, s_eqq, s_neq, s_andd, s_orr, s_lp, s_rp, s_lb, s_rb, s_comma, s_semi, s_asg, s_plus, s_minus, s_star, s_slash, s_pct, s_amp, s_bar, s_xor, s_lt, s_bang]
def opNames : List Bs := [s_plus, s_minus, s_star, s_slash, s_pct, s_amp, s_bar, s_xor, s_shl, s_shr, k_min, k_max, s_lt, s_le, s_eqq, s_neq]
def levels : List (List Bs) := [[s_orr], [s_andd], [s_eqq, s_neq, s_lt, s_le], [s_bar, s_xor], [s_amp], [s_shl, s_shr], [s_plus, s_minus], [s_star, s_slash, s_pct]]
def blank (c : UInt8) : Bool := decide (c.toNat = 32 ∨ c.toNat = 9 ∨ c.toNat = 10 ∨ c.toNat = 13)
def letter (c : UInt8) : Bool := decide (c.toNat = 95 ∨ (97 ≤ c.toNat ∧ c.toNat ≤ 122) ∨ (65 ≤ c.toNat ∧ c.toNat ≤ 90))
def digit (c : UInt8) : Bool := decide (48 ≤ c.toNat ∧ c.toNat ≤ 57)
def alnum (c : UInt8) : Bool := letter c || digit c
/-- the place behind blanks and comments; the first argument: inside a comment -/
def skp : Bool → Bs → Nat → Nat
  | _, [], p => p
  | false, c :: r, p => if blank c = true then skp false r (p + 1) else if c.toNat = 47 ∧ r.head?.map UInt8.toNat = some 47 then skp true r (p + 1) else p
  | true, c :: r, p => if c.toNat = 10 then skp false r (p + 1) else skp true r (p + 1)
def spanN (f : UInt8 → Bool) : Bs → Nat
  | [] => 0
  | c :: r => if f c = true then spanN f r + 1 else 0
structure Tk where
  kind : Bs
  text : Bs
  at_ : Nat
  n : Int
  err : Int
def isKw (s : Bs) : Bool := keywords.contains s
def named (s : Bs) (p : Nat) : Tk := if isKw s = true then ⟨s, s, p, 0, 0⟩ else ⟨k_name, s, p, 0, if 24 < s.length then 142 else 0⟩
def val (s : Bs) : Nat := s.foldl (fun v c => v * 10 + (c.toNat - 48)) 0
/-- digits as a number below 0: minus the value; none: no number of the language -/
def negOf (s : Bs) : Option Int := if s = [48] then some 0 else if 19 < s.length ∨ 9223372036854775808 < val s ∨ s.head?.map UInt8.toNat = some 48 then none else some (-(val s : Int))
def number (s : Bs) (p : Nat) : Tk := match negOf s with
  | some v => ⟨k_number, s, p, v, 0⟩
  | none => ⟨k_number, s, p, 0, 143⟩
def signAt (l : Bs) : Option Bs := signs.find? fun t => l.take t.length == t
/-- the word at a place or behind blanks, and the place behind it -/
def readT (l : Bs) (p : Nat) : Tk × Nat := match l.drop (skp false (l.drop p) p) with
  | [] => (⟨k_end, [], l.length, 0, 0⟩, l.length)
  | c :: r =>
    if letter c = true then (named ((c :: r).take (spanN alnum (c :: r))) (skp false (l.drop p) p), skp false (l.drop p) p + spanN alnum (c :: r))
    else if digit c = true then (number ((c :: r).take (spanN digit (c :: r))) (skp false (l.drop p) p), skp false (l.drop p) p + spanN digit (c :: r))
    else match signAt (c :: r) with
      | some t => (⟨t, t, skp false (l.drop p) p, 0, 0⟩, skp false (l.drop p) p + t.length)
      | none => (⟨[], [], skp false (l.drop p) p, 0, 140⟩, skp false (l.drop p) p + 1)
/-- the words from a place on: up to the end, or to one that is wrong -/
def words (l : Bs) : Nat → Nat → List Tk
  | 0, _ => []
  | n + 1, p => if (readT l p).1.err ≠ 0 ∨ (readT l p).1.kind = k_end then [(readT l p).1] else (readT l p).1 :: words l n (readT l p).2
/-! ### trees -/
inductive Ex where
  | mk (kind op k : Int) (name comb : Bs) (kids : List Ex)
inductive St where
  | mk (kind : Int) (name : Bs) (e : Ex) (body els : List St)
structure Fnc where
  name : Bs
  params : List Bs
  body : List St
def Ex.zero : Ex := .mk 0 0 0 [] [] []
/-! ### reading -/
inductive Res (α : Type) where
  | out
  | err (e : Int) (p : Nat)
  | ok (a : α) (ts : List Tk)
def Res.bind {α β : Type} (r : Res α) (k : α → List Tk → Res β) : Res β := match r with
  | .out => .out
  | .err e p => .err e p
  | .ok a ts => k a ts
def curK (ts : List Tk) : Bs := match ts with | t :: _ => t.kind | [] => []
def curT (ts : List Tk) : Tk := match ts with | t :: _ => t | [] => ⟨[], [], 0, 0, 0⟩
/-- on to the next word; a number of which there is only the opposite stands behind a minus alone -/
def stepP (minus : Bool) (ts : List Tk) : Res Unit := match ts with
  | _ :: t :: r => if t.err ≠ 0 then .err t.err t.at_ else if t.kind = k_number ∧ t.n = -9223372036854775808 ∧ minus = false then .err 143 t.at_ else .ok () (t :: r)
  | _ => .out
def takeP (k : Bs) (ts : List Tk) : Res Tk := if curK ts ≠ k then .err 141 (curT ts).at_ else (stepP false ts).bind fun _ ts' => .ok (curT ts) ts'
def deepP (d : Nat) (ts : List Tk) : Res Unit := if 40 < d then .err 144 (curT ts).at_ else .ok () ts
def findAux (s : Bs) : List Bs → Nat → Int
  | [], _ => -1
  | x :: r, i => if x = s then (i : Int) else findAux s r (i + 1)
def findOp (s : Bs) : Int := findAux s opNames 0
def joinP (sign : Bs) (x y : Ex) : Ex := if sign = s_andd then .mk 8 0 0 [] [] [x, y] else if sign = s_orr then .mk 9 0 0 [] [] [x, y] else .mk 4 (findOp sign) 0 [] [] [x, y]
def standsB (level : Nat) (k : Bs) : Bool := (levels[level]?.getD []).contains k
/-- the functions that read, at one fuel -/
structure PF where
  expr : Nat → Nat → List Tk → Res Ex
  unary : Nat → List Tk → Res Ex
  primary : Nat → List Tk → Res Ex
  block : Nat → List Tk → Res (List St)
  choice : Nat → List Tk → Res St
/-- the opposite, in 64 bits -/
def negW (n : Int) : Int := if n = -9223372036854775808 then n else -n
def PF.none : PF := ⟨fun _ _ _ => .out, fun _ _ => .out, fun _ _ => .out, fun _ _ => .out, fun _ _ => .out⟩
def loopE (F : PF) (level d : Nat) : Nat → Ex → List Tk → Res Ex
  | 0, _, _ => .out
  | n + 1, e, ts => if standsB level (curK ts) = true then (stepP false ts).bind fun _ ts1 => (F.expr (level + 1) d ts1).bind fun r ts2 => loopE F level d n (joinP (curK ts) e r) ts2 else .ok e ts
def argsP (F : PF) (d : Nat) : Nat → List Ex → List Tk → Res (List Ex)
  | 0, _, _ => .out
  | n + 1, l, ts => if curK ts = s_rp then (takeP s_rp ts).bind fun _ ts1 => .ok l ts1
    else (if l.length ≠ 0 then (takeP s_comma ts).bind fun _ ts1 => .ok () ts1 else .ok () ts).bind fun _ ts1 => (F.expr 0 d ts1).bind fun e ts2 => argsP F d n (l ++ [e]) ts2
/-- the i-th of n expressions with commas between, and on; then the closing parenthesis -/
def kidsP (F : PF) (d n : Nat) : Nat → List Ex → List Tk → Res (List Ex)
  | 0, l, ts => (takeP s_rp ts).bind fun _ ts1 => .ok l ts1
  | m + 1, l, ts => (if m + 1 < n then (takeP s_comma ts).bind fun _ ts1 => .ok () ts1 else .ok () ts).bind fun _ ts1 => (F.expr 0 d ts1).bind fun e ts2 => kidsP F d n m (l ++ [e]) ts2
def formP (F : PF) (kind : Bs) (d : Nat) (ts : List Tk) : Res Ex :=
  if kind = k_reduce then (takeP k_name ts).bind fun f ts1 => (takeP s_comma ts1).bind fun _ ts2 => (takeP k_name ts2).bind fun c ts3 => (takeP s_comma ts3).bind fun _ ts4 => (kidsP F d 3 3 [] ts4).bind fun l ts5 => .ok (.mk 6 0 0 f.text c.text l) ts5
  else if kind = k_each then (takeP k_name ts).bind fun f ts1 => (takeP s_comma ts1).bind fun _ ts2 => (kidsP F d 2 2 [] ts2).bind fun l ts3 => .ok (.mk 7 0 0 f.text [] l) ts3
  else (kidsP F d 2 2 [] ts).bind fun l ts1 => .ok (.mk 4 (findOp kind) 0 [] [] l) ts1
def plainP (F : PF) (d : Nat) (ts0 : List Tk) : Res St :=
  (stepP false ts0).bind fun _ ts =>
  if curK ts0 = k_sync then .ok (.mk 3 [] .zero [] []) ts
  else if curK ts0 = k_break then .ok (.mk 8 [] .zero [] []) ts
  else if curK ts0 = k_continue then .ok (.mk 9 [] .zero [] []) ts
  else if curK ts0 = k_do then (F.expr 0 d ts).bind fun e ts1 => .ok (.mk 6 [] e [] []) ts1
  else if curK ts0 = k_return then (F.expr 0 d ts).bind fun e ts1 => .ok (.mk 7 [] e [] []) ts1
  else if curK ts0 = k_spawn then (takeP k_name ts).bind fun n ts1 => (takeP s_asg ts1).bind fun _ ts2 => (takeP k_name ts2).bind fun f ts3 => (takeP s_lp ts3).bind fun _ ts4 => (argsP F d (ts4.length + 1) [] ts4).bind fun l ts5 => .ok (.mk 2 n.text (.mk 5 0 0 f.text [] l) [] []) ts5
  else if curK ts0 = k_let then (takeP k_name ts).bind fun n ts1 => (takeP s_asg ts1).bind fun _ ts2 => (F.expr 0 d ts2).bind fun e ts3 => .ok (.mk 0 n.text e [] []) ts3
  else (takeP s_asg ts).bind fun _ ts1 => (F.expr 0 d ts1).bind fun e ts2 => .ok (.mk 1 (curT ts0).text e [] []) ts2
def beginsB (k : Bs) : Bool := k == k_let || k == k_spawn || k == k_sync || k == k_if || k == k_while || k == k_do || k == k_return || k == k_break || k == k_continue || k == k_name
def stmtP (F : PF) (d : Nat) (ts : List Tk) : Res St :=
  if beginsB (curK ts) = true then (deepP d ts).bind fun _ ts =>
    if curK ts = k_if then F.choice d ts
    else if curK ts = k_while then (stepP false ts).bind fun _ ts1 => (F.expr 0 d ts1).bind fun e ts2 => (F.block (d + 1) ts2).bind fun b ts3 => .ok (.mk 5 [] e b []) ts3
    else (plainP F d ts).bind fun s ts1 => (takeP s_semi ts1).bind fun _ ts2 => .ok s ts2
  else .err 141 (curT ts).at_
def loopB (F : PF) (d : Nat) : Nat → List St → List Tk → Res (List St)
  | 0, _, _ => .out
  | n + 1, l, ts => if curK ts = s_rb then .ok l ts else (stmtP F d ts).bind fun s ts1 => loopB F d n (l ++ [s]) ts1
def exprP (F : PF) (level d : Nat) (ts : List Tk) : Res Ex := if level = 8 then F.unary d ts else (F.expr (level + 1) d ts).bind fun e ts1 => loopE F level d (ts1.length + 1) e ts1
def unaryP (F : PF) (d : Nat) (ts : List Tk) : Res Ex :=
  if curK ts ≠ s_minus ∧ curK ts ≠ s_bang then F.primary d ts
  else (deepP (d + 1) ts).bind fun _ ts => (stepP (curK ts == s_minus) ts).bind fun _ ts1 =>
    if curK ts = s_minus ∧ curK ts1 = k_number then (stepP false ts1).bind fun _ ts2 => .ok (.mk 0 0 (curT ts1).n [] [] []) ts2
    else (F.unary (d + 1) ts1).bind fun e ts2 => .ok (.mk (if curK ts = s_bang then 3 else 2) 0 0 [] [] [e]) ts2
def primaryP (F : PF) (d : Nat) (ts : List Tk) : Res Ex :=
  if curK ts = k_number then (stepP false ts).bind fun _ ts1 => .ok (.mk 0 0 (negW (curT ts).n) [] [] []) ts1
  else if curK ts = k_name then (stepP false ts).bind fun _ ts1 =>
    if curK ts1 ≠ s_lp then .ok (.mk 1 0 0 (curT ts).text [] []) ts1
    else (deepP (d + 1) ts1).bind fun _ ts1 => (stepP false ts1).bind fun _ ts2 => (argsP F (d + 1) (ts2.length + 1) [] ts2).bind fun l ts3 => .ok (.mk 5 0 0 (curT ts).text [] l) ts3
  else if curK ts = s_lp then (deepP (d + 1) ts).bind fun _ ts => (stepP false ts).bind fun _ ts1 => (F.expr 0 (d + 1) ts1).bind fun e ts2 => (takeP s_rp ts2).bind fun _ ts3 => .ok e ts3
  else if curK ts = k_min ∨ curK ts = k_max ∨ curK ts = k_reduce ∨ curK ts = k_each then (deepP (d + 1) ts).bind fun _ ts => (stepP false ts).bind fun _ ts1 => (takeP s_lp ts1).bind fun _ ts2 => formP F (curK ts) (d + 1) ts2
  else .err 141 (curT ts).at_
def blockP (F : PF) (d : Nat) (ts : List Tk) : Res (List St) := (takeP s_lb ts).bind fun _ ts1 => (loopB F d (ts1.length + 1) [] ts1).bind fun l ts2 => (takeP s_rb ts2).bind fun _ ts3 => .ok l ts3
def choiceP (F : PF) (d : Nat) (ts : List Tk) : Res St := (takeP k_if ts).bind fun _ ts1 => (F.expr 0 d ts1).bind fun e ts2 => (F.block (d + 1) ts2).bind fun b ts3 =>
  if curK ts3 ≠ k_else then .ok (.mk 4 [] e b []) ts3
  else (stepP false ts3).bind fun _ ts4 =>
    if curK ts4 = k_if then (deepP (d + 1) ts4).bind fun _ ts4 => (F.choice (d + 1) ts4).bind fun x ts5 => .ok (.mk 4 [] e b [x]) ts5
    else (F.block (d + 1) ts4).bind fun c ts5 => .ok (.mk 4 [] e b c) ts5
def PF.next (F : PF) : PF := ⟨exprP F, unaryP F, primaryP F, blockP F, choiceP F⟩
def pf : Nat → PF
  | 0 => PF.none
  | n + 1 => PF.next (pf n)
def loopN : Nat → List Bs → List Tk → Res (List Bs)
  | 0, _, _ => .out
  | n + 1, l, ts => if curK ts = s_rp then .ok l ts else (if l.length ≠ 0 then (takeP s_comma ts).bind fun _ ts1 => .ok () ts1 else .ok () ts).bind fun _ ts1 => (takeP k_name ts1).bind fun t ts2 => loopN n (l ++ [t.text]) ts2
def functionP (F : PF) (ts : List Tk) : Res Fnc := (takeP k_fn ts).bind fun _ ts1 => (takeP k_name ts1).bind fun nm ts2 => (takeP s_lp ts2).bind fun _ ts3 => (loopN (ts3.length + 1) [] ts3).bind fun ps ts4 => (takeP s_rp ts4).bind fun _ ts5 => (F.block 1 ts5).bind fun b ts6 => .ok ⟨nm.text, ps, b⟩ ts6
def loopF (F : PF) : Nat → List Fnc → List Tk → Res (List Fnc)
  | 0, _, _ => .out
  | n + 1, l, ts => if curK ts = k_end then .ok l ts else (functionP F ts).bind fun f ts1 => loopF F n (l ++ [f]) ts1
/-- a whole text -/
def parseP (l : Bs) (fuel : Nat) : Res (List Fnc) := (stepP false (⟨[], [], 0, 0, 0⟩ :: words l (l.length + 1) 0)).bind fun _ ts => (functionP (pf fuel) ts).bind fun f ts1 => loopF (pf fuel) (ts1.length + 1) [f] ts1
end Go.Tx
namespace Go.Tx
set_option linter.unusedVariables false
set_option linter.unusedSimpArgs false
set_option linter.unusedSectionVars false
/-- what is left ends with the end, or with a word that is wrong -/
def Ends : List Tk → Prop
  | [] => False
  | [t] => t.kind = k_end ∨ t.err ≠ 0
  | _ :: r => Ends r
/-- words under way: the one in hand is right -/
structure Way (ts : List Tk) : Prop where
  ends : Ends ts
  fine : (curT ts).err = 0
def Fin {α : Type} (r : Res α) (Q : List Tk → Prop) : Prop := match r with
  | .out => False
  | .err _ _ => True
  | .ok _ ts => Q ts
theorem Fin.bind {α β : Type} {r : Res α} {k : α → List Tk → Res β} {Q' Q : List Tk → Prop} (h : Fin r Q') (hk : ∀ a ts, Q' ts → Fin (k a ts) Q) : Fin (r.bind k) Q := by
  cases r with
  | out => exact h
  | err e p => exact trivial
  | ok a ts => exact hk a ts h
theorem Fin.mono {α : Type} {r : Res α} {Q' Q : List Tk → Prop} (h : Fin r Q') (hk : ∀ ts, Q' ts → Q ts) : Fin r Q := by
  cases r with
  | out => exact h
  | err e p => exact trivial
  | ok a ts => exact hk ts h
theorem Way.ne {ts : List Tk} (h : Way ts) (hk : curK ts ≠ k_end) : ∃ t u r, ts = t :: u :: r := by
  match ts, h with
  | [], h => exact h.ends.elim
  | [t], h =>
    have hf : t.err = 0 := h.fine
    rcases h.ends with h1 | h1
    · exact absurd h1 hk
    · exact absurd hf h1
  | t :: u :: r, _ => exact ⟨t, u, r, rfl⟩
/-- less words than before, under way -/
def Less (n : Nat) (ts : List Tk) : Prop := Way ts ∧ ts.length < n
theorem step_fin {ts : List Tk} (m : Bool) (h : Way ts) (hk : curK ts ≠ k_end) : Fin (stepP m ts) (Less ts.length) := by
  obtain ⟨t, u, r, rfl⟩ := h.ne hk
  have he : Ends (u :: r) := h.ends
  simp only [stepP]
  split
  · exact trivial
  · rename_i h0
    split
    · exact trivial
    · exact ⟨⟨he, Classical.not_not.1 h0⟩, by simp⟩
theorem take_fin {ts : List Tk} {k : Bs} (h : Way ts) (hk : k ≠ k_end) : Fin (takeP k ts) (Less ts.length) := by
  unfold takeP
  split
  · exact trivial
  · rename_i h0
    have h0 := Classical.not_not.1 h0
    exact Fin.bind (step_fin false h (by rw [h0]; exact hk)) fun _ _ h1 => h1
theorem deep_fin {ts : List Tk} {d : Nat} (h : Way ts) : Fin (deepP d ts) (· = ts) := by
  unfold deepP
  split
  · exact trivial
  · exact rfl
structure Tot (f : Nat) (F : PF) : Prop where
  expr : ∀ level d ts, level ≤ 8 → Way ts → 12 * ts.length + (10 - level) ≤ f → Fin (F.expr level d ts) (Less ts.length)
  unary : ∀ d ts, Way ts → 12 * ts.length + 1 ≤ f → Fin (F.unary d ts) (Less ts.length)
  primary : ∀ d ts, Way ts → 12 * ts.length ≤ f → Fin (F.primary d ts) (Less ts.length)
  block : ∀ d ts, Way ts → 12 * ts.length ≤ f → Fin (F.block d ts) (Less ts.length)
  choice : ∀ d ts, Way ts → 12 * ts.length ≤ f → Fin (F.choice d ts) (Less ts.length)
theorem stands_ne {level : Nat} {k : Bs} (h : standsB level k = true) : k ≠ k_end := by
  rintro rfl
  unfold standsB at h
  have : ∀ l ∈ levels, l.contains k_end = false := by decide
  cases hl : levels[level]? with
  | none => rw [hl] at h; simp at h
  | some l =>
    rw [hl] at h
    have := this l (List.mem_of_getElem? hl)
    simp only [Option.getD_some] at h
    rw [this] at h; simp at h
section
variable {f : Nat} {F : PF} (T : Tot f F)
include T
theorem loopE_fin {level d n0 : Nat} (hl : level < 8) : ∀ (n : Nat) (e : Ex) (ts : List Tk), Way ts → ts.length < n → ts.length < n0 → 12 * ts.length ≤ f → Fin (loopE F level d n e ts) (Less n0)
  | 0, _, _, _, h, _, _ => absurd h (Nat.not_lt_zero _)
  | n + 1, e, ts, hw, hn, h0, hf => by
    unfold loopE
    split
    · rename_i hs
      refine Fin.bind (step_fin false hw (stands_ne hs)) fun _ ts1 h1 => ?_
      refine Fin.bind (T.expr (level + 1) d ts1 (by omega) h1.1 (by have := h1.2; omega)) fun r ts2 h2 => ?_
      exact loopE_fin hl n _ ts2 h2.1 (by have := h1.2; have := h2.2; omega) (by have := h1.2; have := h2.2; omega) (by have := h1.2; have := h2.2; omega)
    · exact ⟨hw, h0⟩
theorem comma_fin {ts : List Tk} {c : Prop} [Decidable c] (hw : Way ts) : Fin (if c then (takeP s_comma ts).bind fun _ ts1 => .ok () ts1 else .ok () ts : Res Unit) (fun ts' => Way ts' ∧ ts'.length ≤ ts.length) := by
  split
  · exact Fin.bind (take_fin hw (by decide)) fun _ _ h => ⟨h.1, by have := h.2; omega⟩
  · exact ⟨hw, Nat.le_refl _⟩
theorem args_fin {d n0 : Nat} : ∀ (n : Nat) (l : List Ex) (ts : List Tk), Way ts → ts.length < n → ts.length ≤ n0 → 12 * ts.length + 10 ≤ f → Fin (argsP F d n l ts) (Less n0)
  | 0, _, _, _, h, _, _ => absurd h (Nat.not_lt_zero _)
  | n + 1, l, ts, hw, hn, h0, hf => by
    unfold argsP
    split
    · exact Fin.bind (take_fin hw (by decide)) fun _ _ h => ⟨h.1, by have := h.2; omega⟩
    · refine Fin.bind (comma_fin T hw) fun _ ts1 h1 => ?_
      refine Fin.bind (T.expr 0 d ts1 (by omega) h1.1 (by have := h1.2; omega)) fun e ts2 h2 => ?_
      exact args_fin n _ ts2 h2.1 (by have := h1.2; have := h2.2; omega) (by have := h1.2; have := h2.2; omega) (by have := h1.2; have := h2.2; omega)
theorem kids_fin {d n n0 : Nat} : ∀ (m : Nat) (l : List Ex) (ts : List Tk), Way ts → ts.length ≤ n0 → 12 * ts.length + 10 ≤ f → Fin (kidsP F d n m l ts) (Less n0)
  | 0, l, ts, hw, h0, hf => by
    unfold kidsP
    exact Fin.bind (take_fin hw (by decide)) fun _ _ h => ⟨h.1, by have := h.2; omega⟩
  | m + 1, l, ts, hw, h0, hf => by
    unfold kidsP
    refine Fin.bind (comma_fin T hw) fun _ ts1 h1 => ?_
    refine Fin.bind (T.expr 0 d ts1 (by omega) h1.1 (by have := h1.2; omega)) fun e ts2 h2 => ?_
    exact kids_fin m _ ts2 h2.1 (by have := h1.2; have := h2.2; omega) (by have := h1.2; have := h2.2; omega)
theorem form_fin {k : Bs} {d : Nat} {ts : List Tk} (hw : Way ts) (hf : 12 * ts.length + 10 ≤ f) : Fin (formP F k d ts) (Less ts.length) := by
  unfold formP
  split
  · refine Fin.bind (take_fin hw (by decide)) fun _ ts1 h1 => ?_
    refine Fin.bind (take_fin h1.1 (by decide)) fun _ ts2 h2 => ?_
    refine Fin.bind (take_fin h2.1 (by decide)) fun _ ts3 h3 => ?_
    refine Fin.bind (take_fin h3.1 (by decide)) fun _ ts4 h4 => ?_
    refine Fin.bind (kids_fin T (n0 := ts.length) 3 [] ts4 h4.1 (by have := h1.2; have := h2.2; have := h3.2; have := h4.2; omega) (by have := h1.2; have := h2.2; have := h3.2; have := h4.2; omega)) fun _ _ h => h
  · split
    · refine Fin.bind (take_fin hw (by decide)) fun _ ts1 h1 => ?_
      refine Fin.bind (take_fin h1.1 (by decide)) fun _ ts2 h2 => ?_
      refine Fin.bind (kids_fin T (n0 := ts.length) 2 [] ts2 h2.1 (by have := h1.2; have := h2.2; omega) (by have := h1.2; have := h2.2; omega)) fun _ _ h => h
    · exact Fin.bind (kids_fin T (n0 := ts.length) 2 [] ts hw (Nat.le_refl _) hf) fun _ _ h => h
theorem ex_fin {d n0 : Nat} {ts : List Tk} (hw : Way ts) (h0 : ts.length ≤ n0) (hf : 12 * ts.length + 10 ≤ f) {α : Type} {g : Ex → α} : Fin ((F.expr 0 d ts).bind fun e ts1 => .ok (g e) ts1) (Less n0) :=
  Fin.bind (T.expr 0 d ts (by omega) hw (by omega)) fun _ _ h => ⟨h.1, by have := h.2; omega⟩
theorem plain_fin {d : Nat} {ts : List Tk} (hw : Way ts) (hk : curK ts ≠ k_end) (hf : 12 * ts.length ≤ f + 1) : Fin (plainP F d ts) (Less ts.length) := by
  unfold plainP
  refine Fin.bind (step_fin false hw hk) fun _ ts1 h1 => ?_
  have hl1 := h1.2
  split
  · exact h1
  split
  · exact h1
  split
  · exact h1
  split
  · exact ex_fin T h1.1 (by omega) (by omega)
  split
  · exact ex_fin T h1.1 (by omega) (by omega)
  split
  · refine Fin.bind (take_fin h1.1 (by decide)) fun _ ts2 h2 => ?_
    refine Fin.bind (take_fin h2.1 (by decide)) fun _ ts3 h3 => ?_
    refine Fin.bind (take_fin h3.1 (by decide)) fun _ ts4 h4 => ?_
    refine Fin.bind (take_fin h4.1 (by decide)) fun _ ts5 h5 => ?_
    have := h2.2; have := h3.2; have := h4.2; have := h5.2
    exact Fin.bind (args_fin T (n0 := ts.length) _ [] ts5 h5.1 (by omega) (by omega) (by omega)) fun _ _ h => h
  split
  · refine Fin.bind (take_fin h1.1 (by decide)) fun _ ts2 h2 => ?_
    refine Fin.bind (take_fin h2.1 (by decide)) fun _ ts3 h3 => ?_
    have := h2.2; have := h3.2
    exact ex_fin T h3.1 (by omega) (by omega)
  · refine Fin.bind (take_fin h1.1 (by decide)) fun _ ts2 h2 => ?_
    have := h2.2
    exact ex_fin T h2.1 (by omega) (by omega)
theorem begins_ne {k : Bs} (h : beginsB k = true) : k ≠ k_end := by
  rintro rfl
  revert h
  decide
theorem stmt_fin {d : Nat} {ts : List Tk} (hw : Way ts) (hf : 12 * ts.length ≤ f) : Fin (stmtP F d ts) (Less ts.length) := by
  unfold stmtP
  split
  · rename_i hb
    refine Fin.bind (deep_fin hw) fun _ ts' h => ?_
    subst h
    split
    · exact T.choice d ts' hw hf
    split
    · refine Fin.bind (step_fin false hw (begins_ne T hb)) fun _ ts1 h1 => ?_
      have := h1.2
      refine Fin.bind (T.expr 0 d ts1 (by omega) h1.1 (by omega)) fun e ts2 h2 => ?_
      have := h2.2
      refine Fin.bind (T.block (d + 1) ts2 h2.1 (by omega)) fun b ts3 h3 => ?_
      exact ⟨h3.1, by have := h3.2; omega⟩
    · refine Fin.bind (plain_fin T hw (begins_ne T hb) (by omega)) fun s ts1 h1 => ?_
      refine Fin.bind (take_fin h1.1 (by decide)) fun _ ts2 h2 => ?_
      exact ⟨h2.1, by have := h1.2; have := h2.2; omega⟩
  · exact trivial
theorem loopB_fin {d n0 : Nat} : ∀ (n : Nat) (l : List St) (ts : List Tk), Way ts → ts.length < n → ts.length ≤ n0 → 12 * ts.length ≤ f → Fin (loopB F d n l ts) (fun ts' => Way ts' ∧ ts'.length ≤ n0)
  | 0, _, _, _, h, _, _ => absurd h (Nat.not_lt_zero _)
  | n + 1, l, ts, hw, hn, h0, hf => by
    unfold loopB
    split
    · exact ⟨hw, h0⟩
    · refine Fin.bind (stmt_fin T hw hf) fun s ts1 h1 => ?_
      have := h1.2
      exact loopB_fin n _ ts1 h1.1 (by omega) (by omega) (by omega)
theorem Tot.next : Tot (f + 1) F.next where
  expr level d ts hl hw hf := by
    show Fin (exprP F level d ts) _
    unfold exprP
    split
    · exact T.unary d ts hw (by omega)
    · refine Fin.bind (T.expr (level + 1) d ts (by omega) hw (by omega)) fun e ts1 h1 => ?_
      have := h1.2
      exact loopE_fin T (by omega) _ _ ts1 h1.1 (by omega) (by omega) (by omega)
  unary d ts hw hf := by
    show Fin (unaryP F d ts) _
    unfold unaryP
    split
    · exact T.primary d ts hw (by omega)
    · rename_i hk
      have hne : curK ts ≠ k_end := by
        intro e
        apply hk
        rw [e]
        decide
      refine Fin.bind (deep_fin hw) fun _ ts' h => ?_
      subst h
      refine Fin.bind (step_fin _ hw hne) fun _ ts1 h1 => ?_
      have := h1.2
      split
      · rename_i hn
        refine Fin.bind (step_fin false h1.1 (by rw [hn.2]; decide)) fun _ ts2 h2 => ?_
        exact ⟨h2.1, by have := h2.2; omega⟩
      · refine Fin.bind (T.unary (d + 1) ts1 h1.1 (by omega)) fun e ts2 h2 => ?_
        exact ⟨h2.1, by have := h2.2; omega⟩
  primary d ts hw hf := by
    show Fin (primaryP F d ts) _
    unfold primaryP
    split
    · rename_i hk
      exact Fin.bind (step_fin false hw (by rw [hk]; decide)) fun _ _ h => h
    split
    · rename_i hk
      refine Fin.bind (step_fin false hw (by rw [hk]; decide)) fun _ ts1 h1 => ?_
      have := h1.2
      split
      · exact h1
      · rename_i hk1
        have hk1 := Classical.not_not.1 hk1
        refine Fin.bind (deep_fin h1.1) fun _ ts' h => ?_
        subst h
        refine Fin.bind (step_fin false h1.1 (by rw [hk1]; decide)) fun _ ts2 h2 => ?_
        have := h2.2
        exact Fin.bind (args_fin T (n0 := ts.length) _ [] ts2 h2.1 (by omega) (by omega) (by omega)) fun _ _ h => h
    split
    · rename_i hk
      refine Fin.bind (deep_fin hw) fun _ ts' h => ?_
      subst h
      refine Fin.bind (step_fin false hw (by rw [hk]; decide)) fun _ ts1 h1 => ?_
      have := h1.2
      refine Fin.bind (T.expr 0 (d + 1) ts1 (by omega) h1.1 (by omega)) fun e ts2 h2 => ?_
      have := h2.2
      refine Fin.bind (take_fin h2.1 (by decide)) fun _ ts3 h3 => ?_
      exact ⟨h3.1, by have := h3.2; omega⟩
    split
    · rename_i hk
      have hne : curK ts ≠ k_end := by
        intro e
        rw [e] at hk
        revert hk
        decide
      refine Fin.bind (deep_fin hw) fun _ ts' h => ?_
      subst h
      refine Fin.bind (step_fin false hw hne) fun _ ts1 h1 => ?_
      have := h1.2
      refine Fin.bind (take_fin h1.1 (by decide)) fun _ ts2 h2 => ?_
      have := h2.2
      exact Fin.mono (form_fin T h2.1 (by omega)) fun _ h => ⟨h.1, by have := h.2; omega⟩
    · exact trivial
  block d ts hw hf := by
    show Fin (blockP F d ts) _
    unfold blockP
    refine Fin.bind (take_fin hw (by decide)) fun _ ts1 h1 => ?_
    have := h1.2
    refine Fin.bind (loopB_fin T (n0 := ts1.length) _ [] ts1 h1.1 (by omega) (Nat.le_refl _) (by omega)) fun l ts2 h2 => ?_
    refine Fin.bind (take_fin h2.1 (by decide)) fun _ ts3 h3 => ?_
    exact ⟨h3.1, by have := h2.2; have := h3.2; omega⟩
  choice d ts hw hf := by
    show Fin (choiceP F d ts) _
    unfold choiceP
    refine Fin.bind (take_fin hw (by decide)) fun _ ts1 h1 => ?_
    have := h1.2
    refine Fin.bind (T.expr 0 d ts1 (by omega) h1.1 (by omega)) fun e ts2 h2 => ?_
    have := h2.2
    refine Fin.bind (T.block (d + 1) ts2 h2.1 (by omega)) fun b ts3 h3 => ?_
    have := h3.2
    split
    · exact ⟨h3.1, by omega⟩
    · rename_i hk
      have hk := Classical.not_not.1 hk
      refine Fin.bind (step_fin false h3.1 (by rw [hk]; decide)) fun _ ts4 h4 => ?_
      have := h4.2
      split
      · refine Fin.bind (deep_fin h4.1) fun _ ts' h => ?_
        subst h
        refine Fin.bind (T.choice (d + 1) ts' h4.1 (by omega)) fun x ts5 h5 => ?_
        exact ⟨h5.1, by have := h5.2; omega⟩
      · refine Fin.bind (T.block (d + 1) ts4 h4.1 (by omega)) fun c ts5 h5 => ?_
        exact ⟨h5.1, by have := h5.2; omega⟩
end
theorem way_pos {ts : List Tk} (h : Way ts) : 1 ≤ ts.length := by
  cases ts with
  | nil => exact h.ends.elim
  | cons t r => simp
theorem pf_tot : ∀ f, Tot f (pf f)
  | 0 => by
    refine ⟨fun _ _ ts _ hw h => ?_, fun _ ts hw h => ?_, fun _ ts hw h => ?_, fun _ ts hw h => ?_, fun _ ts hw h => ?_⟩
    all_goals (have := way_pos hw; omega)
  | f + 1 => (pf_tot f).next
end Go.Tx
namespace Go.Tx
set_option linter.unusedVariables false
set_option linter.unusedSimpArgs false
set_option linter.unusedSectionVars false
theorem skp_range : ∀ (b : Bool) (l : Bs) (p : Nat), p ≤ skp b l p ∧ skp b l p ≤ p + l.length
  | false, [], p => by simp [skp]
  | true, [], p => by simp [skp]
  | false, c :: r, p => by
    have h1 := skp_range false r (p + 1)
    have h2 := skp_range true r (p + 1)
    simp only [skp, List.length_cons]
    split
    · omega
    · split <;> omega
  | true, c :: r, p => by
    have h1 := skp_range false r (p + 1)
    have h2 := skp_range true r (p + 1)
    simp only [skp, List.length_cons]
    split <;> omega
theorem span_le (f : UInt8 → Bool) : ∀ l : Bs, spanN f l ≤ l.length
  | [] => by simp [spanN]
  | c :: r => by
    have := span_le f r
    simp only [spanN, List.length_cons]
    split <;> omega
theorem span_pos {f : UInt8 → Bool} {c : UInt8} {r : Bs} (h : f c = true) : 1 ≤ spanN f (c :: r) := by simp [spanN, h]
theorem sign_len {l t : Bs} (h : signAt l = some t) : 1 ≤ t.length ∧ t.length ≤ l.length ∧ l.take t.length = t := by
  unfold signAt at h
  have h1 := List.find?_some h
  have h2 := List.mem_of_find?_eq_some h
  have h3 : ∀ t ∈ signs, 1 ≤ t.length := by decide
  have h4 : l.take t.length = t := by simpa using h1
  refine ⟨h3 t h2, ?_, h4⟩
  have := congrArg List.length h4
  rw [List.length_take] at this
  omega
/-- reading a word goes on -/
theorem read_adv (l : Bs) {p : Nat} (hp : p ≤ l.length) : (readT l p).2 ≤ l.length ∧ ((readT l p).1.kind = k_end ∨ p < (readT l p).2) ∧ ((readT l p).1.kind = k_end → (readT l p).1.err = 0 → (readT l p).2 = l.length ∨ True) := by
  obtain ⟨h1, h2⟩ := skp_range false (l.drop p) p
  rw [List.length_drop] at h2
  unfold readT
  generalize skp false (l.drop p) p = a at *
  have hl : (l.drop a).length = l.length - a := List.length_drop
  split
  · exact ⟨Nat.le_refl _, .inl rfl, fun _ _ => .inr trivial⟩
  · rename_i c r hd
    rw [hd] at hl
    rw [List.length_cons] at hl
    split
    · rename_i hc
      have h3 := span_le alnum (c :: r)
      have h4 : 1 ≤ spanN alnum (c :: r) := span_pos (by simp [alnum, hc])
      rw [List.length_cons] at h3
      exact ⟨by simp only; omega, .inr (by simp only; omega), fun _ _ => .inr trivial⟩
    · split
      · rename_i hc
        have h3 := span_le digit (c :: r)
        have h4 : 1 ≤ spanN digit (c :: r) := span_pos hc
        rw [List.length_cons] at h3
        exact ⟨by simp only; omega, .inr (by simp only; omega), fun _ _ => .inr trivial⟩
      · split
        · rename_i t ht
          obtain ⟨h3, h4, _⟩ := sign_len ht
          rw [List.length_cons] at h4
          exact ⟨by simp only; omega, .inr (by simp only; omega), fun _ _ => .inr trivial⟩
        · exact ⟨by simp only; omega, .inr (by simp only; omega), fun _ _ => .inr trivial⟩
theorem neg_range {s : Bs} {v : Int} (h : negOf s = some v) : -9223372036854775808 ≤ v ∧ v ≤ 0 := by
  unfold negOf at h
  split at h
  · simp at h; omega
  · split at h
    · simp at h
    · simp at h; omega
theorem read_n (l : Bs) (p : Nat) : -9223372036854775808 ≤ (readT l p).1.n ∧ (readT l p).1.n ≤ 0 := by
  unfold readT
  split
  · simp
  · split
    · unfold named; split <;> simp
    · split
      · unfold number
        split
        · rename_i v hv; exact neg_range hv
        · simp
      · split <;> simp
theorem words_ne {l : Bs} {n p : Nat} : words l (n + 1) p ≠ [] := by
  unfold words
  split <;> simp
theorem Ends.cons {t : Tk} {r : List Tk} (h : Ends r) : Ends (t :: r) := by
  cases r with
  | nil => exact h.elim
  | cons u r => exact h
theorem words_ends (l : Bs) : ∀ (n p : Nat), p ≤ l.length → l.length < n + p → Ends (words l n p)
  | 0, p, h1, h2 => by omega
  | n + 1, p, h1, h2 => by
    obtain ⟨h3, h4, _⟩ := read_adv l h1
    unfold words
    split
    · rename_i h
      rcases h with h | h
      · exact .inr h
      · exact .inl h
    · rename_i h
      have h5 : p < (readT l p).2 := h4.resolve_left fun e => h (.inr e)
      exact (words_ends l n _ h3 (by omega)).cons
theorem words_succ (l : Bs) (n p : Nat) : words l (n + 1) p = if (readT l p).1.err ≠ 0 ∨ (readT l p).1.kind = k_end then [(readT l p).1] else (readT l p).1 :: words l n (readT l p).2 := rfl
theorem words_fuel (l : Bs) : ∀ (n m p : Nat), p ≤ l.length → l.length < n + p → l.length < m + p → words l n p = words l m p
  | 0, _, p, h1, h2, _ => by omega
  | _ + 1, 0, p, h1, _, h2 => by omega
  | n + 1, m + 1, p, h1, h2, h3 => by
    obtain ⟨h4, h5, _⟩ := read_adv l h1
    unfold words
    split
    · rfl
    · rename_i h
      have h6 : p < (readT l p).2 := h5.resolve_left fun e => h (.inr e)
      rw [words_fuel l n m _ h4 (by omega) (by omega)]
/-- what is left behind a word that is not the end -/
theorem words_at (l : Bs) {p : Nat} (hp : p ≤ l.length) : ∃ r, words l (l.length + 1 - p) p = (readT l p).1 :: r ∧ ((readT l p).1.err = 0 → (readT l p).1.kind ≠ k_end → r = words l (l.length + 1 - (readT l p).2) (readT l p).2) := by
  obtain ⟨h4, h5, _⟩ := read_adv l hp
  rw [show l.length + 1 - p = (l.length - p) + 1 by omega, words_succ]
  split
  · rename_i h
    refine ⟨[], rfl, fun h1 h2 => ?_⟩
    rcases h with h | h
    · exact absurd h1 h
    · exact absurd h h2
  · rename_i h
    have h6 : p < (readT l p).2 := h5.resolve_left fun e => h (.inr e)
    exact ⟨_, rfl, fun _ _ => words_fuel l (l.length - p) (l.length + 1 - (readT l p).2) _ h4 (by omega) (by omega)⟩
theorem words_len (l : Bs) : ∀ (n p : Nat), (words l n p).length ≤ n
  | 0, p => by simp [words]
  | n + 1, p => by
    have := words_len l n (readT l p).2
    unfold words
    split
    · simp
    · simp; omega
def start (l : Bs) : List Tk := ⟨[], [], 0, 0, 0⟩ :: words l (l.length + 1) 0
theorem way_start (l : Bs) : Way (start l) := ⟨(words_ends l (l.length + 1) 0 (Nat.zero_le _) (by omega)).cons, rfl⟩
section
variable {f : Nat} {F : PF} (T : Tot f F)
include T
theorem loopN_fin {n0 : Nat} : ∀ (n : Nat) (l : List Bs) (ts : List Tk), Way ts → ts.length < n → ts.length ≤ n0 → Fin (loopN n l ts) (fun ts' => Way ts' ∧ ts'.length ≤ n0)
  | 0, _, _, _, h, _ => absurd h (Nat.not_lt_zero _)
  | n + 1, l, ts, hw, hn, h0 => by
    unfold loopN
    split
    · exact ⟨hw, h0⟩
    · refine Fin.bind (comma_fin T hw) fun _ ts1 h1 => ?_
      refine Fin.bind (take_fin h1.1 (by decide)) fun _ ts2 h2 => ?_
      exact loopN_fin n _ ts2 h2.1 (by have := h1.2; have := h2.2; omega) (by have := h1.2; have := h2.2; omega)
theorem function_fin {ts : List Tk} (hw : Way ts) (hf : 12 * ts.length ≤ f) : Fin (functionP F ts) (Less ts.length) := by
  unfold functionP
  refine Fin.bind (take_fin hw (by decide)) fun _ ts1 h1 => ?_
  refine Fin.bind (take_fin h1.1 (by decide)) fun _ ts2 h2 => ?_
  refine Fin.bind (take_fin h2.1 (by decide)) fun _ ts3 h3 => ?_
  refine Fin.bind (loopN_fin T (n0 := ts3.length) _ [] ts3 h3.1 (by omega) (Nat.le_refl _)) fun _ ts4 h4 => ?_
  refine Fin.bind (take_fin h4.1 (by decide)) fun _ ts5 h5 => ?_
  have := h1.2; have := h2.2; have := h3.2; have := h4.2; have := h5.2
  refine Fin.bind (T.block 1 ts5 h5.1 (by omega)) fun _ ts6 h6 => ?_
  exact ⟨h6.1, by have := h6.2; omega⟩
theorem loopF_fin : ∀ (n : Nat) (l : List Fnc) (ts : List Tk), Way ts → ts.length < n → 12 * ts.length ≤ f → Fin (loopF F n l ts) (fun _ => True)
  | 0, _, _, _, h, _ => absurd h (Nat.not_lt_zero _)
  | n + 1, l, ts, hw, hn, hf => by
    unfold loopF
    split
    · exact trivial
    · refine Fin.bind (function_fin T hw hf) fun _ ts1 h1 => ?_
      have := h1.2
      exact loopF_fin n _ ts1 h1.1 (by omega) (by omega)
end
/-- fuel that is enough for a text -/
def fuelOf (l : Bs) : Nat := 12 * (l.length + 3)
theorem parse_fin (l : Bs) : Fin (parseP l (fuelOf l)) (fun _ => True) := by
  have T := pf_tot (fuelOf l)
  have hw := way_start l
  have hl : (start l).length ≤ l.length + 2 := by
    have := words_len l (l.length + 1) 0
    simp only [start, List.length_cons]; omega
  unfold parseP
  refine Fin.bind (step_fin false hw (by show ([] : Bs) ≠ k_end; decide)) fun _ ts h => ?_
  have h2 : ts.length < (start l).length := h.2
  unfold fuelOf at T ⊢
  refine Fin.bind (function_fin T h.1 (by omega)) fun _ ts1 h1 => ?_
  have := h1.2
  exact loopF_fin T _ _ ts1 h1.1 (by omega) (by omega)
end Go.Tx
namespace Go.Proofs.YtfnjodpehomgfaaDoor
open Go Go.Sh Go.Tx
set_option linter.unusedVariables false
set_option linter.unusedSimpArgs false
set_option linter.unusedSectionVars false
attribute [local irreducible] Blk Ext RdS
/-- an expression in memory: with the place of its list -/
inductive ET where
  | mk (kind op k : Int) (name comb : Bs) (A : Option Addr) (c : Nat) (kids : List ET)
mutual
def ET.e : ET → Ex
  | .mk kd o n nm cb _ _ ks => .mk kd o n nm cb (ET.es ks)
def ET.es : List ET → List Ex
  | [] => []
  | x :: r => ET.e x :: ET.es r
end
def ET.enc : ET → List Value
  | .mk kd o n nm cb A c ks => [.int .i64 kd, .int .i64 o, .int .i64 n, .string (bs nm), .string (bs cb), .slice A ks.length c]
def ET.v (t : ET) : Value := .agg t.enc.toArray
theorem ET.enc_len (t : ET) : t.enc.length = 6 := by cases t; rfl
theorem ET.enc_one (t : ET) : t.enc.all Value.oneCell' = true := by cases t; rfl
theorem ET.es_len : ∀ l : List ET, (ET.es l).length = l.length
  | [] => rfl
  | x :: r => by simp [ET.es, ET.es_len r]
theorem ET.es_app : ∀ a b : List ET, ET.es (a ++ b) = ET.es a ++ ET.es b
  | [], b => by simp [ET.es]
  | x :: r, b => by simp [ET.es, ET.es_app r b]
mutual
/-- the blocks on which an expression's lists stand -/
def ET.fp : ET → Nat → Prop
  | .mk _ _ _ _ _ A _ ks, b => obk A = some b ∨ ET.fps ks b
def ET.fps : List ET → Nat → Prop
  | [], _ => False
  | x :: r, b => ET.fp x b ∨ ET.fps r b
end
mutual
/-- its lists lie there -/
def ET.Ok (w : World) : ET → Prop
  | .mk _ _ _ _ _ A c ks => Que ET.enc 6 27 w 0 A c ks ∧ ET.Oks w ks ∧ ks.length ≤ 2000000
def ET.Oks (w : World) : List ET → Prop
  | [] => True
  | x :: r => ET.Ok w x ∧ ET.Oks w r
end
mutual
/-- its lists lie apart -/
def ET.Sep : ET → Prop
  | .mk _ _ _ _ _ A _ ks => (∀ b, ¬ (obk A = some b ∧ ET.fps ks b)) ∧ ET.Seps ks
def ET.Seps : List ET → Prop
  | [] => True
  | x :: r => ET.Sep x ∧ ET.Seps r ∧ ∀ b, ¬ (ET.fp x b ∧ ET.fps r b)
end
theorem ET.fps_app (b : Nat) : ∀ l m : List ET, ET.fps (l ++ m) b ↔ ET.fps l b ∨ ET.fps m b
  | [], m => by simp [ET.fps]
  | x :: r, m => by simp [ET.fps, ET.fps_app b r m, or_assoc]
theorem ET.oks_app (w : World) : ∀ l m : List ET, ET.Oks w (l ++ m) ↔ ET.Oks w l ∧ ET.Oks w m
  | [], m => by simp [ET.Oks]
  | x :: r, m => by simp [ET.Oks, ET.oks_app w r m, and_assoc]
theorem ET.seps_app : ∀ l m : List ET, ET.Seps l → ET.Seps m → (∀ b, ¬ (ET.fps l b ∧ ET.fps m b)) → ET.Seps (l ++ m)
  | [], m, _, h, _ => h
  | x :: r, m, hl, hm, hd => by
    obtain ⟨h1, h2, h3⟩ := hl
    refine ⟨h1, ET.seps_app r m h2 hm fun b hb => hd b ⟨.inr hb.1, hb.2⟩, fun b hb => ?_⟩
    rcases (ET.fps_app b r m).1 hb.2 with h | h
    · exact h3 b ⟨hb.1, h⟩
    · exact hd b ⟨.inl hb.1, h⟩
mutual
theorem ET.Ok.lt {w : World} : ∀ {t : ET}, ET.Ok w t → ∀ b, ET.fp t b → b < w.heap.size
  | .mk _ _ _ _ _ A c ks, h, b, hb => by
    rcases hb with hb | hb
    · exact (qu_ok h.1).lt b hb
    · exact ET.Oks.lt h.2.1 b hb
theorem ET.Oks.lt {w : World} : ∀ {l : List ET}, ET.Oks w l → ∀ b, ET.fps l b → b < w.heap.size
  | [], _, b, hb => hb.elim
  | x :: r, h, b, hb => by
    rcases hb with hb | hb
    · exact ET.Ok.lt h.1 b hb
    · exact ET.Oks.lt h.2 b hb
end
mutual
theorem ET.Ok.loc {w w' : World} (hs : w.heap.size ≤ w'.heap.size) : ∀ {t : ET}, ET.Ok w t → (∀ b, ET.fp t b → w'.heap[b]? = w.heap[b]?) → ET.Ok w' t
  | .mk _ _ _ _ _ A c ks, h, hb => ⟨(qu_ok h.1).loc w' hs fun b hk => hb b (.inl hk), ET.Oks.loc hs h.2.1 fun b hk => hb b (.inr hk), h.2.2⟩
theorem ET.Oks.loc {w w' : World} (hs : w.heap.size ≤ w'.heap.size) : ∀ {l : List ET}, ET.Oks w l → (∀ b, ET.fps l b → w'.heap[b]? = w.heap[b]?) → ET.Oks w' l
  | [], _, _ => trivial
  | x :: r, h, hb => ⟨ET.Ok.loc hs h.1 fun b hk => hb b (.inl hk), ET.Oks.loc hs h.2 fun b hk => hb b (.inr hk)⟩
end
/-- expressions, as one piece -/
abbrev trs (l : List ET) : Ck := ⟨ET.fps l, fun w => ET.Oks w l ∧ ET.Seps l, true, false⟩
theorem trs_ok {l : List ET} {w : World} (h1 : ET.Oks w l) (h2 : ET.Seps l) : (trs l).Ok w :=
  ⟨⟨h1, h2⟩, ET.Oks.lt h1, fun w' hs hb => ⟨ET.Oks.loc hs h1 hb, h2⟩⟩
section
variable {S : Nat → Prop} {w0 w : World} {Γ : List Ck}
theorem Hp.trs0 (H : Hp S w0 w Γ) : Hp S w0 w (trs [] :: Γ) :=
  H.fr0 (Hp.one (Tch.refl _ _) (trs_ok trivial trivial) (fun k hk => hk.elim)) (.inl rfl)
/-- an expression more -/
theorem Hp.trsS {l : List ET} {t : ET} (H : Hp S w0 w (trs [t] :: trs l :: Γ)) : Hp S w0 w (trs (l ++ [t]) :: Γ) := by
  refine Hp.join2 H rfl rfl (.inl rfl) (fun k hk => ?_) (fun hd h1 h2 => trs_ok ((ET.oks_app w l [t]).2 ⟨h2.holds.1, h1.holds.1⟩) (ET.seps_app _ _ h2.holds.2 h1.holds.2 fun b hb => hd b ⟨hb.2, hb.1⟩))
  rcases (ET.fps_app k l [t]).1 hk with h | h
  · exact .inr h
  · exact .inl h
/-- a list and what is in it, as an expression's -/
theorem Hp.trsN {l : List ET} {A : Option Addr} {c : Nat} (kd o n : Int) (nm cb : Bs) (H : Hp S w0 w (qu ET.enc 6 27 A c l :: trs l :: Γ)) (hlen : l.length ≤ 2000000 := by first | (simp; done) | omega | assumption) : Hp S w0 w (trs [.mk kd o n nm cb A c l] :: Γ) := by
  refine Hp.join2 H rfl rfl (.inl rfl) (fun k hk => ?_) (fun hd h1 h2 => trs_ok ⟨⟨h1.holds, h2.holds.1, hlen⟩, trivial⟩ ⟨⟨fun b hb => hd b hb, h2.holds.2⟩, trivial, fun b hb => hb.2.elim⟩)
  rcases hk with hk | hk
  · exact hk
  · exact hk.elim
/-- an expression without a list -/
theorem Hp.trsZ (kd o n : Int) (nm cb : Bs) (H : Hp S w0 w Γ) : Hp S w0 w (trs [.mk kd o n nm cb none 0 []] :: Γ) :=
  Hp.trsN kd o n nm cb (Hp.nil (Hp.trs0 H) ET.enc 6 27)
end
/-! ### statements -/
inductive SM where
  | mk (kind : Int) (name : Bs) (e : ET) (B : Option Addr) (cb : Nat) (body : List SM) (E : Option Addr) (ce : Nat) (els : List SM)
mutual
def SM.e : SM → St
  | .mk kd nm e _ _ b _ _ f => .mk kd nm e.e (SM.es b) (SM.es f)
def SM.es : List SM → List St
  | [] => []
  | x :: r => SM.e x :: SM.es r
end
def SM.enc : SM → List Value
  | .mk kd nm e B cb b E ce f => [.int .i64 kd, .string (bs nm)] ++ (e.enc ++ [.slice B b.length cb, .slice E f.length ce])
def SM.v (t : SM) : Value := .agg t.enc.toArray
theorem SM.enc_len (t : SM) : t.enc.length = 10 := by
  obtain ⟨_, _, e, _, _, _, _, _, _⟩ := t
  cases e; rfl
theorem SM.enc_one (t : SM) : t.enc.all Value.oneCell' = true := by
  obtain ⟨_, _, e, _, _, _, _, _, _⟩ := t
  cases e; rfl
theorem SM.es_app : ∀ a b : List SM, SM.es (a ++ b) = SM.es a ++ SM.es b
  | [], b => by simp [SM.es]
  | x :: r, b => by simp [SM.es, SM.es_app r b]
theorem SM.es_len : ∀ l : List SM, (SM.es l).length = l.length
  | [] => rfl
  | x :: r => by simp [SM.es, SM.es_len r]
mutual
def SM.fp : SM → Nat → Prop
  | .mk _ _ e B _ b E _ f, k => ET.fp e k ∨ obk B = some k ∨ SM.fps b k ∨ obk E = some k ∨ SM.fps f k
def SM.fps : List SM → Nat → Prop
  | [], _ => False
  | x :: r, k => SM.fp x k ∨ SM.fps r k
end
mutual
def SM.Ok (w : World) : SM → Prop
  | .mk _ _ e B cb b E ce f => ET.Ok w e ∧ Que SM.enc 10 49 w 0 B cb b ∧ SM.Oks w b ∧ Que SM.enc 10 49 w 0 E ce f ∧ SM.Oks w f ∧ b.length ≤ 2000000 ∧ f.length ≤ 2000000
def SM.Oks (w : World) : List SM → Prop
  | [] => True
  | x :: r => SM.Ok w x ∧ SM.Oks w r
end
/-- five sets of blocks lie apart -/
def Five (a b c d e : Nat → Prop) : Prop := ∀ k, ¬ (a k ∧ (b k ∨ c k ∨ d k ∨ e k)) ∧ ¬ (b k ∧ (c k ∨ d k ∨ e k)) ∧ ¬ (c k ∧ (d k ∨ e k)) ∧ ¬ (d k ∧ e k)
mutual
def SM.Sep : SM → Prop
  | .mk _ _ e B _ b E _ f => ET.Sep e ∧ SM.Seps b ∧ SM.Seps f ∧ Five (ET.fp e) (fun k => obk B = some k) (SM.fps b) (fun k => obk E = some k) (SM.fps f)
def SM.Seps : List SM → Prop
  | [] => True
  | x :: r => SM.Sep x ∧ SM.Seps r ∧ ∀ b, ¬ (SM.fp x b ∧ SM.fps r b)
end
theorem SM.fps_app (b : Nat) : ∀ l m : List SM, SM.fps (l ++ m) b ↔ SM.fps l b ∨ SM.fps m b
  | [], m => by simp [SM.fps]
  | x :: r, m => by simp [SM.fps, SM.fps_app b r m, or_assoc]
theorem SM.oks_app (w : World) : ∀ l m : List SM, SM.Oks w (l ++ m) ↔ SM.Oks w l ∧ SM.Oks w m
  | [], m => by simp [SM.Oks]
  | x :: r, m => by simp [SM.Oks, SM.oks_app w r m, and_assoc]
theorem SM.seps_app : ∀ l m : List SM, SM.Seps l → SM.Seps m → (∀ b, ¬ (SM.fps l b ∧ SM.fps m b)) → SM.Seps (l ++ m)
  | [], m, _, h, _ => h
  | x :: r, m, hl, hm, hd => by
    obtain ⟨h1, h2, h3⟩ := hl
    refine ⟨h1, SM.seps_app r m h2 hm fun b hb => hd b ⟨.inr hb.1, hb.2⟩, fun b hb => ?_⟩
    rcases (SM.fps_app b r m).1 hb.2 with h | h
    · exact h3 b ⟨hb.1, h⟩
    · exact hd b ⟨.inl hb.1, h⟩
mutual
theorem SM.Ok.lt {w : World} : ∀ {t : SM}, SM.Ok w t → ∀ b, SM.fp t b → b < w.heap.size
  | .mk _ _ e B cb b E ce f, h, k, hk => by
    rcases hk with hk | hk | hk | hk | hk
    · exact ET.Ok.lt h.1 k hk
    · exact (qu_ok h.2.1).lt k hk
    · exact SM.Oks.lt h.2.2.1 k hk
    · exact (qu_ok h.2.2.2.1).lt k hk
    · exact SM.Oks.lt h.2.2.2.2.1 k hk
theorem SM.Oks.lt {w : World} : ∀ {l : List SM}, SM.Oks w l → ∀ b, SM.fps l b → b < w.heap.size
  | [], _, b, hb => hb.elim
  | x :: r, h, b, hb => by
    rcases hb with hb | hb
    · exact SM.Ok.lt h.1 b hb
    · exact SM.Oks.lt h.2 b hb
end
mutual
theorem SM.Ok.loc {w w' : World} (hs : w.heap.size ≤ w'.heap.size) : ∀ {t : SM}, SM.Ok w t → (∀ b, SM.fp t b → w'.heap[b]? = w.heap[b]?) → SM.Ok w' t
  | .mk _ _ e B cb b E ce f, h, hb => ⟨ET.Ok.loc hs h.1 fun k hk => hb k (.inl hk), (qu_ok h.2.1).loc w' hs fun k hk => hb k (.inr (.inl hk)), SM.Oks.loc hs h.2.2.1 fun k hk => hb k (.inr (.inr (.inl hk))), (qu_ok h.2.2.2.1).loc w' hs fun k hk => hb k (.inr (.inr (.inr (.inl hk)))), SM.Oks.loc hs h.2.2.2.2.1 fun k hk => hb k (.inr (.inr (.inr (.inr hk)))), h.2.2.2.2.2⟩
theorem SM.Oks.loc {w w' : World} (hs : w.heap.size ≤ w'.heap.size) : ∀ {l : List SM}, SM.Oks w l → (∀ b, SM.fps l b → w'.heap[b]? = w.heap[b]?) → SM.Oks w' l
  | [], _, _ => trivial
  | x :: r, h, hb => ⟨SM.Ok.loc hs h.1 fun b hk => hb b (.inl hk), SM.Oks.loc hs h.2 fun b hk => hb b (.inr hk)⟩
end
/-- statements, as one piece -/
abbrev sts (l : List SM) : Ck := ⟨SM.fps l, fun w => SM.Oks w l ∧ SM.Seps l, true, false⟩
theorem sts_ok {l : List SM} {w : World} (h1 : SM.Oks w l) (h2 : SM.Seps l) : (sts l).Ok w :=
  ⟨⟨h1, h2⟩, SM.Oks.lt h1, fun w' hs hb => ⟨SM.Oks.loc hs h1 hb, h2⟩⟩
/-- a list of statements with what is in it, as one piece -/
abbrev stl (B : Option Addr) (c : Nat) (l : List SM) : Ck := ⟨fun k => obk B = some k ∨ SM.fps l k, fun w => Que SM.enc 10 49 w 0 B c l ∧ SM.Oks w l ∧ SM.Seps l ∧ (∀ k, ¬ (obk B = some k ∧ SM.fps l k)) ∧ l.length ≤ 2000000, true, false⟩
theorem stl_ok {B : Option Addr} {c : Nat} {l : List SM} {w : World} (h1 : Que SM.enc 10 49 w 0 B c l) (h2 : SM.Oks w l) (h3 : SM.Seps l) (h4 : ∀ k, ¬ (obk B = some k ∧ SM.fps l k)) (h5 : l.length ≤ 2000000) : (stl B c l).Ok w := by
  refine ⟨⟨h1, h2, h3, h4, h5⟩, fun k hk => ?_, fun w' hs hb => ⟨(qu_ok h1).loc w' hs fun k hk => hb k (.inl hk), SM.Oks.loc hs h2 fun k hk => hb k (.inr hk), h3, h4, h5⟩⟩
  rcases hk with hk | hk
  · exact (qu_ok h1).lt k hk
  · exact SM.Oks.lt h2 k hk
section
variable {S : Nat → Prop} {w0 w : World} {Γ : List Ck}
theorem Hp.sts0 (H : Hp S w0 w Γ) : Hp S w0 w (sts [] :: Γ) :=
  H.fr0 (Hp.one (Tch.refl _ _) (sts_ok trivial trivial) (fun k hk => hk.elim)) (.inl rfl)
theorem Hp.stsS {l : List SM} {t : SM} (H : Hp S w0 w (sts [t] :: sts l :: Γ)) : Hp S w0 w (sts (l ++ [t]) :: Γ) := by
  refine Hp.join2 H rfl rfl (.inl rfl) (fun k hk => ?_) (fun hd h1 h2 => sts_ok ((SM.oks_app w l [t]).2 ⟨h2.holds.1, h1.holds.1⟩) (SM.seps_app _ _ h2.holds.2 h1.holds.2 fun b hb => hd b ⟨hb.2, hb.1⟩))
  rcases (SM.fps_app k l [t]).1 hk with h | h
  · exact .inr h
  · exact .inl h
theorem Hp.stlN {B : Option Addr} {c : Nat} {l : List SM} (H : Hp S w0 w (qu SM.enc 10 49 B c l :: sts l :: Γ)) (hlen : l.length ≤ 2000000 := by first | (simp; done) | omega | assumption) : Hp S w0 w (stl B c l :: Γ) :=
  Hp.join2 H rfl rfl (.inl rfl) (fun k hk => hk) (fun hd h1 h2 => stl_ok h1.holds h2.holds.1 h2.holds.2 hd hlen)
theorem Hp.stl0 (H : Hp S w0 w Γ) : Hp S w0 w (stl none 0 [] :: Γ) := Hp.stlN (Hp.nil (Hp.sts0 H) SM.enc 10 49)
/-- a statement out of its expression and its two lists -/
theorem Hp.stsN {e : ET} {B E : Option Addr} {cb ce : Nat} {b f : List SM} (kd : Int) (nm : Bs) (H : Hp S w0 w (trs [e] :: stl B cb b :: stl E ce f :: Γ)) : Hp S w0 w (sts [.mk kd nm e B cb b E ce f] :: Γ) := by
  have H1 : Hp S w0 w ((⟨fun k => ET.fp e k ∨ obk B = some k ∨ SM.fps b k, fun w => ET.Ok w e ∧ ET.Sep e ∧ (stl B cb b).P w ∧ ∀ k, ¬ (ET.fp e k ∧ (obk B = some k ∨ SM.fps b k)), true, false⟩ : Ck) :: stl E ce f :: Γ) := by
    refine Hp.join2 H rfl rfl (.inl rfl) (fun k hk => ?_) (fun hd h1 h2 => ⟨⟨h1.holds.1.1, h1.holds.2.1, h2.holds, fun k hk => hd k ⟨.inl hk.1, hk.2⟩⟩, fun k hk => ?_, fun w' hs hb => ?_⟩)
    · rcases hk with hk | hk
      · exact .inl (.inl hk)
      · exact .inr hk
    · rcases hk with hk | hk
      · exact h1.lt k (.inl hk)
      · exact h2.lt k hk
    · have a1 := h1.loc w' hs fun k hk => by
        rcases hk with hk | hk
        · exact hb k (.inl hk)
        · exact hk.elim
      have a2 := h2.loc w' hs fun k hk => hb k (.inr hk)
      exact ⟨a1.1.1, a1.2.1, a2, fun k hk => hd k ⟨.inl hk.1, hk.2⟩⟩
  refine Hp.join2 H1 rfl rfl (.inl rfl) (fun k hk => ?_) (fun hd h1 h2 => ?_)
  · rcases hk with (hk | hk | hk | hk | hk) | hk
    · exact .inl (.inl hk)
    · exact .inl (.inr (.inl hk))
    · exact .inl (.inr (.inr hk))
    · exact .inr (.inl hk)
    · exact .inr (.inr hk)
    · exact hk.elim
  · obtain ⟨he, hse, ⟨q1, o1, s1, d1, g1⟩, dd⟩ := h1.holds
    obtain ⟨q2, o2, s2, d2, g2⟩ := h2.holds
    refine sts_ok ⟨⟨he, q1, o1, q2, o2, g1, g2⟩, trivial⟩ ⟨⟨hse, s1, s2, fun k => ⟨fun hk => ?_, fun hk => ?_, fun hk => ?_, fun hk => d2 k hk⟩⟩, trivial, fun b hb => hb.2.elim⟩
    · rcases hk.2 with h | h | h | h
      · exact dd k ⟨hk.1, .inl h⟩
      · exact dd k ⟨hk.1, .inr h⟩
      · exact hd k ⟨.inl hk.1, .inl h⟩
      · exact hd k ⟨.inl hk.1, .inr h⟩
    · rcases hk.2 with h | h | h
      · exact d1 k ⟨hk.1, h⟩
      · exact hd k ⟨.inr (.inl hk.1), .inl h⟩
      · exact hd k ⟨.inr (.inl hk.1), .inr h⟩
    · rcases hk.2 with h | h
      · exact hd k ⟨.inr (.inr hk.1), .inl h⟩
      · exact hd k ⟨.inr (.inr hk.1), .inr h⟩
end
end Go.Proofs.YtfnjodpehomgfaaDoor
namespace Go.Proofs.YtfnjodpehomgfaaDoor
open Go Go.Sh Go.Tx
set_option linter.unusedVariables false
set_option linter.unusedSimpArgs false
set_option linter.unusedSectionVars false
attribute [local irreducible] Blk Ext RdS
def strE (b : Bs) : List Value := [.string (bs b)]
def wordCs (t : Tk) : List Value := [.string (bs t.kind), .string (bs t.text), .int .i64 (t.at_ : Int), .int .i64 t.n, .int .i64 t.err]
def rdrCs (src : Bs) (nx : Nat) (t : Tk) : List Value := [.string (bs src), .int .i64 (nx : Int), .string (bs t.kind), .string (bs t.text), .int .i64 (t.at_ : Int), .int .i64 t.n, .int .i64 t.err]
/-- a reader's block, that has those words ahead -/
def Rdr (src : Bs) (pr : Nat) (ts : List Tk) (w : World) : Prop := ∃ nx t r, ts = t :: r ∧ nx ≤ src.length ∧ ((t.kind ≠ k_end → r = words src (src.length + 1 - nx) nx) ∧ r.length ≤ src.length + 1 ∧ -9223372036854775808 ≤ t.n ∧ t.n ≤ 0) ∧ Blk w pr 64 (rdrCs src nx t)
abbrev rdr (src : Bs) (pr : Nat) (ts : List Tk) : Ck := ⟨(· = pr), Rdr src pr ts, true, false⟩
theorem rdr_ok {w : World} {src : Bs} {pr : Nat} {ts : List Tk} (h : Rdr src pr ts w) : (rdr src pr ts).Ok w := by
  obtain ⟨nx, t, r, h1, h2, h3, h4⟩ := h
  exact ⟨⟨nx, t, r, h1, h2, h3, h4⟩, fun k hk => by subst hk; exact h4.lt, fun w' hs hb => ⟨nx, t, r, h1, h2, h3, (bk_ok h4).loc w' hs hb⟩⟩
theorem Rdr.len {src : Bs} {pr : Nat} {ts : List Tk} {w : World} (h : Rdr src pr ts w) : ts.length ≤ src.length + 2 := by
  obtain ⟨nx, t, r, rfl, _, ⟨_, h1, _⟩, _⟩ := h
  simp only [List.length_cons]; omega
/-- what a reader gives up with -/
def pk (q : Nat) : List PanicEntry := [{ v := .iface 52 (.pointer (some ⟨q, 0, none⟩)), recovered := false }]
def PanX {α : Type} (R : Res α) (pr : Nat) (w : World) (ch : List PanicEntry) (w' : World) : Prop := ∃ e p q, R = .err e p ∧ ch = pk q ∧ Hp (· = pr) w w' [bk q 59 [.int .i64 e, .int .i64 (p : Int)]]
theorem Hp.pan {S : Nat → Prop} {w0 w w' : World} {Γ Γ' : List Ck} {src : Bs} {pr : Nat} {ts : List Tk} {c : Ck} (H : Hp S w0 w Γ) (H' : Hp (· = pr) w w' [c]) (hn : c.new) (u : Upd1 Γ (rdr src pr ts) c Γ' := by (repeat (first | exact Upd1.head | apply Upd1.tail))) : Hp S w0 w' [c] := by
  have H2 := Hp.upd (c := rdr src pr ts) H H' rfl hn u
  obtain ⟨L, R, h1, rfl⟩ := u.sp
  have h3 : List.Perm (L ++ c :: R) (c :: (L ++ R)) := List.perm_middle
  exact (H2.perm h3).sub (List.Sublist.cons_cons _ (List.nil_sublist _))
end Go.Proofs.YtfnjodpehomgfaaDoor
