/- A call's memory as a list of pieces, each with the blocks that it stands on; own work. -/
import Derived.Test.YtbbadmlekagloaaDoorShP
namespace Go.Sh
open Go.RowKit
set_option linter.unusedSectionVars false
set_option linter.unusedVariables false
set_option linter.unusedSimpArgs false
/-- a piece of memory: the blocks it stands on, what it says; own: it may be written; old: it may lie in memory that was there before the call -/
structure Ck where
  fp : Nat → Prop
  P : World → Prop
  own : Bool
  old : Bool
structure Ck.Ok (c : Ck) (w : World) : Prop where
  holds : c.P w
  lt : ∀ k, c.fp k → k < w.heap.size
  loc : ∀ w', w.heap.size ≤ w'.heap.size → (∀ k, c.fp k → w'.heap[k]? = w.heap[k]?) → c.P w'
theorem Ck.Ok.move {c : Ck} {w w' : World} (h : c.Ok w) (hs : w.heap.size ≤ w'.heap.size) (hb : ∀ k, c.fp k → w'.heap[k]? = w.heap[k]?) : c.Ok w' :=
  ⟨h.loc w' hs hb, fun k hk => Nat.lt_of_lt_of_le (h.lt k hk) hs, fun w'' hs' hb' => h.loc w'' (Nat.le_trans hs hs') fun k hk => (hb' k hk).trans (hb k hk)⟩
abbrev nw : Nat → Prop := fun _ => False
abbrev Ck.new (c : Ck) : Prop := c.own = true ∨ c.old = false
structure Hp (S : Nat → Prop) (w0 w : World) (Γ : List Ck) : Prop where
  tch : Tch S w0 w
  ok : ∀ c ∈ Γ, c.Ok w
  sep : Γ.Pairwise fun a b => (a.own = true ∨ b.own = true) → ∀ k, ¬ (a.fp k ∧ b.fp k)
  dom : ∀ c ∈ Γ, c.new → ∀ k, c.fp k → S k ∨ w0.heap.size ≤ k
section
variable {S S' : Nat → Prop} {w0 w w' wb : World} {Γ Γ' Γ1 Γ2 : List Ck} {c c' d : Ck}
theorem Hp.begin (S : Nat → Prop) (w : World) : Hp S w w [] := ⟨Tch.refl S w, by simp, List.Pairwise.nil, by simp⟩
theorem Hp.frame (H : Hp S w0 w (Γ1 ++ Γ2)) (h1 : ∀ c ∈ Γ1, c.own = true) (hS : ∀ k, S' k → ∃ c ∈ Γ1, c.fp k) (H' : Hp S' w w' Γ') (hn : ∀ c ∈ Γ', c.new) : Hp S w0 w' (Γ' ++ Γ2) := by
  have hsep := List.pairwise_append.1 H.sep
  have hout : ∀ b ∈ Γ2, ∀ k, b.fp k → ¬ S' k := fun b hb k hk hs => by
    obtain ⟨c, hc, hck⟩ := hS k hs
    exact hsep.2.2 c hc b hb (.inl (h1 c hc)) k ⟨hck, hk⟩
  have hdom : ∀ k, S' k → S k ∨ w0.heap.size ≤ k := fun k hs => by
    obtain ⟨c, hc, hck⟩ := hS k hs
    exact H.dom c (List.mem_append_left _ hc) (.inl (h1 c hc)) k hck
  have hsz := H.tch.size
  refine ⟨⟨H'.tch.os.trans H.tch.os, H'.tch.tape.trans H.tch.tape, H'.tch.output.trans H.tch.output, Nat.le_trans H.tch.size H'.tch.size, fun k hk hn => ?_⟩, fun b hb => ?_, ?_, fun b hb hn' k hk => ?_⟩
  · rw [H'.tch.block k (by omega) (fun hs => by rcases hdom k hs with h | h; exact hn h; omega)]
    exact H.tch.block k hk hn
  · rcases List.mem_append.1 hb with hb | hb
    · exact H'.ok b hb
    · have h := H.ok b (List.mem_append_right _ hb)
      exact h.move H'.tch.size fun k hk => H'.tch.block k (h.lt k hk) (hout b hb k hk)
  · refine List.pairwise_append.2 ⟨H'.sep, hsep.2.1, fun a ha b hb _ k ⟨h2, h3⟩ => ?_⟩
    have h4 := (H.ok b (List.mem_append_right _ hb)).lt k h3
    rcases H'.dom a ha (hn a ha) k h2 with h | h
    · exact hout b hb k h3 h
    · omega
  · rcases List.mem_append.1 hb with hb | hb
    · rcases H'.dom b hb hn' k hk with h | h
      · exact hdom k h
      · exact .inr (by omega)
    · exact H.dom b (List.mem_append_right _ hb) hn' k hk
theorem Hp.ext (H : Hp S w0 w Γ) (e : Ext w w') : Hp S w0 w' Γ :=
  Hp.frame (Γ1 := []) (Γ' := []) (S' := nw) H (by simp) (fun k h => h.elim) ⟨Tch.of_ext e, by simp, List.Pairwise.nil, by simp⟩ (by simp)
theorem Hp.e (H : Hp nw w0 w Γ) : Ext w0 w := Ext.tch (Ext.refl w0) H.tch (fun k h => h.elim)
theorem Hp.base (H : Hp S w0 w Γ) (hb : Ext wb w0) (hS : ∀ k, S k → wb.heap.size ≤ k) : Ext wb w := Ext.tch hb H.tch hS
def BaseOk (S : Nat → Prop) (wb w0 : World) : Prop := Ext wb w0 ∧ ∀ k, S k → wb.heap.size ≤ k
theorem Hp.base2 (H : Hp S w0 w Γ) (h : BaseOk S wb w0) : Ext wb w := H.base h.1 h.2
theorem Hp.size (H : Hp S w0 w Γ) : w0.heap.size ≤ w.heap.size := H.tch.size
theorem Hp.perm (H : Hp S w0 w Γ) (h : List.Perm Γ Γ') : Hp S w0 w Γ' :=
  ⟨H.tch, fun c hc => H.ok c (h.mem_iff.2 hc), (h.pairwise_iff (fun {a b} q r k z => q r.symm k ⟨z.2, z.1⟩)).1 H.sep, fun c hc => H.dom c (h.mem_iff.2 hc)⟩
theorem Hp.sub (H : Hp S w0 w Γ) (h : List.Sublist Γ' Γ) : Hp S w0 w Γ' :=
  ⟨H.tch, fun c hc => H.ok c (h.mem hc), H.sep.sublist h, fun c hc => H.dom c (h.mem hc)⟩
theorem Hp.non (H : Hp S w0 w Γ) : Hp S w0 w [] := H.sub (List.nil_sublist _)
theorem Hp.atC (H : Hp S w0 w Γ) (i : Nat) (h : Γ[i]? = some c) : c.P w := (H.ok c (List.mem_of_getElem? h)).holds
def selN : List Ck → List Nat → List Ck
  | _, [] => []
  | Γ, i :: r => match Γ[i]? with | some c => c :: selN (Γ.eraseIdx i) r | none => []
theorem erase_perm {α : Type} : ∀ {l : List α} {i : Nat} {x : α}, l[i]? = some x → List.Perm l (x :: l.eraseIdx i)
  | [], i, x, h => by simp at h
  | y :: r, 0, x, h => by simp at h; subst h; simp
  | y :: r, i + 1, x, h => by
    have ih := erase_perm (l := r) (i := i) (x := x) (by simpa using h)
    simp only [List.eraseIdx_cons_succ]
    exact (List.Perm.cons y ih).trans (List.Perm.swap x y _)
theorem selN_sub : ∀ (is : List Nat) (Γ : List Ck), ∃ Δ, List.Perm Γ (selN Γ is ++ Δ)
  | [], Γ => ⟨Γ, by simp [selN]⟩
  | i :: r, Γ => by
    unfold selN
    split
    · rename_i c hc
      obtain ⟨Δ, h⟩ := selN_sub r (Γ.eraseIdx i)
      refine ⟨Δ, ?_⟩
      exact (erase_perm hc).trans (List.Perm.cons _ h)
    · exact ⟨Γ, by simp⟩
/-- the pieces at these places, each place counted in what is left -/
theorem Hp.sel (H : Hp S w0 w Γ) (is : List Nat) (h : selN Γ is = Γ') : Hp S w0 w Γ' := by
  obtain ⟨Δ, hp⟩ := selN_sub is Γ
  subst h
  exact (H.perm hp).sub (List.sublist_append_left _ _)
/-- a new piece -/
theorem Hp.fr0 (H : Hp S w0 w Γ) (H' : Hp nw w w' [c]) (hn : c.new) : Hp S w0 w' (c :: Γ) :=
  Hp.frame (Γ1 := []) (S' := nw) H (by simp) (fun k h => h.elim) H' (by simpa using hn)
theorem Hp.fr0L (H : Hp S w0 w Γ) (H' : Hp nw w w' Γ') (hn : ∀ c ∈ Γ', c.new) : Hp S w0 w' (Γ' ++ Γ) :=
  Hp.frame (Γ1 := []) (S' := nw) H (by simp) (fun k h => h.elim) H' hn
/-- a piece is no more written -/
def Ck.frz (c : Ck) : Ck := { c with own := false, old := false }
theorem Hp.frz (H : Hp S w0 w (c :: Γ)) (hn : c.new) : Hp S w0 w (c.frz :: Γ) := by
  have hs := List.pairwise_cons.1 H.sep
  refine ⟨H.tch, fun b hb => ?_, List.pairwise_cons.2 ⟨fun b hb h k hk => hs.1 b hb (.inr (by simpa [Ck.frz] using h)) k hk, hs.2⟩, fun b hb hb' => ?_⟩
  · rcases List.mem_cons.1 hb with rfl | hb
    · have := H.ok c (by simp); exact ⟨this.holds, this.lt, this.loc⟩
    · exact H.ok b (by simp [hb])
  · rcases List.mem_cons.1 hb with rfl | hb
    · exact H.dom c (by simp) hn
    · exact H.dom b (by simp [hb]) hb'
/-- two pieces as one -/
theorem Hp.join2 (H : Hp S w0 w (c :: d :: Γ)) {e : Ck} (hco : c.own = true) (hdo : d.own = true) (heo : e.new) (hfp : ∀ k, e.fp k → c.fp k ∨ d.fp k) (hok : (∀ k, ¬ (c.fp k ∧ d.fp k)) → c.Ok w → d.Ok w → e.Ok w) : Hp S w0 w (e :: Γ) := by
  have hs := List.pairwise_cons.1 H.sep
  have hs2 := List.pairwise_cons.1 hs.2
  refine ⟨H.tch, fun b hb => ?_, List.pairwise_cons.2 ⟨fun b hb h k hk => ?_, hs2.2⟩, fun b hb hb' k hk => ?_⟩
  · rcases List.mem_cons.1 hb with rfl | hb
    · exact hok (fun k => hs.1 d (by simp) (.inl hco) k) (H.ok c (by simp)) (H.ok d (by simp))
    · exact H.ok b (by simp [hb])
  · rcases hfp k hk.1 with h' | h'
    · exact hs.1 b (by simp [hb]) (.inl hco) k ⟨h', hk.2⟩
    · exact hs2.1 b hb (.inl hdo) k ⟨h', hk.2⟩
  · rcases List.mem_cons.1 hb with rfl | hb
    · rcases hfp k hk with h | h
      · exact H.dom c (by simp) (.inl hco) k h
      · exact H.dom d (by simp) (.inl hdo) k h
    · exact H.dom b (by simp [hb]) hb' k hk
end

theorem lit0 : (0 : Int) = ((0 : Nat) : Int) := rfl
theorem lit1 : (1 : Int) = ((1 : Nat) : Int) := rfl
theorem lit2 : (2 : Int) = ((2 : Nat) : Int) := rfl
/-! ### blocks -/
abbrev bk (p : Nat) (t : TypeId) (cs : List Value) : Ck := ⟨(· = p), fun w => Blk w p t cs, true, false⟩
theorem bk_ok {p : Nat} {t : TypeId} {cs : List Value} {w : World} (h : Blk w p t cs) : (bk p t cs).Ok w :=
  ⟨h, fun k hk => by subst hk; exact h.lt, fun w' _ hb => (hb p rfl).trans h⟩
abbrev qu {α : Type} (enc : α → List Value) (sz : Nat) (e : TypeId) (A : Option Addr) (c : Nat) (l : List α) : Ck := ⟨fun k => obk A = some k, fun w => Que enc sz e w 0 A c l, true, false⟩
theorem qu_ok {α : Type} {enc : α → List Value} {sz : Nat} {e : TypeId} {A : Option Addr} {c : Nat} {l : List α} {w : World} (h : Que enc sz e w 0 A c l) : (qu enc sz e A c l).Ok w := by
  refine ⟨h, fun k hk => (h.obk_lt k hk).1, fun w' _ hb => ?_⟩
  obtain ⟨h1, h2, h3⟩ := h
  refine ⟨h1, h2, ?_⟩
  rcases h3 with h3 | ⟨b, off, cs, hA, hB, hblk, h4, h5⟩
  · exact .inl h3
  · exact .inr ⟨b, off, cs, hA, hB, (hb b (by show obk A = some b; rw [hA]; rfl)).trans hblk, h4, h5⟩
theorem Hp.one {S : Nat → Prop} {w w' : World} {c : Ck} (t : Tch S w w') (h : c.Ok w') (hd : ∀ k, c.fp k → S k ∨ w.heap.size ≤ k) : Hp S w w' [c] :=
  ⟨t, by simpa using h, List.pairwise_singleton _ _, fun b hb _ => by have := List.mem_singleton.1 hb; subst this; exact hd⟩
theorem Hp.start {S : Nat → Prop} {w : World} {c : Ck} (h : c.Ok w) (hd : ∀ k, c.fp k → S k) : Hp S w w [c] := Hp.one (Tch.refl S w) h fun k hk => .inl (hd k hk)
section
variable {S : Nat → Prop} {w0 w w' : World} {Γ : List Ck} {b p o : Nat} {t : TypeId} {cs vs : List Value} {α : Type} {enc : α → List Value} {sz c : Nat} {e : TypeId} {A : Option Addr} {l : List α}
theorem Hp.blk (H : Hp S w0 w Γ) (i : Nat) (h : Γ[i]? = some (bk p t cs)) : Blk w p t cs := H.atC i h
theorem Hp.que (H : Hp S w0 w Γ) (i : Nat) (h : Γ[i]? = some (qu enc sz e A c l)) : Que enc sz e w 0 A c l := H.atC i h
theorem Hp.rdq (H : Hp S w0 w Γ) (i : Nat) (h : Γ[i]? = some (qu enc sz e A c l)) : RdS enc sz w A l := (H.que i h).rd
theorem rd_full (h : Blk w p t (l.flatMap enc)) (hl : ∀ x ∈ l, (enc x).length = sz) : RdS enc sz w (some ⟨p, 0, none⟩) l := (Que.of_full h (Nat.zero_le _) hl).rd
theorem Hp.rdb (H : Hp S w0 w Γ) (i : Nat) (h : Γ[i]? = some (bk p t (l.flatMap enc))) (hl : ∀ x ∈ l, (enc x).length = sz) : RdS enc sz w (some ⟨p, 0, none⟩) l := rd_full (H.blk i h) hl
abbrev rk {α : Type} (enc : α → List Value) (sz : Nat) (A : Option Addr) (l : List α) : Ck := ⟨fun k => l ≠ [] ∧ obk A = some k, fun w => RdS enc sz w A l, false, false⟩
theorem rk_ok (h : RdS enc sz w A l) : (rk enc sz A l).Ok w :=
  ⟨h, fun k hk => h.lt hk.1 k hk.2, fun w' hs hb => by
    by_cases hl : l = []
    · subst hl; exact RdS.nil
    · exact h.keep hs fun b hb' _ => hb b ⟨hl, hb'⟩⟩
theorem rk_new (h : RdS enc sz w' A l) (e : Ext w w') (hf : Fresh w A) : Hp nw w w' [rk enc sz A l] :=
  Hp.one (Tch.of_ext e) (rk_ok h) fun k hk => .inr (hf k hk.2)
theorem Hp.rdr (H : Hp S w0 w Γ) (i : Nat) (h : Γ[i]? = some (rk enc sz A l)) : RdS enc sz w A l := H.atC i h
theorem Ix.rs0 {k : Addr → Prop} (h : RdS enc sz w A l) (h1 : 0 < l.length) (hk : k ((gA A).add (0 * sz))) : Ix A l.length 0 sz k := Ix.rs (i := 0) h rfl h1 hk
theorem Ix.rs1 {k : Addr → Prop} (h : RdS enc sz w A l) (h1 : 1 < l.length) (hk : k ((gA A).add (1 * sz))) : Ix A l.length 1 sz k := Ix.rs (i := 1) h rfl h1 hk
theorem Ix.rs2 {k : Addr → Prop} (h : RdS enc sz w A l) (h1 : 2 < l.length) (hk : k ((gA A).add (2 * sz))) : Ix A l.length 2 sz k := Ix.rs (i := 2) h rfl h1 hk
theorem Al.hp (H : Hp S w0 w Γ) {k : Nat → World → Prop} (h : ∀ p w', Hp S w0 w' (bk p t cs :: Γ) → w0.heap.size ≤ p → k p w') : Al cs t w k :=
  Al.mk fun p w' hp hb e hs => h p w' (H.fr0 (Hp.one (Tch.of_ext e) (bk_ok hb) (fun k hk => .inr (by subst hk; omega))) (.inl rfl)) (by have := H.size; omega)
theorem upd_hp {cs' : List Value} (u : Upd b w w') (h : Blk w' b t cs') : Hp (· = b) w w' [bk b t cs'] :=
  Hp.one ((Tch.refl _ _).upd u (.inl rfl)) (bk_ok h) fun k hk => .inl hk
theorem grow_hp {A2 : Option Addr} {c2 : Nat} {l2 : List α} (g : Grow A w w') (hA : Que enc sz e w 0 A c l) (h : Que enc sz e w' 0 A2 c2 l2) (hb : obk A2 = obk A ∨ obk A2 = some w.heap.size) : Hp (fun k => obk A = some k) w w' [qu enc sz e A2 c2 l2] := by
  refine Hp.one ?_ (qu_ok h) fun k hk => ?_
  · have hg : w.grownBy w' (obk A) := by rw [← obk_eq A 0 0]; exact g
    exact ⟨hg.os, hg.tape, hg.output, hg.size, fun k hk hS => hg.block k hk (fun e => hS e.symm)⟩
  · rcases hb with hb | hb
    · exact .inl (hb ▸ hk)
    · exact .inr (by have : obk A2 = some k := hk; rw [hb] at this; simp at this; omega)
end
section
variable {S : Nat → Prop} {w0 w w' wb : World} {Γ Γ' L R : List Ck} {c c' d : Ck} {b o : Nat} {t e : TypeId} {cs vs : List Value} {α : Type} {enc : α → List Value} {sz cp : Nat} {A : Option Addr} {l m : List α} {x : α}
/-- one piece of the list becomes another -/
inductive Upd1 : List Ck → Ck → Ck → List Ck → Prop
  | head {Γ : List Ck} {c c' : Ck} : Upd1 (c :: Γ) c c' (c' :: Γ)
  | tail {a : Ck} {Γ Γ' : List Ck} {c c' : Ck} : Upd1 Γ c c' Γ' → Upd1 (a :: Γ) c c' (a :: Γ')
/-- where a piece stands in the list -/
inductive Sp : List Ck → List Ck → Ck → List Ck → Prop
  | head {Γ : List Ck} {c : Ck} : Sp (c :: Γ) [] c Γ
  | tail {a : Ck} {Γ L R : List Ck} {c : Ck} : Sp Γ L c R → Sp (a :: Γ) (a :: L) c R
theorem Sp.eq {Γ L R : List Ck} {c : Ck} (h : Sp Γ L c R) : Γ = L ++ c :: R := by
  induction h with
  | head => rfl
  | tail _ ih => rw [ih]; rfl
theorem Upd1.sp {Γ Γ' : List Ck} {c c' : Ck} (h : Upd1 Γ c c' Γ') : ∃ L R, Sp Γ L c R ∧ Γ' = L ++ c' :: R := by
  induction h with
  | head => exact ⟨[], _, .head, rfl⟩
  | tail _ ih => obtain ⟨L, R, h1, h2⟩ := ih; exact ⟨_ :: L, R, .tail h1, by rw [h2]; rfl⟩
theorem Hp.putS (H : Hp S w0 w Γ) (u : Sp Γ L c R) (H' : Hp c.fp w w' [c']) (ho : c.own = true) (hn : c'.new) : Hp S w0 w' (L ++ c' :: R) := by
  have H1 := (u.eq ▸ H : Hp S w0 w (L ++ c :: R)).perm List.perm_middle
  have H2 := Hp.frame (Γ1 := [c]) (Γ2 := L ++ R) (S' := c.fp) (Γ' := [c']) H1 (by simpa using ho) (fun k h => ⟨c, by simp, h⟩) H' (by simpa using hn)
  exact (show Hp S w0 w' (c' :: (L ++ R)) from H2).perm List.perm_middle.symm
theorem Hp.upd (H : Hp S w0 w Γ) (H' : Hp c.fp w w' [c']) (ho : c.own = true) (hn : c'.new) (u : Upd1 Γ c c' Γ' := by (repeat (first | exact Upd1.head | apply Upd1.tail))) : Hp S w0 w' Γ' := by
  obtain ⟨L, R, h1, rfl⟩ := u.sp
  exact H.putS h1 H' ho hn
theorem Hp.updb {cs' : List Value} (H : Hp S w0 w Γ) (H' : Hp (· = b) w w' [bk b t cs']) (u : Upd1 Γ (bk b t cs) (bk b t cs') Γ' := by (repeat (first | exact Upd1.head | apply Upd1.tail))) : Hp S w0 w' Γ' := H.upd (c := bk b t cs) H' rfl (.inl rfl) u
/-- a call that writes one piece and makes one -/
theorem Hp.updn (H : Hp S w0 w Γ) (H' : Hp c.fp w w' [c', d]) (ho : c.own = true) (hn : c'.new) (hd : d.new) (u : Upd1 Γ c c' Γ' := by (repeat (first | exact Upd1.head | apply Upd1.tail))) : Hp S w0 w' (d :: Γ') := by
  obtain ⟨L, R, h1, rfl⟩ := u.sp
  have H1 := (h1.eq ▸ H : Hp S w0 w (L ++ c :: R)).perm List.perm_middle
  have H2 := Hp.frame (Γ1 := [c]) (Γ2 := L ++ R) (S' := c.fp) (Γ' := [c', d]) H1 (by simpa using ho) (fun k h => ⟨c, by simp, h⟩) H' (by simpa using ⟨hn, hd⟩)
  exact (show Hp S w0 w' (c' :: d :: (L ++ R)) from H2).perm ((List.Perm.swap d c' _).trans (List.Perm.cons d List.perm_middle.symm))
theorem Hp.mem (H : Hp S w0 w Γ) (h : c ∈ Γ) : c.P w := (H.ok c h).holds
theorem src_e (H : Hp nw w0 w Γ) (h : RdS enc sz w0 A l) : RdS enc sz w A l := RdS.from H.e h
theorem src_b (H : Hp S w0 w Γ) (hb : BaseOk S wb w0) (h : RdS enc sz wb A l) : RdS enc sz w A l := RdS.from (H.base2 hb) h
theorem src_q (H : Hp S w0 w Γ) (h : qu enc sz e A cp l ∈ Γ) : RdS enc sz w A l := (show Que enc sz e w 0 A cp l from H.mem h).rd
theorem src_r (H : Hp S w0 w Γ) (h : rk enc sz A l ∈ Γ) : RdS enc sz w A l := H.mem h
theorem Ld1.h {k : Value → Prop} {v : Value} (H : Hp S w0 w Γ) (hk : k v) (hm : bk b t cs ∈ Γ := by (repeat (first | exact List.Mem.head _ | apply List.Mem.tail))) (hv : cs[o]? = some v := by rfl) : Ld1 w ⟨b, o, none⟩ k := Ld1.blk (H.mem hm) hv hk
theorem Ld.h {k : List Value → Prop} {n : Nat} (H : Hp S w0 w Γ) (hk : k ((cs.drop o).take n)) (hm : bk b t cs ∈ Γ := by (repeat (first | exact List.Mem.head _ | apply List.Mem.tail))) (hv : ((cs.drop o).take n).length = n := by rfl) : Ld w ⟨b, o, none⟩ n k := Ld.blk (H.mem hm) hv hk
theorem Ld1.r {k : Value → Prop} {v : Value} {i : Nat} (hk : k v)
    (hr : RdS enc 1 w A l := by (first | assumption | exact src_e (by assumption) (by assumption) | exact src_q (by assumption) (by (repeat (first | exact List.Mem.head _ | apply List.Mem.tail))) | exact src_r (by assumption) (by (repeat (first | exact List.Mem.head _ | apply List.Mem.tail))) | exact src_b (by assumption) (by assumption) (by assumption)))
    (hx : l[i]? = some x := by (first | with_reducible assumption | assumption)) (hv : (enc x)[0]? = some v := by rfl) : Ld1 w ((gA A).add (i * 1)) k := Ld1.rs hr hx hv hk
theorem Ld1.rF {k : Value → Prop} {v : Value} {i : Nat} (hk : k v)
    (hr : RdS enc sz w A l := by (first | assumption | exact src_e (by assumption) (by assumption) | exact src_q (by assumption) (by (repeat (first | exact List.Mem.head _ | apply List.Mem.tail))) | exact src_r (by assumption) (by (repeat (first | exact List.Mem.head _ | apply List.Mem.tail))) | exact src_b (by assumption) (by assumption) (by assumption)))
    (hx : l[i]? = some x := by (first | with_reducible assumption | assumption)) (hv : (enc x)[o]? = some v := by rfl) : Ld1 w (pAdd ((gA A).add (i * sz)) o) k := Ld1.rsF hr hx hv hk
theorem Ld.r {k : List Value → Prop} {i : Nat} (hk : k (enc x))
    (hr : RdS enc sz w A l := by (first | assumption | exact src_e (by assumption) (by assumption) | exact src_q (by assumption) (by (repeat (first | exact List.Mem.head _ | apply List.Mem.tail))) | exact src_r (by assumption) (by (repeat (first | exact List.Mem.head _ | apply List.Mem.tail))) | exact src_b (by assumption) (by assumption) (by assumption)))
    (hx : l[i]? = some x := by (first | with_reducible assumption | assumption)) : Ld w ((gA A).add (i * sz)) sz k := Ld.rs hr hx hk
theorem Ix.h {k : Addr → Prop} {n : Int} {i : Nat} (hk : k ((gA A).add (i * sz)))
    (hr : RdS enc sz w A l := by (first | assumption | exact src_e (by assumption) (by assumption) | exact src_q (by assumption) (by (repeat (first | exact List.Mem.head _ | apply List.Mem.tail))) | exact src_r (by assumption) (by (repeat (first | exact List.Mem.head _ | apply List.Mem.tail))) | exact src_b (by assumption) (by assumption) (by assumption)))
    (he : n = (i : Int) := by (first | (with_reducible exact lit0) | (with_reducible exact lit1) | (with_reducible exact lit2) | with_reducible rfl | with_reducible assumption | assumption)) (h1 : i < l.length := by (first | with_reducible assumption | omega | assumption)) : Ix A l.length n sz k := Ix.rs hr he h1 hk
theorem Ix.ha {k : Addr → Prop} {n : Int} {i len : Nat} (hk : k ((gA A).add (i * sz)))
    (hr : RdS enc sz w A l := by (first | assumption | exact src_e (by assumption) (by assumption) | exact src_q (by assumption) (by (repeat (first | exact List.Mem.head _ | apply List.Mem.tail))) | exact src_r (by assumption) (by (repeat (first | exact List.Mem.head _ | apply List.Mem.tail))) | exact src_b (by assumption) (by assumption) (by assumption)))
    (hl : l.length = len := by (first | with_reducible assumption | (simp; done) | assumption)) (he : n = (i : Int) := by (first | (with_reducible exact lit0) | (with_reducible exact lit1) | (with_reducible exact lit2) | with_reducible rfl | with_reducible assumption | assumption)) (h1 : i < l.length := by (first | with_reducible assumption | omega | assumption)) : Ix A len n sz k := Ix.arr hr hl he h1 hk
section
variable {W : World → Prop} {Rl : World → World → Prop} (hW : QW W w Rl)
include hW
theorem QLd1.h {k : Value → Prop} {v : Value} (H : Hp S w0 w Γ) (hk : k v) (hm : bk b t cs ∈ Γ := by (repeat (first | exact List.Mem.head _ | apply List.Mem.tail))) (hv : cs[o]? = some v := by rfl) : QLd1 W ⟨b, o, none⟩ k := QLd1.blk hW (H.mem hm) hv hk
theorem QLd.h {k : List Value → Prop} {n : Nat} (H : Hp S w0 w Γ) (hk : k ((cs.drop o).take n)) (hm : bk b t cs ∈ Γ := by (repeat (first | exact List.Mem.head _ | apply List.Mem.tail))) (hv : ((cs.drop o).take n).length = n := by rfl) : QLd W ⟨b, o, none⟩ n k := QLd.blk hW (H.mem hm) hv hk
theorem QLd1.r {k : Value → Prop} {v : Value} {i : Nat} (hk : k v)
    (hr : RdS enc 1 w A l := by (first | assumption | exact src_e (by assumption) (by assumption) | exact src_q (by assumption) (by (repeat (first | exact List.Mem.head _ | apply List.Mem.tail))) | exact src_r (by assumption) (by (repeat (first | exact List.Mem.head _ | apply List.Mem.tail))) | exact src_b (by assumption) (by assumption) (by assumption)))
    (hx : l[i]? = some x := by (first | with_reducible assumption | assumption)) (hv : (enc x)[0]? = some v := by rfl) : QLd1 W ((gA A).add (i * 1)) k := QLd1.rs hW hr hx hv hk
theorem QLd1.rF {k : Value → Prop} {v : Value} {i : Nat} (hk : k v)
    (hr : RdS enc sz w A l := by (first | assumption | exact src_e (by assumption) (by assumption) | exact src_q (by assumption) (by (repeat (first | exact List.Mem.head _ | apply List.Mem.tail))) | exact src_r (by assumption) (by (repeat (first | exact List.Mem.head _ | apply List.Mem.tail))) | exact src_b (by assumption) (by assumption) (by assumption)))
    (hx : l[i]? = some x := by (first | with_reducible assumption | assumption)) (hv : (enc x)[o]? = some v := by rfl) : QLd1 W (pAdd ((gA A).add (i * sz)) o) k := QLd1.rsF hW hr hx hv hk
theorem QLd.r {k : List Value → Prop} {i : Nat} (hk : k (enc x))
    (hr : RdS enc sz w A l := by (first | assumption | exact src_e (by assumption) (by assumption) | exact src_q (by assumption) (by (repeat (first | exact List.Mem.head _ | apply List.Mem.tail))) | exact src_r (by assumption) (by (repeat (first | exact List.Mem.head _ | apply List.Mem.tail))) | exact src_b (by assumption) (by assumption) (by assumption)))
    (hx : l[i]? = some x := by (first | with_reducible assumption | assumption)) : QLd W ((gA A).add (i * sz)) sz k := QLd.rs hW hr hx hk
end
theorem Hp.d0 (H : Hp S w0 w (c :: Γ)) : Hp S w0 w Γ := H.sub (List.sublist_cons_self _ _)
theorem Hp.dr (H : Hp S w0 w Γ) (u : Sp Γ L c R) : Hp S w0 w (L ++ R) := ((u.eq ▸ H : Hp S w0 w (L ++ c :: R)).perm List.perm_middle).d0
end
section
variable {S : Nat → Prop} {w0 w w' : World} {Γ Γ' L R : List Ck} {b p o q : Nat} {t : TypeId} {cs vs : List Value} {α : Type} {enc : α → List Value} {sz c : Nat} {e : TypeId} {A : Option Addr} {l m : List α} {x : α} {k : World → Prop}
theorem putL_el {x : α} : ∀ {l : List α} {i : Nat}, (∀ y ∈ l, (enc y).length = sz) → (enc x).length = sz → i < l.length → putL (l.flatMap enc) (i * sz) (enc x) = (l.set i x).flatMap enc
  | [], i, _, _, hi => by simp at hi
  | y :: r, 0, h, hx, _ => by
    have hy := h y (by simp)
    simp [putL, hx, List.drop_append, hy]
  | y :: r, i + 1, h, hx, hi => by
    have ih := putL_el (l := r) (i := i) (fun z hz => h z (by simp [hz])) hx (by simpa using hi)
    have hy := h y (by simp)
    unfold putL at ih ⊢
    simp only [List.flatMap_cons, List.set_cons_succ]
    rw [← ih, show (i + 1) * sz = (enc y).length + i * sz by rw [hy, Nat.add_mul, Nat.one_mul, Nat.add_comm], List.take_length_add_append]
    rw [show (enc y).length + i * sz + (enc x).length = (enc y).length + (i * sz + (enc x).length) by omega, List.drop_length_add_append]
    simp
theorem St.elb {i : Nat} (h : Blk w p t (l.flatMap enc)) (hs : ∀ y ∈ l, (enc y).length = sz) (hx : (enc x).length = sz) (hi : i < l.length) (h1 : (enc x).all Value.oneCell' = true)
    (hk : ∀ w', Upd p w w' → Blk w' p t ((l.set i x).flatMap enc) → k w') : St w ((gA (some ⟨p, 0, none⟩)).add (i * sz)) (enc x) k := by
  have hlen := flat_len hs
  have h5 : i * sz + sz ≤ l.length * sz := by
    have : (i + 1) * sz ≤ l.length * sz := Nat.mul_le_mul_right sz hi
    rw [Nat.add_mul, Nat.one_mul] at this; exact this
  have e1 : (gA (some ⟨p, 0, none⟩)).add (i * sz) = ⟨p, i * sz, none⟩ := by simp only [gA]; rw [add_lit, Nat.zero_add]
  rw [e1]
  refine St.upd h (Nat.ble_eq_true_of_le (by rw [hlen, hx]; exact h5)) h1 fun w' u hb => hk w' u ?_
  rw [putL_el hs hx hi] at hb
  exact hb
theorem St.h (H : Hp S w0 w Γ) (hk : ∀ w', Hp S w0 w' Γ' → k w') (u : Upd1 Γ (bk b t cs) (bk b t (putL cs o vs)) Γ' := by (repeat (first | exact Upd1.head | apply Upd1.tail)))
    (hl : Nat.ble (o + vs.length) cs.length = true := by rfl) (h1 : vs.all Value.oneCell' = true := by rfl) : St w ⟨b, o, none⟩ vs k := by
  obtain ⟨L, R, h2, rfl⟩ := u.sp
  exact St.upd (H.mem (c := bk b t cs) (by rw [h2.eq]; simp)) hl h1 fun w' u hb => hk w' (H.putS h2 (upd_hp u hb) rfl (.inl rfl))
/-- an element of a list is written -/
theorem St.el {j : Nat} (H : Hp S w0 w Γ) (hs : ∀ y ∈ l, (enc y).length = sz) (hx : (enc x).length = sz) (hi : j < l.length) (h1 : (enc x).all Value.oneCell' = true) (hk : ∀ w', Hp S w0 w' Γ' → k w')
    (u : Upd1 Γ (bk b t (l.flatMap enc)) (bk b t ((l.set j x).flatMap enc)) Γ' := by (repeat (first | exact Upd1.head | apply Upd1.tail))) : St w ((gA (some ⟨b, 0, none⟩)).add (j * sz)) (enc x) k := by
  obtain ⟨L, R, h2, rfl⟩ := u.sp
  exact St.elb (H.mem (c := bk b t (l.flatMap enc)) (by rw [h2.eq]; simp)) hs hx hi h1 fun w' u hb => hk w' (H.putS h2 (upd_hp u hb) rfl (.inl rfl))
variable {P : Program} {T : Tab} {ku : Value → World → Prop} {Y : List PanicEntry → World → Prop}
theorem Sm.lith (H : Hp S w0 w Γ) (hT : TabOk P T) {t : TypeId} {ti ei : TI} {len : Nat} {parts : List (Nat × Value)} {cs : List Value}
    (hk : ∀ p w', Hp S w0 w' (bk p e cs :: Γ) → w0.heap.size ≤ p → ku (.slice (some ⟨p, 0, none⟩) len len) w')
    (ht : getT T.ts t = some ti := by rfl) (hd : ti.desc = .slice e := by rfl) (he : getT T.ts e = some ei := by rfl) (hz : Nat.beq ei.zero.cells.toList.length ei.size = true := by rfl)
    (hcs : puBuild ((List.range len).map fun i => (i * ei.size, ei.size)) (List.replicate len ei.zero.cells.toList).flatten (parts.map fun (i, v) => (i, some v)) = some cs := by rfl)
    (hsmall : Nat.ble (len * ei.size) 16777216 = true := by rfl) (hne : Nat.blt 0 (len * ei.size) = true := by rfl) : Sm P (Instr.buildSlice t len parts.toArray) w ku Y :=
  Sm.lit hT ht hd he hz hcs hsmall hne fun p w' hp hb ex _ => hk p w' (H.fr0 (Hp.one (Tch.of_ext ex) (bk_ok hb) (fun k hk => .inr (by subst hk; omega))) (.inl rfl)) (by have := H.size; omega)
theorem Sm.makeh (H : Hp S w0 w Γ) (hT : TabOk P T) {t : TypeId} {ti ei : TI} {n : Nat} {kl kc : IntKind} {a b : Int} {z : α}
    (hbytes : ei.bytes * n ≤ 281474976710656) (h63 : n ≤ 140737488355328)
    (hk : ∀ p w', Hp S w0 w' (bk p e ((List.replicate n z).flatMap enc) :: Γ) → w0.heap.size ≤ p → ku (.slice (some ⟨p, 0, none⟩) n n) w')
    (ht : getT T.ts t = some ti := by rfl) (hd : ti.desc = .slice e := by rfl) (he : getT T.ts e = some ei := by rfl) (ha : a = (n : Int) := by first | rfl | assumption) (hb : b = (n : Int) := by first | rfl | assumption) (hsz : ei.size = sz := by rfl) (hz : ei.zero.cells.toList = enc z := by rfl) (hzl : (enc z).length = sz := by rfl) (hpos : 0 < sz := by decide)
    : Sm P (Instr.makeSlice t (.int kl a) (.int kc b)) w ku Y :=
  Sm.make hT ht hd he ha hb hsz hz hzl hpos hbytes h63 fun p w' hp hb ex => hk p w' (H.fr0 (Hp.one (Tch.of_ext ex) (bk_ok hb) (fun k hk => .inr (by subst hk; omega))) (.inl rfl)) (by have := H.size; omega)
theorem Sm.makeqh (H : Hp S w0 w Γ) (hT : TabOk P T) {t : TypeId} {ti ei : TI} {n c : Nat} {kl kc : IntKind} {a b : Int} {z : α} (hnc : n ≤ c)
    (hbytes : ei.bytes * c ≤ 281474976710656) (h63 : c ≤ 140737488355328)
    (hk : ∀ p w', Hp S w0 w' (qu enc sz e (some ⟨p, 0, none⟩) c (List.replicate n z) :: Γ) → w0.heap.size ≤ p → ku (.slice (some ⟨p, 0, none⟩) n c) w')
    (ht : getT T.ts t = some ti := by rfl) (hd : ti.desc = .slice e := by rfl) (he : getT T.ts e = some ei := by rfl) (ha : a = (n : Int) := by first | rfl | assumption) (hb : b = (c : Int) := by first | rfl | assumption) (hsz : ei.size = sz := by rfl) (hz : ei.zero.cells.toList = enc z := by rfl) (hzl : (enc z).length = sz := by rfl) (hpos : 0 < sz := by decide)
    : Sm P (Instr.makeSlice t (.int kl a) (.int kc b)) w ku Y :=
  Sm.makeQ hT ht hd he ha hb hnc hsz hz hzl hpos hbytes h63 fun p w' hp hb ex => hk p w' (H.fr0 (Hp.one (Tch.of_ext ex) (qu_ok (hb.mono (Nat.zero_le _))) (fun k hk => .inr (by have : some p = some k := hk; simp at this; omega))) (.inl rfl)) (by have := H.size; omega)
/-- a nil slice is a piece of the call's own -/
theorem Hp.nil (H : Hp S w0 w Γ) (enc : α → List Value) (sz : Nat) (e : TypeId) : Hp S w0 w (qu enc sz e none 0 ([] : List α) :: Γ) :=
  H.fr0 (Hp.one (Tch.refl _ _) (qu_ok Que.nil) (fun k hk => by have : none = some k := hk; simp at this)) (.inl rfl)
/-- append(l, m...) -/
theorem Sm.appm (H : Hp S w0 w Γ) (hT : TabOk P T) {t ty : TypeId} {ti ei : TI} {X : Option Addr} {n n2 c2 : Nat}
    (hn : n = l.length) (hr : RdS enc sz w X m) (hn2 : n2 = m.length) (hne : m ≠ []) (hm : ∀ x ∈ m, (enc x).length = sz) (h1 : ∀ x ∈ m, ∀ v ∈ enc x, v.oneCell' = true)
    (hlen : (l.length + m.length) * ei.bytes ≤ 140737488355328) (hlen2 : l.length + m.length ≤ 140737488355328)
    (hk : ∀ A' c' w', Hp S w0 w' (L ++ qu enc sz e A' c' (l ++ m) :: R) → ku (.slice A' (l ++ m).length c') w')
    (u : Sp Γ L (qu enc sz e A c l) R := by (repeat (first | exact Sp.head | apply Sp.tail)))
    (ht : getT T.ts t = some ti := by rfl) (hd : ti.desc = .slice e := by rfl) (he : getT T.ts e = some ei := by rfl) (hsz : ei.size = sz := by rfl) (hz : ei.zero.cells.size = sz := by rfl) (hpos : 0 < sz := by decide)
    : Sm P (Builtin.append_ #[t, t] ty #[.slice A n c, .slice X n2 c2]) w ku Y := by
  have hq : Que enc sz e w 0 A c l := H.mem (c := qu enc sz e A c l) (by rw [u.eq]; simp)
  exact Sm.appQ hT ht hd he hsz hz hpos hq hn hr hn2 hne hm h1 hlen hlen2 (Nat.zero_le _) fun A' c' w' hQ g hb => hk A' c' w' (H.putS u (grow_hp g hq hQ hb) rfl (.inl rfl))
/-- append(l, x) by a literal of one element, which is struck behind it -/
theorem Sm.ap1 (x : α) (H : Hp S w0 w (bk q e (enc x) :: Γ)) (hT : TabOk P T) {t ty : TypeId} {ti ei : TI} {n c2 : Nat}
    (hlen : (n + 1) * ei.bytes ≤ 140737488355328) (hlen2 : n + 1 ≤ 140737488355328)
    (hk : ∀ A' c' w', Hp S w0 w' (L ++ qu enc sz e A' c' (l ++ [x]) :: R) → ku (.slice A' (n + 1) c') w')
    (u : Sp Γ L (qu enc sz e A c l) R := by (repeat (first | exact Sp.head | apply Sp.tail))) (hn : n = l.length := by first | rfl | assumption | (simp; done))
    (hx : (enc x).length = sz := by rfl) (h1 : (enc x).all Value.oneCell' = true := by rfl)
    (ht : getT T.ts t = some ti := by rfl) (hd : ti.desc = .slice e := by rfl) (he : getT T.ts e = some ei := by rfl) (hsz : ei.size = sz := by rfl) (hz : ei.zero.cells.size = sz := by rfl) (hpos : 0 < sz := by decide)
    : Sm P (Builtin.append_ #[t, t] ty #[.slice A n c, .slice (some ⟨q, 0, none⟩) 1 c2]) w ku Y := by
  have hb : Blk w q e ([x].flatMap enc) := by simpa using H.blk 0 rfl
  subst hn
  refine Sm.appm H hT (m := [x]) rfl (rd_full hb (by simpa using hx)) rfl (by simp) (by simpa using hx) (by simpa using h1) hlen hlen2 (L := bk q e (enc x) :: L) (R := R) (fun A' c' w' H' => ?_) (.tail u) ht hd he hsz hz hpos
  have := hk A' c' w' (Hp.d0 H')
  simpa using this
theorem Sm.run_of {s : Sem Value} {v : Value} (h : Sm P s w (fun u w' => u = v ∧ w' = w) (fun _ _ => False)) : s.run P w = .ok v w := by
  have := h.out
  split at this
  · rename_i hr; rw [hr, this.1, this.2]
  · exact this.elim
  · exact this.elim
theorem QSm.cutHi {W : World → Prop} {Rl : World → World → Prop} (hW : QW W w Rl) (hT : TabOk P T) {t : TypeId} {ti ei : TI} {n i : Nat} {kl : IntKind} {a : Int} {k : Value → Prop} (hi : i ≤ c) (hk : k (.slice A i c))
    (ht : getT T.ts t = some ti := by rfl) (hd : ti.desc = .slice e := by rfl) (he : getT T.ts e = some ei := by rfl) (hsz : ei.size = sz := by rfl) (ha : a = (i : Int) := by first | with_reducible rfl | assumption) : QSm P (Instr.sliceAt t (.slice A n c) none (some (.int kl a)) none) W k :=
  QSm.mk hW (fun w' _ => Sm.run_of (Sm.cutHi hT ht hd he hsz ha hi ⟨rfl, rfl⟩)) hk
end
end Go.Sh
