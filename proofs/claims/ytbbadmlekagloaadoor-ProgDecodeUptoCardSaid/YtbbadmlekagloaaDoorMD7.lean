/- own work: PiG, ShQ, PgS, PgU, PrA, PrB -/
import Derived.ReadAgain
import Derived.ChangeArms
import Derived.ChangeSame
import Derived.ChangeShapes
import Derived.Lib.LaidTab
import Derived.Test.YtbbadmlekagloaaDoorRows
import Derived.OpenShut
import Derived.Test.YtbbadmlekagloaaDoorCards
import Derived.Test.YtbbadmlekagloaaDoorTie
import Derived.DataShut
import Derived.WalkKit
import Derived.ProofKit
import Derived.Deep.DeepHandedRow
import Derived.WideShapes
import Derived.SizedLaws
import Derived.Test.YtbbadmlekagloaaDoorMD6
namespace Go.Sh
open Go.RowKit
theorem QLd1.rswF {α : Type} {enc : α → List Value} {sz : Nat} {W : World → Prop} {A : Option Addr} {l : List α} {i o : Nat} {x : α} {v : Value} {k : Value → Prop} (h : ∀ w', W w' → RdS enc sz w' A l) (hk : k v) (hx : l[i]? = some x := by assumption) (hv : (enc x)[o]? = some v := by rfl) : QLd1 W (pAdd ((gA A).add (i * sz)) o) k := by
  refine ⟨v, fun w' hw' => ?_, hk⟩
  obtain ⟨vs, h1, h2, h3⟩ := (h w' hw').at_ i x hx
  unfold Fl at h2
  subst h2
  rw [pAdd_add]
  exact h3 o v hv
end Go.Sh
namespace Go.Proofs.YtbbadmlekagloaaDoor
open Go Go.Sh
set_option linter.unusedVariables false
set_option linter.unusedSimpArgs false
attribute [local irreducible] Blk Ext RdS
theorem odd_w (i : Int) (w : World) (hi : -1 ≤ i ∧ i ≤ 100000) : Cl Tryd.prog 23 #[.int .i64 i] w (fun v w' => v = (oddI i).v ∧ Ext w w') (fun _ _ => False) := by
  have hw : IntKind.i64.wrap (70 + i) = 70 + i := w64 rfl (by omega) (by omega)
  refine calls_ex (args := [.int .i64 i]) T.ok Tryd.func23 rfl rfl rfl rfl ?_
  have H := Hp.begin nw w
  repeat' ((conv => whnf); first | (((with_reducible show Gd _ _ _); first | with_reducible refine Gd.t ?_ | with_reducible refine Gd.f ?_ | with_reducible refine Gd.dec (fun _ => ?_) (fun _ => ?_) | with_reducible refine Gd.beq (fun _ => ?_) (fun _ => ?_) | with_reducible refine Gd.bne (fun _ => ?_) (fun _ => ?_) | with_reducible refine Gd.not ?_ | refine Gd.t ?_ | refine Gd.f ?_ | with_reducible refine Gd.var (fun _ => ?_) (fun _ => ?_)) <;> first | (exfalso; omega) | skip) | with_reducible refine Sq.mk ?_ | ((with_reducible show Ld1 _ _ _); first | refine Ld1.h H ?_ | refine Ld1.rF ?_ | refine Ld1.r ?_) | ((with_reducible show Ld _ _ _ _); first | refine Ld.h H ?_ | refine Ld.r ?_) | ((with_reducible show Ix _ _ _ _ _); (first | refine Ix.h ?_ | refine Ix.ha ?_)) | (refine Al.hp H ?_; clear H; intro _ _ H _) | (refine St.h H ?_; clear H; intro _ H))
  refine ⟨?_, H.e⟩
  show Value.agg #[.int .i64 (IntKind.i64.wrap (70 + i)), _, _, _, _] = _
  rw [hw]; rfl
/-- the code that is written over -/
def oddC (i n : Nat) : List Ins := (List.range n).map fun k => oddI ((i + k : Nat) : Int)
theorem oddC_len (i n : Nat) : (oddC i n).length = n := by simp [oddC]
theorem oddC_at {i n k : Nat} (h : k < n) : (oddC i n)[k]? = some (oddI ((i + k : Nat) : Int)) := by simp [oddC, h]
def oddE (i : Nat) (x : FE) : FE := (⟨x.1.params, x.1.regs, x.1.slots, oddC i x.1.code.length⟩, x.2)
def oddL : Nat → List FE → List FE
  | _, [] => []
  | i, x :: r => oddE i x :: oddL (i + 1) r
theorem oddL_len : ∀ (i : Nat) (l : List FE), (oddL i l).length = l.length
  | _, [] => rfl
  | i, x :: r => by simp [oddL, oddL_len (i + 1) r]
theorem oddL_at : ∀ {l : List FE} {i j : Nat} {x : FE}, l[j]? = some x → (oddL i l)[j]? = some (oddE (i + j) x)
  | [], _, _, _, h => by simp at h
  | y :: r, i, 0, x, h => by simp at h; subst h; rfl
  | y :: r, i, j + 1, x, h => by
    have := oddL_at (l := r) (i := i + 1) (j := j) (by simpa using h)
    simp only [oddL, List.getElem?_cons_succ, this]
    rw [show i + 1 + j = i + (j + 1) by omega]
theorem split_at {α : Type} {l : List α} {i : Nat} {x : α} (h : l[i]? = some x) : l.drop i = x :: l.drop (i + 1) ∧ l.take (i + 1) = l.take i ++ [x] := by
  obtain ⟨h1, h2⟩ := List.getElem?_eq_some_iff.1 h
  exact ⟨by rw [List.drop_eq_getElem_cons h1, h2], by rw [List.take_succ_eq_append_getElem h1, h2]⟩
/-- a code, no more written, joins the others -/
theorem Hp.cdsF {S : Nat → Prop} {w0 w : World} {Γ : List Ck} {L : List FE} {x : FE} {A : Option Addr} {c : Nat} {l : List Ins} (H : Hp S w0 w (gq Ins.enc 5 35 x.2.1 x.1.code A c l :: cds L :: Γ)) : Hp S w0 w (cds (L ++ [x]) :: Γ) := by
  refine Hp.join2 H rfl rfl (.inl rfl) (fun k ⟨y, hy, hn, hk⟩ => ?_) (fun _ h1 h2 => cds_ok fun y hy => ?_)
  · rcases List.mem_append.1 hy with hy | hy
    · exact .inr ⟨y, hy, hn, hk⟩
    · simp at hy; subst hy; exact .inl (.inl ⟨hn, hk⟩)
  · rcases List.mem_append.1 hy with hy | hy
    · exact h2.holds y hy
    · simp at hy; subst hy; exact h1.holds.1
set_option maxHeartbeats 2000000 in
theorem progDecode_c (A : Option Addr) (l : List Int) (c : Nat) (w : World) (hA : RdS ints 1 w A l) (hG : RdG w) (hc : l.length ≤ c) (hl : l.length ≤ 1048576) :
    Cl Tryd.prog 11 #[.slice A l.length c] w (fun v w' => v = .bool true ∧ Ext w w') (fun _ _ => False) := by
  have hw2 : IntKind.i64.wrap ((l.length : Int) + 2) = ((l.length + 2 : Nat) : Int) := w64 (by omega) (by omega) (by omega)
  have hw1 : IntKind.i64.wrap ((l.length : Int) + 1) = ((l.length + 1 : Nat) : Int) := w64 (by omega) (by omega) (by omega)
  refine calls_ex (args := [.slice A l.length c]) T.ok Tryd.func11 rfl rfl rfl rfl ?_
  have H := Hp.begin nw w
  repeat' ((conv => whnf); first | (((with_reducible show Gd _ _ _); first | with_reducible refine Gd.t ?_ | with_reducible refine Gd.f ?_ | with_reducible refine Gd.dec (fun _ => ?_) (fun _ => ?_) | with_reducible refine Gd.beq (fun _ => ?_) (fun _ => ?_) | with_reducible refine Gd.bne (fun _ => ?_) (fun _ => ?_) | with_reducible refine Gd.not ?_ | refine Gd.t ?_ | refine Gd.f ?_ | with_reducible refine Gd.var (fun _ => ?_) (fun _ => ?_)) <;> first | (exfalso; omega) | skip) | with_reducible refine Sq.mk ?_ | ((with_reducible show Ld1 _ _ _); first | refine Ld1.h H ?_ | refine Ld1.rF ?_ | refine Ld1.r ?_) | ((with_reducible show Ld _ _ _ _); first | refine Ld.h H ?_ | refine Ld.r ?_) | ((with_reducible show Ix _ _ _ _ _); (first | refine Ix.h ?_ | refine Ix.ha ?_)) | (refine Al.hp H ?_; clear H; intro _ _ H _) | (refine St.h H ?_; clear H; intro _ H))
  ((conv => whnf); refine Cl.mk (rDecode_c A c l _ (RdS.from H.e hG) (RdS.from H.e hA) hc (by omega)) ?_)
  rintro _ w1 ⟨B0, c0, L0, rfl, hL0, H'⟩
  replace H := H.fr0L H' (by simp [Ck.new])
  simp only [List.cons_append, List.nil_append] at H
  clear H'
  repeat' ((conv => whnf); first | (((with_reducible show Gd _ _ _); first | with_reducible refine Gd.t ?_ | with_reducible refine Gd.f ?_ | with_reducible refine Gd.dec (fun _ => ?_) (fun _ => ?_) | with_reducible refine Gd.beq (fun _ => ?_) (fun _ => ?_) | with_reducible refine Gd.bne (fun _ => ?_) (fun _ => ?_) | with_reducible refine Gd.not ?_ | refine Gd.t ?_ | refine Gd.f ?_ | with_reducible refine Gd.var (fun _ => ?_) (fun _ => ?_)) <;> first | (exfalso; omega) | skip) | with_reducible refine Sq.mk ?_ | ((with_reducible show Ld1 _ _ _); first | refine Ld1.h H ?_ | refine Ld1.rF ?_ | refine Ld1.r ?_) | ((with_reducible show Ld _ _ _ _); first | refine Ld.h H ?_ | refine Ld.r ?_) | ((with_reducible show Ix _ _ _ _ _); (first | refine Ix.h ?_ | refine Ix.ha ?_)) | (refine St.h H ?_; clear H; intro _ H))
  ((conv => whnf); refine Al.hp H ?_; clear H; intro p3 _ H _)
  repeat' ((conv => whnf); first | (((with_reducible show Gd _ _ _); first | with_reducible refine Gd.t ?_ | with_reducible refine Gd.f ?_ | with_reducible refine Gd.dec (fun _ => ?_) (fun _ => ?_) | with_reducible refine Gd.beq (fun _ => ?_) (fun _ => ?_) | with_reducible refine Gd.bne (fun _ => ?_) (fun _ => ?_) | with_reducible refine Gd.not ?_ | refine Gd.t ?_ | refine Gd.f ?_ | with_reducible refine Gd.var (fun _ => ?_) (fun _ => ?_)) <;> first | (exfalso; omega) | skip) | with_reducible refine Sq.mk ?_ | ((with_reducible show Ld1 _ _ _); first | refine Ld1.h H ?_ | refine Ld1.rF ?_ | refine Ld1.r ?_) | ((with_reducible show Ld _ _ _ _); first | refine Ld.h H ?_ | refine Ld.r ?_) | ((with_reducible show Ix _ _ _ _ _); (first | refine Ix.h ?_ | refine Ix.ha ?_)) | (refine Al.hp H ?_; clear H; intro _ _ H _) | (refine St.h H ?_; clear H; intro _ H))
  refine Sm.makeh (enc := ints) (z := (0 : Int)) (n := l.length + 2) H T.ok ?_ (by omega) (fun pl w2 H _ => ?_)
  · show 8 * (l.length + 2) ≤ _; omega
  replace H := Hp.bq (sz := 1) H (fun _ _ => rfl)
  rw [List.length_replicate] at H
  repeat' ((conv => whnf); first | (((with_reducible show Gd _ _ _); first | with_reducible refine Gd.t ?_ | with_reducible refine Gd.f ?_ | with_reducible refine Gd.dec (fun _ => ?_) (fun _ => ?_) | with_reducible refine Gd.beq (fun _ => ?_) (fun _ => ?_) | with_reducible refine Gd.bne (fun _ => ?_) (fun _ => ?_) | with_reducible refine Gd.not ?_ | refine Gd.t ?_ | refine Gd.f ?_ | with_reducible refine Gd.var (fun _ => ?_) (fun _ => ?_)) <;> first | (exfalso; omega) | skip) | with_reducible refine Sq.mk ?_ | ((with_reducible show Ld1 _ _ _); first | refine Ld1.h H ?_ | refine Ld1.rF ?_ | refine Ld1.r ?_) | ((with_reducible show Ld _ _ _ _); first | refine Ld.h H ?_ | refine Ld.r ?_) | ((with_reducible show Ix _ _ _ _ _); (first | refine Ix.h ?_ | refine Ix.ha ?_)) | (refine Al.hp H ?_; clear H; intro _ _ H _) | (refine St.h H ?_; clear H; intro _ H))
  refine Lp.g0 T.ok (σ := Nat × List Int) (fun s => [(7, .int .i64 (s.1 : Int)), (6, .slice (some ⟨pl, 0, none⟩) (l.length + 2) (l.length + 2)), (5, .int .i64 (l.length : Int)), (4, .int .i64 (decA l).1), (3, .pointer (some ⟨p3, 0, none⟩)), (0, .slice A l.length c)])
    (fun s w' => s.1 ≤ l.length ∧ s.2.length = l.length + 2 ∧ s.2.take s.1 = l.take s.1 ∧ Hp nw w w' [qu ints 1 2 (some ⟨pl, 0, none⟩) (l.length + 2) s.2, bk p3 46 (pv B0 L0.length c0).cells.toList, qu FE.enc 4 24 B0 c0 L0, cds L0]) (fun s _ => l.length - s.1) (0, List.replicate (l.length + 2) 0) rfl ⟨rfl, rfl, rfl, rfl, rfl, rfl, trivial⟩ ⟨Nat.zero_le _, by simp, by simp, H⟩ ?_
  clear H
  rintro ⟨i, f⟩ w5 ⟨hi, hf, hft, H⟩
  simp only at hi hf hft H ⊢
  by_cases hlt : i < l.length
  · obtain ⟨x, hx⟩ : ∃ x, l[i]? = some x := ⟨_, List.getElem?_eq_getElem hlt⟩
    obtain ⟨h1, h2⟩ := List.getElem?_eq_some_iff.1 hx
    have hA5 := RdS.from H.e hA
    have hL5 : RdS ints 1 w5 (some ⟨pl, 0, none⟩) f := H.rdq 0 rfl
    have hif : i < f.length := by omega
    repeat' ((conv => whnf); first | (((with_reducible show Gd _ _ _); first | with_reducible refine Gd.t ?_ | with_reducible refine Gd.f ?_ | with_reducible refine Gd.dec (fun _ => ?_) (fun _ => ?_) | with_reducible refine Gd.beq (fun _ => ?_) (fun _ => ?_) | with_reducible refine Gd.bne (fun _ => ?_) (fun _ => ?_) | with_reducible refine Gd.not ?_ | refine Gd.t ?_ | refine Gd.f ?_ | with_reducible refine Gd.var (fun _ => ?_) (fun _ => ?_)) <;> first | (exfalso; omega) | skip) | with_reducible refine Sq.mk ?_ | ((with_reducible show Ld1 _ _ _); first | refine Ld1.h H ?_ | refine Ld1.rF ?_ | refine Ld1.r ?_) | ((with_reducible show Ld _ _ _ _); first | refine Ld.h H ?_ | refine Ld.r ?_) | ((with_reducible show Ix _ _ _ _ _); (first | refine Ix.h ?_ | refine Ix.ha ?_)) | (refine Al.hp H ?_; clear H; intro _ _ H _) | (refine St.h H ?_; clear H; intro _ H))
    refine St.elq (enc := ints) (l := f) (c := l.length + 2) (x := x) H rfl hif rfl (fun w' H => ?_)
    simp only [List.nil_append] at H
    clear hA5 hL5
    repeat' ((conv => whnf); first | (((with_reducible show Gd _ _ _); first | with_reducible refine Gd.t ?_ | with_reducible refine Gd.f ?_ | with_reducible refine Gd.dec (fun _ => ?_) (fun _ => ?_) | with_reducible refine Gd.beq (fun _ => ?_) (fun _ => ?_) | with_reducible refine Gd.bne (fun _ => ?_) (fun _ => ?_) | with_reducible refine Gd.not ?_ | refine Gd.t ?_ | refine Gd.f ?_ | with_reducible refine Gd.var (fun _ => ?_) (fun _ => ?_)) <;> first | (exfalso; omega) | skip) | with_reducible refine Sq.mk ?_ | ((with_reducible show Ld1 _ _ _); first | refine Ld1.h H ?_ | refine Ld1.rF ?_ | refine Ld1.r ?_) | ((with_reducible show Ld _ _ _ _); first | refine Ld.h H ?_ | refine Ld.r ?_) | ((with_reducible show Ix _ _ _ _ _); (first | refine Ix.h ?_ | refine Ix.ha ?_)) | (refine Al.hp H ?_; clear H; intro _ _ H _) | (refine St.h H ?_; clear H; intro _ H))
    refine ⟨(i + 1, f.set i x), ⟨at_int (m := ((i + 1 : Nat) : Int)) rfl (w64 (by simp) (by omega) (by omega)), rfl, rfl, rfl, rfl, rfl, trivial⟩, rfl, ⟨by simp only; omega, by simpa using hf, ?_, H⟩, by simp only; omega⟩
    rw [List.take_succ_eq_append_getElem h1, h2, List.take_succ_eq_append_getElem (by simp; omega), List.take_set_of_le (Nat.le_refl _), hft]
    simp
  have hi : i = l.length := by omega
  subst hi
  rw [List.take_length] at hft
  obtain ⟨y1, y2, rfl⟩ : ∃ y1 y2, f = l ++ [y1, y2] := by
    have h2 : (f.drop l.length).length = 2 := by rw [List.length_drop]; omega
    match hd : f.drop l.length, h2 with
    | [y1, y2], _ => exact ⟨y1, y2, by rw [← List.take_append_drop l.length f, hft, hd]⟩
  clear hft hlt
  have hL5 : RdS ints 1 w5 (some ⟨pl, 0, none⟩) (l ++ [y1, y2]) := H.rdq 0 rfl
  have hll : l.length < (l ++ [y1, y2]).length := by omega
  repeat' ((conv => whnf); first | (((with_reducible show Gd _ _ _); first | with_reducible refine Gd.t ?_ | with_reducible refine Gd.f ?_ | with_reducible refine Gd.dec (fun _ => ?_) (fun _ => ?_) | with_reducible refine Gd.beq (fun _ => ?_) (fun _ => ?_) | with_reducible refine Gd.bne (fun _ => ?_) (fun _ => ?_) | with_reducible refine Gd.not ?_ | refine Gd.t ?_ | refine Gd.f ?_ | with_reducible refine Gd.var (fun _ => ?_) (fun _ => ?_)) <;> first | (exfalso; omega) | skip) | with_reducible refine Sq.mk ?_ | ((with_reducible show Ld1 _ _ _); first | refine Ld1.h H ?_ | refine Ld1.rF ?_ | refine Ld1.r ?_) | ((with_reducible show Ld _ _ _ _); first | refine Ld.h H ?_ | refine Ld.r ?_) | ((with_reducible show Ix _ _ _ _ _); (first | refine Ix.h ?_ | refine Ix.ha ?_)) | (refine Al.hp H ?_; clear H; intro _ _ H _) | (refine St.h H ?_; clear H; intro _ H))
  refine St.elq (enc := ints) (l := l ++ [y1, y2]) (c := l.length + 2) (x := 123) H rfl hll rfl (fun w' H => ?_)
  simp only [List.nil_append] at H
  rw [List.set_append_right _ _ (Nat.le_refl _), Nat.sub_self, List.set_cons_zero] at H
  clear hL5
  have hL5 : RdS ints 1 w' (some ⟨pl, 0, none⟩) (l ++ [123, y2]) := H.rdq 0 rfl
  have hll : l.length + 1 < (l ++ [123, y2]).length := by simp
  have hfl2 : (l ++ [123, y2] : List Int).length = l.length + 2 := by simp
  repeat' ((conv => whnf); first | (((with_reducible show Gd _ _ _); first | with_reducible refine Gd.t ?_ | with_reducible refine Gd.f ?_ | with_reducible refine Gd.dec (fun _ => ?_) (fun _ => ?_) | with_reducible refine Gd.beq (fun _ => ?_) (fun _ => ?_) | with_reducible refine Gd.bne (fun _ => ?_) (fun _ => ?_) | with_reducible refine Gd.not ?_ | refine Gd.t ?_ | refine Gd.f ?_ | with_reducible refine Gd.var (fun _ => ?_) (fun _ => ?_)) <;> first | (exfalso; omega) | skip) | with_reducible refine Sq.mk ?_ | ((with_reducible show Ld1 _ _ _); first | refine Ld1.h H ?_ | refine Ld1.rF ?_ | refine Ld1.r ?_) | ((with_reducible show Ld _ _ _ _); first | refine Ld.h H ?_ | refine Ld.r ?_) | ((with_reducible show Ix _ _ _ _ _); (first | refine Ix.h ?_ | refine Ix.ha ?_)) | (refine Al.hp H ?_; clear H; intro _ _ H _) | (refine St.h H ?_; clear H; intro _ H))
  refine St.elq (enc := ints) (l := l ++ [123, y2]) (c := l.length + 2) (x := 456) H rfl hll rfl (fun w' H => ?_)
  simp only [List.nil_append] at H
  rw [List.set_append_right _ _ (by omega), Nat.add_sub_cancel_left, List.set_cons_succ, List.set_cons_zero] at H
  clear hL5 hll hfl2
  repeat' ((conv => whnf); first | (((with_reducible show Gd _ _ _); first | with_reducible refine Gd.t ?_ | with_reducible refine Gd.f ?_ | with_reducible refine Gd.dec (fun _ => ?_) (fun _ => ?_) | with_reducible refine Gd.beq (fun _ => ?_) (fun _ => ?_) | with_reducible refine Gd.bne (fun _ => ?_) (fun _ => ?_) | with_reducible refine Gd.not ?_ | refine Gd.t ?_ | refine Gd.f ?_ | with_reducible refine Gd.var (fun _ => ?_) (fun _ => ?_)) <;> first | (exfalso; omega) | skip) | with_reducible refine Sq.mk ?_ | ((with_reducible show Ld1 _ _ _); first | refine Ld1.h H ?_ | refine Ld1.rF ?_ | refine Ld1.r ?_) | ((with_reducible show Ld _ _ _ _); first | refine Ld.h H ?_ | refine Ld.r ?_) | ((with_reducible show Ix _ _ _ _ _); (first | refine Ix.h ?_ | refine Ix.ha ?_)) | (refine Al.hp H ?_; clear H; intro _ _ H _) | (refine St.h H ?_; clear H; intro _ H))
  (conv => whnf)
  have hfix : ∀ w', Hp nw w w' [qu ints 1 2 (some ⟨pl, 0, none⟩) (l.length + 2) (l ++ [123, 456]), bk p3 46 (pv B0 L0.length c0).cells.toList, qu FE.enc 4 24 B0 c0 L0, cds L0] → Hp nw w w' [qu ints 1 2 (some ⟨pl, 0, none⟩) (l.length + 2) (l ++ [123, 456]), bk p3 46 (pv B0 L0.length c0).cells.toList, qu FE.enc 4 24 B0 c0 L0, cds L0] := fun _ h => h
  replace H := hfix _ H
  clear hfix
  have hRd : ∀ w', RdS ints 1 w' (some ⟨pl, 0, none⟩) (l ++ [123, 456]) → RdS ints 1 w' (some ⟨pl, 0, none⟩) l := fun w' h => by
    have := RdS.take (k := l.length) h
    rwa [List.take_left] at this
  refine Sm.cutHi (i := l.length) T.ok rfl rfl rfl rfl rfl (by omega) ?_
  repeat' ((conv => whnf); first | (((with_reducible show Gd _ _ _); first | with_reducible refine Gd.t ?_ | with_reducible refine Gd.f ?_ | with_reducible refine Gd.dec (fun _ => ?_) (fun _ => ?_) | with_reducible refine Gd.beq (fun _ => ?_) (fun _ => ?_) | with_reducible refine Gd.bne (fun _ => ?_) (fun _ => ?_) | with_reducible refine Gd.not ?_ | refine Gd.t ?_ | refine Gd.f ?_ | with_reducible refine Gd.var (fun _ => ?_) (fun _ => ?_)) <;> first | (exfalso; omega) | skip) | with_reducible refine Sq.mk ?_ | ((with_reducible show Ld1 _ _ _); first | refine Ld1.h H ?_ | refine Ld1.rF ?_ | refine Ld1.r ?_) | ((with_reducible show Ld _ _ _ _); first | refine Ld.h H ?_ | refine Ld.r ?_) | ((with_reducible show Ix _ _ _ _ _); (first | refine Ix.h ?_ | refine Ix.ha ?_)) | (refine Al.hp H ?_; clear H; intro _ _ H _) | (refine St.h H ?_; clear H; intro _ H))
  ((conv => whnf); refine Cl.mk (Decode_a (some ⟨pl, 0, none⟩) (l.length + 2) l _ (RdS.from H.e hG) (hRd _ (H.rdq 0 rfl)) (by omega) (by omega)) ?_)
  rintro _ w2 ⟨B1, c1, L1, rfl, hL1, H'⟩
  replace H := H.fr0L H' (by simp [Ck.new])
  simp only [List.cons_append, List.nil_append] at H
  clear H'
  repeat' ((conv => whnf); first | (((with_reducible show Gd _ _ _); first | with_reducible refine Gd.t ?_ | with_reducible refine Gd.f ?_ | with_reducible refine Gd.dec (fun _ => ?_) (fun _ => ?_) | with_reducible refine Gd.beq (fun _ => ?_) (fun _ => ?_) | with_reducible refine Gd.bne (fun _ => ?_) (fun _ => ?_) | with_reducible refine Gd.not ?_ | refine Gd.t ?_ | refine Gd.f ?_ | with_reducible refine Gd.var (fun _ => ?_) (fun _ => ?_)) <;> first | (exfalso; omega) | skip) | with_reducible refine Sq.mk ?_ | ((with_reducible show Ld1 _ _ _); first | refine Ld1.h H ?_ | refine Ld1.rF ?_ | refine Ld1.r ?_) | ((with_reducible show Ld _ _ _ _); first | refine Ld.h H ?_ | refine Ld.r ?_) | ((with_reducible show Ix _ _ _ _ _); (first | refine Ix.h ?_ | refine Ix.ha ?_)) | (refine St.h H ?_; clear H; intro _ H))
  ((conv => whnf); refine Al.hp H ?_; clear H; intro p8 _ H _)
  repeat' ((conv => whnf); first | (((with_reducible show Gd _ _ _); first | with_reducible refine Gd.t ?_ | with_reducible refine Gd.f ?_ | with_reducible refine Gd.dec (fun _ => ?_) (fun _ => ?_) | with_reducible refine Gd.beq (fun _ => ?_) (fun _ => ?_) | with_reducible refine Gd.bne (fun _ => ?_) (fun _ => ?_) | with_reducible refine Gd.not ?_ | refine Gd.t ?_ | refine Gd.f ?_ | with_reducible refine Gd.var (fun _ => ?_) (fun _ => ?_)) <;> first | (exfalso; omega) | skip) | with_reducible refine Sq.mk ?_ | ((with_reducible show Ld1 _ _ _); first | refine Ld1.h H ?_ | refine Ld1.rF ?_ | refine Ld1.r ?_) | ((with_reducible show Ld _ _ _ _); first | refine Ld.h H ?_ | refine Ld.r ?_) | ((with_reducible show Ix _ _ _ _ _); (first | refine Ix.h ?_ | refine Ix.ha ?_)) | (refine Al.hp H ?_; clear H; intro _ _ H _) | (refine St.h H ?_; clear H; intro _ H))
  (conv => whnf)
  refine Sm.cutHi (i := l.length) T.ok rfl rfl rfl rfl rfl (by omega) ?_
  repeat' ((conv => whnf); first | (((with_reducible show Gd _ _ _); first | with_reducible refine Gd.t ?_ | with_reducible refine Gd.f ?_ | with_reducible refine Gd.dec (fun _ => ?_) (fun _ => ?_) | with_reducible refine Gd.beq (fun _ => ?_) (fun _ => ?_) | with_reducible refine Gd.bne (fun _ => ?_) (fun _ => ?_) | with_reducible refine Gd.not ?_ | refine Gd.t ?_ | refine Gd.f ?_ | with_reducible refine Gd.var (fun _ => ?_) (fun _ => ?_)) <;> first | (exfalso; omega) | skip) | with_reducible refine Sq.mk ?_ | ((with_reducible show Ld1 _ _ _); first | refine Ld1.h H ?_ | refine Ld1.rF ?_ | refine Ld1.r ?_) | ((with_reducible show Ld _ _ _ _); first | refine Ld.h H ?_ | refine Ld.r ?_) | ((with_reducible show Ix _ _ _ _ _); (first | refine Ix.h ?_ | refine Ix.ha ?_)) | (refine Al.hp H ?_; clear H; intro _ _ H _) | (refine St.h H ?_; clear H; intro _ H))
  ((conv => whnf); refine Cl.mk (Decode_a (some ⟨pl, 0, none⟩) (l.length + 2) l _ (RdS.from H.e hG) (hRd _ (H.rdq 3 rfl)) (by omega) (by omega)) ?_)
  rintro _ w3 hq
  obtain ⟨B2, c2, L2, rfl, hL2, H'⟩ := hq.plain
  replace H := H.fr0L H' (by simp [Ck.new])
  simp only [List.cons_append, List.nil_append] at H
  clear H' hq
  repeat' ((conv => whnf); first | (((with_reducible show Gd _ _ _); first | with_reducible refine Gd.t ?_ | with_reducible refine Gd.f ?_ | with_reducible refine Gd.dec (fun _ => ?_) (fun _ => ?_) | with_reducible refine Gd.beq (fun _ => ?_) (fun _ => ?_) | with_reducible refine Gd.bne (fun _ => ?_) (fun _ => ?_) | with_reducible refine Gd.not ?_ | refine Gd.t ?_ | refine Gd.f ?_ | with_reducible refine Gd.var (fun _ => ?_) (fun _ => ?_)) <;> first | (exfalso; omega) | skip) | with_reducible refine Sq.mk ?_ | ((with_reducible show Ld1 _ _ _); first | refine Ld1.h H ?_ | refine Ld1.rF ?_ | refine Ld1.r ?_) | ((with_reducible show Ld _ _ _ _); first | refine Ld.h H ?_ | refine Ld.r ?_) | ((with_reducible show Ix _ _ _ _ _); (first | refine Ix.h ?_ | refine Ix.ha ?_)) | (refine St.h H ?_; clear H; intro _ H))
  ((conv => whnf); refine Al.hp H ?_; clear H; intro p10 _ H _)
  obtain ⟨hs1, hs1c⟩ := dec_small hL1
  obtain ⟨hs2, hs2c⟩ := dec_small hL2
  have e10 : decide (fns L1 = fns L0) = true := decide_eq_true (hL1.trans hL0.symm)
  have e20 : decide (fns L2 = fns L0) = true := decide_eq_true (hL2.trans hL0.symm)
  ((conv => whnf); first | (((with_reducible show Gd _ _ _); first | with_reducible refine Gd.t ?_ | with_reducible refine Gd.f ?_ | with_reducible refine Gd.dec (fun _ => ?_) (fun _ => ?_) | with_reducible refine Gd.beq (fun _ => ?_) (fun _ => ?_) | with_reducible refine Gd.bne (fun _ => ?_) (fun _ => ?_) | with_reducible refine Gd.not ?_ | refine Gd.t ?_ | refine Gd.f ?_ | with_reducible refine Gd.var (fun _ => ?_) (fun _ => ?_)) <;> first | (exfalso; omega) | skip) | with_reducible refine Sq.mk ?_ | ((with_reducible show Ld1 _ _ _); first | refine Ld1.h H ?_ | refine Ld1.rF ?_ | refine Ld1.r ?_) | ((with_reducible show Ld _ _ _ _); first | refine Ld.h H ?_ | refine Ld.r ?_) | ((with_reducible show Ix _ _ _ _ _); (first | refine Ix.h ?_ | refine Ix.ha ?_)) | (refine Al.hp H ?_; clear H; intro _ _ H _) | (refine St.h H ?_; clear H; intro _ H))
  have hfix : ∀ w', Hp nw w w' [bk p10 46 (pv B2 L2.length c2).cells.toList, qu FE.enc 4 24 B2 c2 L2, cds L2, bk p8 46 (pv B1 L1.length c1).cells.toList, qu FE.enc 4 24 B1 c1 L1, cdq L1, qu ints 1 2 (some ⟨pl, 0, none⟩) (l.length + 2) (l ++ [123, 456]), bk p3 46 (pv B0 L0.length c0).cells.toList, qu FE.enc 4 24 B0 c0 L0, cds L0] → Hp nw w w' [bk p10 46 (pv B2 L2.length c2).cells.toList, qu FE.enc 4 24 B2 c2 L2, cds L2, bk p8 46 (pv B1 L1.length c1).cells.toList, qu FE.enc 4 24 B1 c1 L1, cdq L1, qu ints 1 2 (some ⟨pl, 0, none⟩) (l.length + 2) (l ++ [123, 456]), bk p3 46 (pv B0 L0.length c0).cells.toList, qu FE.enc 4 24 B0 c0 L0, cds L0] := fun _ h => h
  replace H := hfix _ H
  clear hfix
  repeat' (first | ((conv => whnf); first | (((with_reducible show Gd _ _ _); first | with_reducible refine Gd.t ?_ | with_reducible refine Gd.f ?_ | with_reducible refine Gd.dec (fun _ => ?_) (fun _ => ?_) | with_reducible refine Gd.beq (fun _ => ?_) (fun _ => ?_) | with_reducible refine Gd.bne (fun _ => ?_) (fun _ => ?_) | with_reducible refine Gd.not ?_ | refine Gd.t ?_ | refine Gd.f ?_ | with_reducible refine Gd.var (fun _ => ?_) (fun _ => ?_)) <;> first | (exfalso; omega) | skip) | with_reducible refine Sq.mk ?_ | ((with_reducible show Ld1 _ _ _); first | refine Ld1.h H ?_ | refine Ld1.rF ?_ | refine Ld1.r ?_) | ((with_reducible show Ld _ _ _ _); first | refine Ld.h H ?_ | refine Ld.r ?_) | ((with_reducible show Ix _ _ _ _ _); (first | refine Ix.h ?_ | refine Ix.ha ?_)) | (refine Al.hp H ?_; clear H; intro _ _ H _) | (refine St.h H ?_; clear H; intro _ H)) | ((((conv => whnf); refine Cl.mk (same_c B1 B0 L1 L0 c1 c0 _ ⟨H.rdq 4 rfl, fun x hx => Que.rd ((H.atC (c := cdq L1) 5 rfl).1 x hx)⟩ ⟨H.rdq 8 rfl, H.atC 9 rfl⟩ (by omega) (fun x hx => by have := (hs1c x hx).2; omega)) ?_); rintro _ _ ⟨rfl, hx⟩; replace H := H.ext hx; clear hx); rw [e10]) | ((((conv => whnf); refine Cl.mk (same_c B2 B0 L2 L0 c2 c0 _ ⟨H.rdq 1 rfl, H.atC 2 rfl⟩ ⟨H.rdq 8 rfl, H.atC 9 rfl⟩ (by omega) (fun x hx => by have := (hs2c x hx).2; omega)) ?_); rintro _ _ ⟨rfl, hx⟩; replace H := H.ext hx; clear hx); rw [e20]))
  all_goals first | (exfalso; omega) | skip
  obtain ⟨R, hR, H⟩ : ∃ R, R = [bk p10 46 (pv B2 L2.length c2).cells.toList, qu FE.enc 4 24 B2 c2 L2, cds L2, qu ints 1 2 (some ⟨pl, 0, none⟩) (l.length + 2) (l ++ [123, 456]), bk p3 46 (pv B0 L0.length c0).cells.toList, qu FE.enc 4 24 B0 c0 L0, cds L0] ∧ Hp nw w _ (cdq L1 :: bk p8 46 (pv B1 L1.length c1).cells.toList :: qu FE.enc 4 24 B1 c1 L1 :: R) := ⟨_, rfl, H.sel [5, 3, 3, 0, 0, 0, 0, 0, 0, 0] rfl⟩
  repeat' ((conv => whnf); first | (((with_reducible show Gd _ _ _); first | with_reducible refine Gd.t ?_ | with_reducible refine Gd.f ?_ | with_reducible refine Gd.dec (fun _ => ?_) (fun _ => ?_) | with_reducible refine Gd.beq (fun _ => ?_) (fun _ => ?_) | with_reducible refine Gd.bne (fun _ => ?_) (fun _ => ?_) | with_reducible refine Gd.not ?_ | refine Gd.t ?_ | refine Gd.f ?_ | with_reducible refine Gd.var (fun _ => ?_) (fun _ => ?_)) <;> first | (exfalso; omega) | skip) | with_reducible refine Sq.mk ?_ | ((with_reducible show Ld1 _ _ _); first | refine Ld1.h H ?_ | refine Ld1.rF ?_ | refine Ld1.r ?_) | ((with_reducible show Ld _ _ _ _); first | refine Ld.h H ?_ | refine Ld.r ?_) | ((with_reducible show Ix _ _ _ _ _); (first | refine Ix.h ?_ | refine Ix.ha ?_)) | (refine Al.hp H ?_; clear H; intro _ _ H _) | (refine St.h H ?_; clear H; intro _ H))
  refine Lp.g0 T.ok (σ := Nat) (fun i => [(12, .int .i64 (i : Int)), (10, .pointer (some ⟨p10, 0, none⟩)), (8, .pointer (some ⟨p8, 0, none⟩)), (6, .slice (some ⟨pl, 0, none⟩) (l.length + 2) (l.length + 2)), (5, .int .i64 (l.length : Int)), (3, .pointer (some ⟨p3, 0, none⟩)), (0, .slice A l.length c)])
    (fun i w' => i ≤ L1.length ∧ Hp nw w w' (cdq ((oddL 0 L1).take i ++ L1.drop i) :: bk p8 46 (pv B1 L1.length c1).cells.toList :: qu FE.enc 4 24 B1 c1 L1 :: R)) (fun i _ => L1.length - i) 0 rfl ⟨rfl, rfl, rfl, rfl, rfl, rfl, rfl, trivial⟩ ⟨Nat.zero_le _, H⟩ ?_
  clear H
  rintro i w5 ⟨hi, H⟩
  by_cases hlt : i < L1.length
  · obtain ⟨x, hx⟩ : ∃ x, L1[i]? = some x := ⟨_, List.getElem?_eq_getElem hlt⟩
    obtain ⟨hd, _⟩ := split_at hx
    have hod := (split_at (oddL_at (i := 0) hx)).2
    rw [Nat.zero_add] at hod
    have hxc := (hs1c x (List.mem_of_getElem? hx)).2
    rw [hd] at H
    replace H := Hp.cdqO (f := x.1) (A := x.2.1) (c := x.2.2) H
    have hB5 : RdS FE.enc 4 w5 B1 L1 := H.rdq 3 rfl
    repeat' ((conv => whnf); first | (((with_reducible show Gd _ _ _); first | with_reducible refine Gd.t ?_ | with_reducible refine Gd.f ?_ | with_reducible refine Gd.dec (fun _ => ?_) (fun _ => ?_) | with_reducible refine Gd.beq (fun _ => ?_) (fun _ => ?_) | with_reducible refine Gd.bne (fun _ => ?_) (fun _ => ?_) | with_reducible refine Gd.not ?_ | refine Gd.t ?_ | refine Gd.f ?_ | with_reducible refine Gd.var (fun _ => ?_) (fun _ => ?_)) <;> first | (exfalso; omega) | skip) | with_reducible refine Sq.mk ?_ | ((with_reducible show Ld1 _ _ _); first | refine Ld1.h H ?_ | refine Ld1.rF ?_ | refine Ld1.r ?_) | ((with_reducible show Ld _ _ _ _); first | refine Ld.h H ?_ | refine Ld.r ?_) | ((with_reducible show Ix _ _ _ _ _); (first | refine Ix.h ?_ | refine Ix.ha ?_)) | (refine Al.hp H ?_; clear H; intro _ _ H _) | (refine St.h H ?_; clear H; intro _ H))
    all_goals first | (exfalso; omega) | skip
    clear hB5
    refine Lp.g0 T.ok (σ := Nat × List Ins) (fun q => [(13, .int .i64 (q.1 : Int)), (12, .int .i64 (i : Int)), (10, .pointer (some ⟨p10, 0, none⟩)), (8, .pointer (some ⟨p8, 0, none⟩)), (6, .slice (some ⟨pl, 0, none⟩) (l.length + 2) (l.length + 2)), (5, .int .i64 (l.length : Int)), (3, .pointer (some ⟨p3, 0, none⟩)), (0, .slice A l.length c)])
      (fun q w' => q.1 ≤ x.1.code.length ∧ q.2.length = x.1.code.length ∧ q.2.take q.1 = (oddC i x.1.code.length).take q.1 ∧ Hp nw w w' (qu Ins.enc 5 35 x.2.1 x.2.2 q.2 :: cdq ((oddL 0 L1).take i ++ L1.drop (i + 1)) :: bk p8 46 (pv B1 L1.length c1).cells.toList :: qu FE.enc 4 24 B1 c1 L1 :: R)) (fun q _ => x.1.code.length - q.1) (0, x.1.code) rfl ⟨rfl, rfl, rfl, rfl, rfl, rfl, rfl, rfl, trivial⟩ ⟨Nat.zero_le _, rfl, by simp, H⟩ ?_
    clear H
    rintro ⟨k, C⟩ w6 ⟨hk, hCl, hCt, H⟩
    simp only at hk hCl hCt H ⊢
    have hB5 : RdS FE.enc 4 w6 B1 L1 := H.rdq 3 rfl
    have hC5 : RdS Ins.enc 5 w6 x.2.1 C := H.rdq 0 rfl
    by_cases hkl : k < x.1.code.length
    · have hkC : k < C.length := by omega
      have hwik : IntKind.i64.wrap ((i : Int) + (k : Int)) = ((i + k : Nat) : Int) := w64 (by omega) (by omega) (by omega)
      have hodd : ∀ w', Cl Tryd.prog 23 #[.int .i64 (IntKind.i64.wrap ((i : Int) + (k : Int)))] w' (fun v w'' => v = (oddI ((i + k : Nat) : Int)).v ∧ Ext w' w'') (fun _ _ => False) := fun w' => by rw [hwik]; exact odd_w _ _ (by omega)
      repeat' ((conv => whnf); first | (((with_reducible show Gd _ _ _); first | with_reducible refine Gd.t ?_ | with_reducible refine Gd.f ?_ | with_reducible refine Gd.dec (fun _ => ?_) (fun _ => ?_) | with_reducible refine Gd.beq (fun _ => ?_) (fun _ => ?_) | with_reducible refine Gd.bne (fun _ => ?_) (fun _ => ?_) | with_reducible refine Gd.not ?_ | refine Gd.t ?_ | refine Gd.f ?_ | with_reducible refine Gd.var (fun _ => ?_) (fun _ => ?_)) <;> first | (exfalso; omega) | skip) | with_reducible refine Sq.mk ?_ | ((with_reducible show Ld1 _ _ _); first | refine Ld1.h H ?_ | refine Ld1.rF ?_ | refine Ld1.r ?_) | ((with_reducible show Ld _ _ _ _); first | refine Ld.h H ?_ | refine Ld.r ?_) | ((with_reducible show Ix _ _ _ _ _); (first | refine Ix.h ?_ | refine Ix.ha ?_)) | (refine Al.hp H ?_; clear H; intro _ _ H _) | (refine St.h H ?_; clear H; intro _ H))
      all_goals first | (exfalso; omega) | skip
      (conv => whnf)
      refine Dr.ch T.ok mixed [0, 1, 2, 3, 4, 5, 6, 7, 8, 9, 11] [10, 12] (by kernel_rfl) rfl rfl (fun w' => Blk w' p8 46 (pv B1 L1.length c1).cells.toList ∧ RdS FE.enc 4 w' B1 L1) (fun w1 eT _ => ?_)
      replace H := H.ext eT
      repeat' ((conv => whnf); first | (first | refine Ix.h ?_ | refine Ix.ha ?_) | refine QLd1.own (fun _ hw => hw.1) ?_ | refine QLd1.rswF (fun _ hw => hw.2) ?_)
      (conv => whnf)
      refine ⟨⟨H.blk 2 rfl, H.rdq 3 rfl⟩, ?_⟩
      (((conv => whnf); refine Cl.mk (hodd _) ?_); rintro _ _ ⟨rfl, hx⟩; replace H := H.ext hx; clear hx)
      (conv => whnf)
      refine ⟨⟨H.blk 2 rfl, H.rdq 3 rfl⟩, ?_⟩
      refine St.elq (enc := Ins.enc) (l := C) (c := x.2.2) (x := oddI ((i + k : Nat) : Int)) H rfl hkC rfl (fun w' H => ?_)
      simp only [List.nil_append] at H
      clear hB5 hC5
      repeat' ((conv => whnf); first | (((with_reducible show Gd _ _ _); first | with_reducible refine Gd.t ?_ | with_reducible refine Gd.f ?_ | with_reducible refine Gd.dec (fun _ => ?_) (fun _ => ?_) | with_reducible refine Gd.beq (fun _ => ?_) (fun _ => ?_) | with_reducible refine Gd.bne (fun _ => ?_) (fun _ => ?_) | with_reducible refine Gd.not ?_ | refine Gd.t ?_ | refine Gd.f ?_ | with_reducible refine Gd.var (fun _ => ?_) (fun _ => ?_)) <;> first | (exfalso; omega) | skip) | with_reducible refine Sq.mk ?_ | ((with_reducible show Ld1 _ _ _); first | refine Ld1.h H ?_ | refine Ld1.rF ?_ | refine Ld1.r ?_) | ((with_reducible show Ld _ _ _ _); first | refine Ld.h H ?_ | refine Ld.r ?_) | ((with_reducible show Ix _ _ _ _ _); (first | refine Ix.h ?_ | refine Ix.ha ?_)) | (refine Al.hp H ?_; clear H; intro _ _ H _) | (refine St.h H ?_; clear H; intro _ H))
      refine ⟨(k + 1, C.set k (oddI ((i + k : Nat) : Int))), ⟨at_int (m := ((k + 1 : Nat) : Int)) rfl (w64 (by simp) (by omega) (by omega)), rfl, rfl, rfl, rfl, rfl, rfl, rfl, trivial⟩, rfl, ⟨by simp only; omega, by simpa using hCl, ?_, H⟩, by simp only; omega⟩
      have hok := oddC_at (i := i) hkl
      rw [(split_at hok).2, List.take_succ_eq_append_getElem (by simp; omega), List.take_set_of_le (Nat.le_refl _), hCt]
      simp
    · have hk : k = x.1.code.length := by omega
      rw [hk, List.take_of_length_le (by omega), List.take_of_length_le (by rw [oddC_len]; exact Nat.le_refl _)] at hCt
      subst hCt
      repeat' ((conv => whnf); first | (((with_reducible show Gd _ _ _); first | with_reducible refine Gd.t ?_ | with_reducible refine Gd.f ?_ | with_reducible refine Gd.dec (fun _ => ?_) (fun _ => ?_) | with_reducible refine Gd.beq (fun _ => ?_) (fun _ => ?_) | with_reducible refine Gd.bne (fun _ => ?_) (fun _ => ?_) | with_reducible refine Gd.not ?_ | refine Gd.t ?_ | refine Gd.f ?_ | with_reducible refine Gd.var (fun _ => ?_) (fun _ => ?_)) <;> first | (exfalso; omega) | skip) | with_reducible refine Sq.mk ?_ | ((with_reducible show Ld1 _ _ _); first | refine Ld1.h H ?_ | refine Ld1.rF ?_ | refine Ld1.r ?_) | ((with_reducible show Ld _ _ _ _); first | refine Ld.h H ?_ | refine Ld.r ?_) | ((with_reducible show Ix _ _ _ _ _); (first | refine Ix.h ?_ | refine Ix.ha ?_)) | (refine Al.hp H ?_; clear H; intro _ _ H _) | (refine St.h H ?_; clear H; intro _ H))
      refine ⟨i + 1, ⟨at_int (m := ((i + 1 : Nat) : Int)) rfl (w64 (by simp) (by omega) (by omega)), rfl, rfl, rfl, rfl, rfl, rfl, trivial⟩, rfl, ⟨by omega, ?_⟩, by omega⟩
      rw [hod, List.append_assoc]
      exact Hp.cdqI (f := ⟨x.1.params, x.1.regs, x.1.slots, oddC i x.1.code.length⟩) (A := x.2.1) (c := x.2.2) H
  have hi : i = L1.length := by omega
  subst hi
  have hom : (oddL 0 L1).take L1.length ++ L1.drop L1.length = oddL 0 L1 := by
    rw [List.drop_length, List.append_nil, List.take_of_length_le (by rw [oddL_len]; exact Nat.le_refl _)]
  rw [hom] at H
  have hMl := oddL_len 0 L1
  have hMa : ∀ (j : Nat) (x : FE), L1[j]? = some x → (oddL 0 L1)[j]? = some (oddE j x) := fun j x h => by
    have := oddL_at (i := 0) h
    rwa [Nat.zero_add] at this
  generalize oddL 0 L1 = M at *
  clear hom hlt hi
  replace H := Hp.cds0 H
  repeat' ((conv => whnf); first | (((with_reducible show Gd _ _ _); first | with_reducible refine Gd.t ?_ | with_reducible refine Gd.f ?_ | with_reducible refine Gd.dec (fun _ => ?_) (fun _ => ?_) | with_reducible refine Gd.beq (fun _ => ?_) (fun _ => ?_) | with_reducible refine Gd.bne (fun _ => ?_) (fun _ => ?_) | with_reducible refine Gd.not ?_ | refine Gd.t ?_ | refine Gd.f ?_ | with_reducible refine Gd.var (fun _ => ?_) (fun _ => ?_)) <;> first | (exfalso; omega) | skip) | with_reducible refine Sq.mk ?_ | ((with_reducible show Ld1 _ _ _); first | refine Ld1.h H ?_ | refine Ld1.rF ?_ | refine Ld1.r ?_) | ((with_reducible show Ld _ _ _ _); first | refine Ld.h H ?_ | refine Ld.r ?_) | ((with_reducible show Ix _ _ _ _ _); (first | refine Ix.h ?_ | refine Ix.ha ?_)) | (refine Al.hp H ?_; clear H; intro _ _ H _) | (refine St.h H ?_; clear H; intro _ H))
  -- the appends
  refine Lp.g0 T.ok (σ := Nat) (fun i => [(14, .int .i64 (i : Int)), (10, .pointer (some ⟨p10, 0, none⟩)), (8, .pointer (some ⟨p8, 0, none⟩)), (6, .slice (some ⟨pl, 0, none⟩) (l.length + 2) (l.length + 2)), (5, .int .i64 (l.length : Int)), (3, .pointer (some ⟨p3, 0, none⟩)), (0, .slice A l.length c)])
    (fun i w' => i ≤ L1.length ∧ Hp nw w w' (cds (M.take i) :: cdq (M.drop i) :: bk p8 46 (pv B1 L1.length c1).cells.toList :: qu FE.enc 4 24 B1 c1 L1 :: R)) (fun i _ => L1.length - i) 0 rfl ⟨rfl, rfl, rfl, rfl, rfl, rfl, rfl, trivial⟩ ⟨Nat.zero_le _, H⟩ ?_
  clear H
  rintro i w5 ⟨hi, H⟩
  by_cases hlt : i < L1.length
  · obtain ⟨x, hx⟩ : ∃ x, L1[i]? = some x := ⟨_, List.getElem?_eq_getElem hlt⟩
    obtain ⟨hd, ht⟩ := split_at (hMa i x hx)
    have hxc := (hs1c x (List.mem_of_getElem? hx)).2
    rw [hd] at H
    replace H := Hp.gq0 (Hp.cdqO (L1 := []) (f := (oddE i x).1) (A := x.2.1) (c := x.2.2) (Hp.swap H))
    replace H := H.perm (List.Perm.cons _ (List.Perm.swap _ _ _))
    have hB5 : RdS FE.enc 4 w5 B1 L1 := H.rdq 4 rfl
    repeat' ((conv => whnf); first | (((with_reducible show Gd _ _ _); first | with_reducible refine Gd.t ?_ | with_reducible refine Gd.f ?_ | with_reducible refine Gd.dec (fun _ => ?_) (fun _ => ?_) | with_reducible refine Gd.beq (fun _ => ?_) (fun _ => ?_) | with_reducible refine Gd.bne (fun _ => ?_) (fun _ => ?_) | with_reducible refine Gd.not ?_ | refine Gd.t ?_ | refine Gd.f ?_ | with_reducible refine Gd.var (fun _ => ?_) (fun _ => ?_)) <;> first | (exfalso; omega) | skip) | with_reducible refine Sq.mk ?_ | ((with_reducible show Ld1 _ _ _); first | refine Ld1.h H ?_ | refine Ld1.rF ?_ | refine Ld1.r ?_) | ((with_reducible show Ld _ _ _ _); first | refine Ld.h H ?_ | refine Ld.r ?_) | ((with_reducible show Ix _ _ _ _ _); (first | refine Ix.h ?_ | refine Ix.ha ?_)) | (refine Al.hp H ?_; clear H; intro _ _ H _) | (refine St.h H ?_; clear H; intro _ H))
    all_goals first | (exfalso; omega) | skip
    clear hB5
    have hol : (oddE i x).1.code.length = x.1.code.length := oddC_len _ _
    have hw64 : IntKind.i64.wrap ((x.1.code.length : Int) + 64) = ((x.1.code.length + 64 : Nat) : Int) := w64 (by omega) (by omega) (by omega)
    refine Lp.g0 T.ok (σ := Nat × Option Addr × Nat × List Ins) (fun q => [(16, .int .i64 (q.1 : Int)), (15, .slice q.2.1 q.2.2.2.length q.2.2.1), (14, .int .i64 (i : Int)), (10, .pointer (some ⟨p10, 0, none⟩)), (8, .pointer (some ⟨p8, 0, none⟩)), (6, .slice (some ⟨pl, 0, none⟩) (l.length + 2) (l.length + 2)), (5, .int .i64 (l.length : Int)), (3, .pointer (some ⟨p3, 0, none⟩)), (0, .slice A l.length c)])
      (fun q w' => q.1 ≤ 64 ∧ q.2.2.2.length = x.1.code.length + q.1 ∧ Hp nw w w' (gq Ins.enc 5 35 x.2.1 (oddE i x).1.code q.2.1 q.2.2.1 q.2.2.2 :: cds (M.take i) :: cdq ([] ++ M.drop (i + 1)) :: bk p8 46 (pv B1 L1.length c1).cells.toList :: qu FE.enc 4 24 B1 c1 L1 :: R)) (fun q _ => 64 - q.1) (0, x.2.1, x.2.2, (oddE i x).1.code) rfl ⟨rfl, at_val rfl (by rw [hol]), rfl, rfl, rfl, rfl, rfl, rfl, rfl, trivial⟩ ⟨Nat.zero_le _, hol, H⟩ ?_
    clear H
    rintro ⟨k, A2, d2, l2⟩ w6 ⟨hk, hl2, H⟩
    simp only at hk hl2 H ⊢
    by_cases hkl : k < 64
    · repeat' (first | ((conv => whnf); first | (((with_reducible show Gd _ _ _); first | with_reducible refine Gd.t ?_ | with_reducible refine Gd.f ?_ | with_reducible refine Gd.dec (fun _ => ?_) (fun _ => ?_) | with_reducible refine Gd.beq (fun _ => ?_) (fun _ => ?_) | with_reducible refine Gd.bne (fun _ => ?_) (fun _ => ?_) | with_reducible refine Gd.not ?_ | refine Gd.t ?_ | refine Gd.f ?_ | with_reducible refine Gd.var (fun _ => ?_) (fun _ => ?_)) <;> first | (exfalso; omega) | skip) | with_reducible refine Sq.mk ?_ | ((with_reducible show Ld1 _ _ _); first | refine Ld1.h H ?_ | refine Ld1.rF ?_ | refine Ld1.r ?_) | ((with_reducible show Ld _ _ _ _); first | refine Ld.h H ?_ | refine Ld.r ?_) | ((with_reducible show Ix _ _ _ _ _); (first | refine Ix.h ?_ | refine Ix.ha ?_)) | (refine Al.hp H ?_; clear H; intro _ _ H _) | (refine St.h H ?_; clear H; intro _ H)) | (((conv => whnf); refine Cl.mk (odd_w (-1) _ (by omega)) ?_); rintro _ _ ⟨rfl, hx⟩; replace H := H.ext hx; clear hx))
      refine Sm.lith (cs := Ins.enc (oddI (-1))) H T.ok (fun p5 w2 H _ => ?_)
      refine Sm.apg (enc := Ins.enc) (oddI (-1)) H T.ok ?_ ?_ (fun A3 d3 w3 H => ?_) rfl
      · show (l2.length + 1) * 40 ≤ _; omega
      · omega
      repeat' ((conv => whnf); first | (((with_reducible show Gd _ _ _); first | with_reducible refine Gd.t ?_ | with_reducible refine Gd.f ?_ | with_reducible refine Gd.dec (fun _ => ?_) (fun _ => ?_) | with_reducible refine Gd.beq (fun _ => ?_) (fun _ => ?_) | with_reducible refine Gd.bne (fun _ => ?_) (fun _ => ?_) | with_reducible refine Gd.not ?_ | refine Gd.t ?_ | refine Gd.f ?_ | with_reducible refine Gd.var (fun _ => ?_) (fun _ => ?_)) <;> first | (exfalso; omega) | skip) | with_reducible refine Sq.mk ?_ | ((with_reducible show Ld1 _ _ _); first | refine Ld1.h H ?_ | refine Ld1.rF ?_ | refine Ld1.r ?_) | ((with_reducible show Ld _ _ _ _); first | refine Ld.h H ?_ | refine Ld.r ?_) | ((with_reducible show Ix _ _ _ _ _); (first | refine Ix.h ?_ | refine Ix.ha ?_)) | (refine Al.hp H ?_; clear H; intro _ _ H _) | (refine St.h H ?_; clear H; intro _ H))
      exact ⟨(k + 1, A3, d3, l2 ++ [oddI (-1)]), ⟨at_int (m := ((k + 1 : Nat) : Int)) rfl (w64 (by simp) (by omega) (by omega)), at_val rfl (by simp), rfl, rfl, rfl, rfl, rfl, rfl, rfl, trivial⟩, rfl, ⟨by simp only; omega, by simp; omega, H⟩, by simp only; omega⟩
    · have hk : k = 64 := by omega
      subst hk
      have hB5 : RdS FE.enc 4 w6 B1 L1 := H.rdq 4 rfl
      repeat' ((conv => whnf); first | (((with_reducible show Gd _ _ _); first | with_reducible refine Gd.t ?_ | with_reducible refine Gd.f ?_ | with_reducible refine Gd.dec (fun _ => ?_) (fun _ => ?_) | with_reducible refine Gd.beq (fun _ => ?_) (fun _ => ?_) | with_reducible refine Gd.bne (fun _ => ?_) (fun _ => ?_) | with_reducible refine Gd.not ?_ | refine Gd.t ?_ | refine Gd.f ?_ | with_reducible refine Gd.var (fun _ => ?_) (fun _ => ?_)) <;> first | (exfalso; omega) | skip) | with_reducible refine Sq.mk ?_ | ((with_reducible show Ld1 _ _ _); first | refine Ld1.h H ?_ | refine Ld1.rF ?_ | refine Ld1.r ?_) | ((with_reducible show Ld _ _ _ _); first | refine Ld.h H ?_ | refine Ld.r ?_) | ((with_reducible show Ix _ _ _ _ _); (first | refine Ix.h ?_ | refine Ix.ha ?_)) | (refine Al.hp H ?_; clear H; intro _ _ H _) | (refine St.h H ?_; clear H; intro _ H))
      all_goals first | (exfalso; omega) | skip
      refine ⟨i + 1, ⟨at_int (m := ((i + 1 : Nat) : Int)) rfl (w64 (by simp) (by omega) (by omega)), rfl, rfl, rfl, rfl, rfl, rfl, trivial⟩, rfl, ⟨by omega, ?_⟩, by omega⟩
      rw [ht]
      exact Hp.cdsF (x := oddE i x) H
  have hi : i = L1.length := by omega
  subst hi
  rw [List.take_of_length_le (by omega)] at H
  clear hlt hi
  repeat' ((conv => whnf); first | (((with_reducible show Gd _ _ _); first | with_reducible refine Gd.t ?_ | with_reducible refine Gd.f ?_ | with_reducible refine Gd.dec (fun _ => ?_) (fun _ => ?_) | with_reducible refine Gd.beq (fun _ => ?_) (fun _ => ?_) | with_reducible refine Gd.bne (fun _ => ?_) (fun _ => ?_) | with_reducible refine Gd.not ?_ | refine Gd.t ?_ | refine Gd.f ?_ | with_reducible refine Gd.var (fun _ => ?_) (fun _ => ?_)) <;> first | (exfalso; omega) | skip) | with_reducible refine Sq.mk ?_ | ((with_reducible show Ld1 _ _ _); first | refine Ld1.h H ?_ | refine Ld1.rF ?_ | refine Ld1.r ?_) | ((with_reducible show Ld _ _ _ _); first | refine Ld.h H ?_ | refine Ld.r ?_) | ((with_reducible show Ix _ _ _ _ _); (first | refine Ix.h ?_ | refine Ix.ha ?_)) | (refine Al.hp H ?_; clear H; intro _ _ H _) | (refine St.h H ?_; clear H; intro _ H))
  -- they are as they were written
  refine Lp.g0 T.ok (σ := Nat) (fun i => [(17, .int .i64 (i : Int)), (10, .pointer (some ⟨p10, 0, none⟩)), (8, .pointer (some ⟨p8, 0, none⟩)), (6, .slice (some ⟨pl, 0, none⟩) (l.length + 2) (l.length + 2)), (5, .int .i64 (l.length : Int)), (3, .pointer (some ⟨p3, 0, none⟩)), (0, .slice A l.length c)])
    (fun i w' => i ≤ L1.length ∧ Hp nw w w' (cds M :: cdq (M.drop L1.length) :: bk p8 46 (pv B1 L1.length c1).cells.toList :: qu FE.enc 4 24 B1 c1 L1 :: R)) (fun i _ => L1.length - i) 0 rfl ⟨rfl, rfl, rfl, rfl, rfl, rfl, rfl, trivial⟩ ⟨Nat.zero_le _, H⟩ ?_
  clear H
  rintro i w5 ⟨hi, H⟩
  by_cases hlt : i < L1.length
  · obtain ⟨x, hx⟩ : ∃ x, L1[i]? = some x := ⟨_, List.getElem?_eq_getElem hlt⟩
    have hxc := (hs1c x (List.mem_of_getElem? hx)).2
    have hMx := List.mem_of_getElem? (hMa i x hx)
    have hB5 : RdS FE.enc 4 w5 B1 L1 := H.rdq 3 rfl
    repeat' ((conv => whnf); first | (((with_reducible show Gd _ _ _); first | with_reducible refine Gd.t ?_ | with_reducible refine Gd.f ?_ | with_reducible refine Gd.dec (fun _ => ?_) (fun _ => ?_) | with_reducible refine Gd.beq (fun _ => ?_) (fun _ => ?_) | with_reducible refine Gd.bne (fun _ => ?_) (fun _ => ?_) | with_reducible refine Gd.not ?_ | refine Gd.t ?_ | refine Gd.f ?_ | with_reducible refine Gd.var (fun _ => ?_) (fun _ => ?_)) <;> first | (exfalso; omega) | skip) | with_reducible refine Sq.mk ?_ | ((with_reducible show Ld1 _ _ _); first | refine Ld1.h H ?_ | refine Ld1.rF ?_ | refine Ld1.r ?_) | ((with_reducible show Ld _ _ _ _); first | refine Ld.h H ?_ | refine Ld.r ?_) | ((with_reducible show Ix _ _ _ _ _); (first | refine Ix.h ?_ | refine Ix.ha ?_)) | (refine Al.hp H ?_; clear H; intro _ _ H _) | (refine St.h H ?_; clear H; intro _ H))
    all_goals first | (exfalso; omega) | skip
    clear hB5
    refine Lp.g0 T.ok (σ := Nat) (fun k => [(18, .int .i64 (k : Int)), (17, .int .i64 (i : Int)), (10, .pointer (some ⟨p10, 0, none⟩)), (8, .pointer (some ⟨p8, 0, none⟩)), (6, .slice (some ⟨pl, 0, none⟩) (l.length + 2) (l.length + 2)), (5, .int .i64 (l.length : Int)), (3, .pointer (some ⟨p3, 0, none⟩)), (0, .slice A l.length c)])
      (fun k w' => k ≤ x.1.code.length ∧ Hp nw w w' (cds M :: cdq (M.drop L1.length) :: bk p8 46 (pv B1 L1.length c1).cells.toList :: qu FE.enc 4 24 B1 c1 L1 :: R)) (fun k _ => x.1.code.length - k) 0 rfl ⟨rfl, rfl, rfl, rfl, rfl, rfl, rfl, rfl, trivial⟩ ⟨Nat.zero_le _, H⟩ ?_
    clear H
    rintro k w6 ⟨hk, H⟩
    have hB5 : RdS FE.enc 4 w6 B1 L1 := H.rdq 3 rfl
    have hC5 : RdS Ins.enc 5 w6 x.2.1 (oddC i x.1.code.length) := (H.atC (c := cds M) 0 rfl) _ hMx
    have hcl := oddC_len i x.1.code.length
    by_cases hkl : k < x.1.code.length
    · have hck := oddC_at (i := i) hkl
      have hwik : IntKind.i64.wrap ((i : Int) + (k : Int)) = ((i + k : Nat) : Int) := w64 (by omega) (by omega) (by omega)
      have hodd : ∀ w', Cl Tryd.prog 23 #[.int .i64 (IntKind.i64.wrap ((i : Int) + (k : Int)))] w' (fun v w'' => v = (oddI ((i + k : Nat) : Int)).v ∧ Ext w' w'') (fun _ _ => False) := fun w' => by rw [hwik]; exact odd_w _ _ (by omega)
      have hkC : k < (oddC i x.1.code.length).length := by omega
      repeat' ((conv => whnf); first | (((with_reducible show Gd _ _ _); first | with_reducible refine Gd.t ?_ | with_reducible refine Gd.f ?_ | with_reducible refine Gd.dec (fun _ => ?_) (fun _ => ?_) | with_reducible refine Gd.beq (fun _ => ?_) (fun _ => ?_) | with_reducible refine Gd.bne (fun _ => ?_) (fun _ => ?_) | with_reducible refine Gd.not ?_ | refine Gd.t ?_ | refine Gd.f ?_ | with_reducible refine Gd.var (fun _ => ?_) (fun _ => ?_)) <;> first | (exfalso; omega) | skip) | with_reducible refine Sq.mk ?_ | ((with_reducible show Ld1 _ _ _); first | refine Ld1.h H ?_ | refine Ld1.rF ?_ | refine Ld1.r ?_) | ((with_reducible show Ld _ _ _ _); first | refine Ld.h H ?_ | refine Ld.r ?_) | ((with_reducible show Ix _ _ _ _ _); (first | refine Ix.h ?_ | refine Ix.ha ?_)) | (refine Al.hp H ?_; clear H; intro _ _ H _) | (refine St.h H ?_; clear H; intro _ H))
      all_goals first | (exfalso; omega) | skip
      ((conv => whnf); refine Dr.quiet T.ok mixed (by kernel_rfl) (fun W hW => ?_))
      repeat' (first | ((conv => whnf); first | (((with_reducible show Gd _ _ _); first | with_reducible refine Gd.t ?_ | with_reducible refine Gd.f ?_ | with_reducible refine Gd.dec (fun _ => ?_) (fun _ => ?_) | with_reducible refine Gd.beq (fun _ => ?_) (fun _ => ?_) | with_reducible refine Gd.bne (fun _ => ?_) (fun _ => ?_) | with_reducible refine Gd.not ?_ | refine Gd.t ?_ | refine Gd.f ?_ | with_reducible refine Gd.var (fun _ => ?_) (fun _ => ?_)) <;> first | (exfalso; omega) | skip) | ((with_reducible show QLd1 _ _ _); first | refine QLd1.h hW H ?_ | refine QLd1.rF hW ?_ | refine QLd1.r hW ?_) | ((with_reducible show QLd _ _ _ _); first | refine QLd.h hW H ?_ | refine QLd.r hW ?_) | ((with_reducible show Ix _ _ _ _ _); (first | refine Ix.h ?_ | refine Ix.ha ?_))) | ((conv => whnf); refine QCl.mk hW (fun _ ee => Cl.mk (hodd _) (fun _ _ h => h)) ?_))
      (intro _ eT; replace H := H.ext eT; clear hW eT)
      clear hB5 hC5
      repeat' ((conv => whnf); first | (((with_reducible show Gd _ _ _); first | with_reducible refine Gd.t ?_ | with_reducible refine Gd.f ?_ | with_reducible refine Gd.dec (fun _ => ?_) (fun _ => ?_) | with_reducible refine Gd.beq (fun _ => ?_) (fun _ => ?_) | with_reducible refine Gd.bne (fun _ => ?_) (fun _ => ?_) | with_reducible refine Gd.not ?_ | refine Gd.t ?_ | refine Gd.f ?_ | with_reducible refine Gd.var (fun _ => ?_) (fun _ => ?_)) <;> first | (exfalso; omega) | skip) | with_reducible refine Sq.mk ?_ | ((with_reducible show Ld1 _ _ _); first | refine Ld1.h H ?_ | refine Ld1.rF ?_ | refine Ld1.r ?_) | ((with_reducible show Ld _ _ _ _); first | refine Ld.h H ?_ | refine Ld.r ?_) | ((with_reducible show Ix _ _ _ _ _); (first | refine Ix.h ?_ | refine Ix.ha ?_)) | (refine Al.hp H ?_; clear H; intro _ _ H _) | (refine St.h H ?_; clear H; intro _ H))
      all_goals first | (exfalso; rename_i hh; simp at hh; done) | skip
      exact ⟨k + 1, ⟨at_int (m := ((k + 1 : Nat) : Int)) rfl (w64 (by simp) (by omega) (by omega)), rfl, rfl, rfl, rfl, rfl, rfl, rfl, trivial⟩, rfl, ⟨by omega, H⟩, by omega⟩
    · repeat' ((conv => whnf); first | (((with_reducible show Gd _ _ _); first | with_reducible refine Gd.t ?_ | with_reducible refine Gd.f ?_ | with_reducible refine Gd.dec (fun _ => ?_) (fun _ => ?_) | with_reducible refine Gd.beq (fun _ => ?_) (fun _ => ?_) | with_reducible refine Gd.bne (fun _ => ?_) (fun _ => ?_) | with_reducible refine Gd.not ?_ | refine Gd.t ?_ | refine Gd.f ?_ | with_reducible refine Gd.var (fun _ => ?_) (fun _ => ?_)) <;> first | (exfalso; omega) | skip) | with_reducible refine Sq.mk ?_ | ((with_reducible show Ld1 _ _ _); first | refine Ld1.h H ?_ | refine Ld1.rF ?_ | refine Ld1.r ?_) | ((with_reducible show Ld _ _ _ _); first | refine Ld.h H ?_ | refine Ld.r ?_) | ((with_reducible show Ix _ _ _ _ _); (first | refine Ix.h ?_ | refine Ix.ha ?_)) | (refine Al.hp H ?_; clear H; intro _ _ H _) | (refine St.h H ?_; clear H; intro _ H))
      all_goals first | (exfalso; omega) | skip
      exact ⟨i + 1, ⟨at_int (m := ((i + 1 : Nat) : Int)) rfl (w64 (by simp) (by omega) (by omega)), rfl, rfl, rfl, rfl, rfl, rfl, trivial⟩, rfl, ⟨by omega, H⟩, by omega⟩
  have hi : i = L1.length := by omega
  subst hi
  clear hlt hi
  subst hR
  have esw : decide (l = l) = true := decide_eq_true rfl
  have hll5 : (l ++ [123, 456] : List Int).length = l.length + 2 := by simp
  have hg1 : (l ++ [123, 456] : List Int)[l.length]? = some 123 := by rw [List.getElem?_append_right (Nat.le_refl _)]; simp
  have hg2 : (l ++ [123, 456] : List Int)[l.length + 1]? = some 456 := by rw [List.getElem?_append_right (by omega)]; simp
  have hi1 : l.length < (l ++ [123, 456] : List Int).length := by omega
  have hi2 : l.length + 1 < (l ++ [123, 456] : List Int).length := by omega
  repeat' (first | ((conv => whnf); first | (((with_reducible show Gd _ _ _); first | with_reducible refine Gd.t ?_ | with_reducible refine Gd.f ?_ | with_reducible refine Gd.dec (fun _ => ?_) (fun _ => ?_) | with_reducible refine Gd.beq (fun _ => ?_) (fun _ => ?_) | with_reducible refine Gd.bne (fun _ => ?_) (fun _ => ?_) | with_reducible refine Gd.not ?_ | refine Gd.t ?_ | refine Gd.f ?_ | with_reducible refine Gd.var (fun _ => ?_) (fun _ => ?_)) <;> first | (exfalso; omega) | skip) | with_reducible refine Sq.mk ?_ | ((with_reducible show Ld1 _ _ _); first | refine Ld1.h H ?_ | refine Ld1.rF ?_ | refine Ld1.r ?_) | ((with_reducible show Ld _ _ _ _); first | refine Ld.h H ?_ | refine Ld.r ?_) | ((with_reducible show Ix _ _ _ _ _); (first | refine Ix.h ?_ | refine Ix.ha ?_)) | (refine Al.hp H ?_; clear H; intro _ _ H _) | (refine St.h H ?_; clear H; intro _ H)) | ((((conv => whnf); refine Cl.mk (same_c B2 B0 L2 L0 c2 c0 _ ⟨H.rdq 5 rfl, H.atC 6 rfl⟩ ⟨H.rdq 9 rfl, H.atC 10 rfl⟩ (by omega) (fun x hx => by have := (hs2c x hx).2; omega)) ?_); rintro _ _ ⟨rfl, hx⟩; replace H := H.ext hx; clear hx); rw [e20]))
  (conv => whnf)
  refine Sm.cutHi (i := l.length) T.ok rfl rfl rfl rfl rfl (by omega) ?_
  repeat' ((conv => whnf); first | (((with_reducible show Gd _ _ _); first | with_reducible refine Gd.t ?_ | with_reducible refine Gd.f ?_ | with_reducible refine Gd.dec (fun _ => ?_) (fun _ => ?_) | with_reducible refine Gd.beq (fun _ => ?_) (fun _ => ?_) | with_reducible refine Gd.bne (fun _ => ?_) (fun _ => ?_) | with_reducible refine Gd.not ?_ | refine Gd.t ?_ | refine Gd.f ?_ | with_reducible refine Gd.var (fun _ => ?_) (fun _ => ?_)) <;> first | (exfalso; omega) | skip) | with_reducible refine Sq.mk ?_ | ((with_reducible show Ld1 _ _ _); first | refine Ld1.h H ?_ | refine Ld1.rF ?_ | refine Ld1.r ?_) | ((with_reducible show Ld _ _ _ _); first | refine Ld.h H ?_ | refine Ld.r ?_) | ((with_reducible show Ix _ _ _ _ _); (first | refine Ix.h ?_ | refine Ix.ha ?_)) | (refine Al.hp H ?_; clear H; intro _ _ H _) | (refine St.h H ?_; clear H; intro _ H))
  (((conv => whnf); refine Cl.mk (sameWords_c (some ⟨pl, 0, none⟩) A (l.length + 2) c l l _ (hRd _ (H.rdq 7 rfl)) (RdS.from H.e hA) (by omega)) ?_); rintro _ _ ⟨rfl, hx⟩; replace H := H.ext hx; clear hx)
  rw [esw]
  have hL5 : RdS ints 1 _ (some ⟨pl, 0, none⟩) (l ++ [123, 456]) := H.rdq 7 rfl
  repeat' (first | ((conv => whnf); first | (((with_reducible show Gd _ _ _); first | with_reducible refine Gd.t ?_ | with_reducible refine Gd.f ?_ | with_reducible refine Gd.dec (fun _ => ?_) (fun _ => ?_) | with_reducible refine Gd.beq (fun _ => ?_) (fun _ => ?_) | with_reducible refine Gd.bne (fun _ => ?_) (fun _ => ?_) | with_reducible refine Gd.not ?_ | refine Gd.t ?_ | refine Gd.f ?_ | with_reducible refine Gd.var (fun _ => ?_) (fun _ => ?_)) <;> first | (exfalso; omega) | skip) | with_reducible refine Sq.mk ?_ | ((with_reducible show Ld1 _ _ _); first | refine Ld1.h H ?_ | refine Ld1.rF ?_ | refine Ld1.r ?_) | ((with_reducible show Ld _ _ _ _); first | refine Ld.h H ?_ | refine Ld.r ?_) | ((with_reducible show Ix _ _ _ _ _); (first | refine Ix.h ?_ | refine Ix.ha ?_)) | (refine Al.hp H ?_; clear H; intro _ _ H _) | (refine St.h H ?_; clear H; intro _ H)) | (((conv => whnf); refine Cl.mk (decodePlaced_c A c l _ (RdS.from H.e hG) (RdS.from H.e hA) hc hl) ?_); rintro _ _ ⟨rfl, hx⟩; replace H := H.ext hx; clear hx))
  all_goals first | (exfalso; omega) | skip
  all_goals exact ⟨rfl, H.e⟩
end Go.Proofs.YtbbadmlekagloaaDoor
namespace Go.Sh
open Go.RowKit Go.ChangeShapes
section
variable {H : Type} {enc : TypeId × Value → H} {P : Program}
theorem sameAt_ext {w w' : World} (e : Ext w w') {p : MemPlace} (h : p.block < w.heap.size) : w.sameAt w' p := by
  cases p with
  | cell b off => exact Below.cell e h
  | map b => exact Below.block e b h
theorem trodAll_ext {w w' : World} (e : Ext w w') {base : Nat} {spare : Nat → Bool} {held : Bool} : ∀ {ts : List TypeId} {vs : List Value} {ds : List (DataW H)} {ps : List MemPlace},
    DataW.TrodAll enc P w base spare held ts vs ds ps → (∀ p ∈ ps, p.block < w.heap.size) → DataW.TrodAll enc P w' base spare held ts vs ds ps
  | [], [], [], _, h, _ => h
  | _ :: _, _ :: _, _ :: _, _, ⟨p, q, ⟨n, hn⟩, h2, he⟩, hlt =>
    ⟨p, q, ⟨n, DataW.trod_carry n _ _ _ hn fun x hx => sameAt_ext e (hlt x (by rw [he]; exact List.mem_append_left _ hx))⟩, trodAll_ext e h2 (fun x hx => hlt x (by rw [he]; exact List.mem_append_right _ hx)), he⟩
theorem keptBut_ext {w w' : World} (e : Ext w w') (may : MemPlace → Prop) : w.keptBut w' may := by
  refine ⟨Below.os e, Below.output e, fun i hi => ?_⟩
  rw [Below.block e i hi]
  cases w.heap[i]? with
  | none => rfl
  | some o => cases o <;> first | exact ⟨rfl, rfl, rfl, fun _ _ => rfl⟩ | exact .inr ⟨rfl, rfl⟩ | rfl
/-- what a law's row asks of a call that answers true and writes over nothing -/
theorem post_kept (K : Kids P (· < P.types.size)) (hz : ∀ t e, t < P.types.size → P.underlying t = some (.slice e) → 0 < P.cellsOf e) {f : Func} {s : ChangeSpec} {apart fresh handsOn : Bool} {W W' : World} {args : Array Value} {ds gs : List (DataW H)} {before : List MemPlace} {t : TypeId}
    (hW : DataW.Whole enc P f.params.toList s.vars apart W args.toList ds gs before) (hts : ∀ t ∈ f.params.toList, t < P.types.size) (hv : s.vars = []) (e : Ext W W')
    (hfn : s.fn H (ds ++ []) = { results := [.lit (.bool true)], args := ds }) (hr : f.resultTypes = #[t]) (ht : P.underlying t = some .bool) :
    s.post enc P f apart fresh handsOn false W args (.bool true) W' := by
  have hlt := hW.lt
  have hW0 := hW
  obtain ⟨p, q, h1, h2, rfl, _⟩ := hW0
  rw [hv] at h2
  obtain ⟨rfl, rfl⟩ := trodVars_none h2
  rw [List.append_nil] at hlt
  refine ⟨ds, [], p ++ [], [], p, [], hW, ?_, ?_, ?_, keptBut_ext e _, fun h => by cases h⟩
  · rw [hfn, hr]
    exact ⟨[], [], shut_bool ht true, rfl, rfl⟩
  · rw [hfn]
    refine DataW.TrodAll.respare K hz hts (trodAll_ext e h1 hlt) fun x hx => ?_
    simpa using hlt x hx
  · rw [hfn, hv]; rfl
theorem cell_lt {w : World} {a : Addr} {v : Value} (h : w.cell? a = some v) : a.block < w.heap.size := by
  unfold World.cell? at h
  split at h
  · rename_i h1
    exact (Array.getElem?_eq_some_iff.1 h1).1
  · simp at h
theorem exists_list {α : Type} {Q : Nat → α → Prop} : ∀ (n : Nat), (∀ i, i < n → ∃ a, Q i a) → ∃ l : List α, l.length = n ∧ ∀ (i : Nat) (a : α), l[i]? = some a → Q i a
  | 0, _ => ⟨[], rfl, fun i a h => by simp at h⟩
  | n + 1, h => by
    obtain ⟨l, h1, h2⟩ := exists_list (Q := Q) n fun i hi => h i (by omega)
    obtain ⟨a, ha⟩ := h n (by omega)
    refine ⟨l ++ [a], by simp [h1], fun i b hb => ?_⟩
    rcases Nat.lt_or_ge i l.length with hl | hl
    · rw [List.getElem?_append_left hl] at hb; exact h2 i b hb
    · have : i = l.length := by have := (List.getElem?_eq_some_iff.1 hb).1; simp at this; omega
      subst this
      simp at hb; subst hb
      rw [h1]; exact ha
variable {w : World} {sp : Nat → Bool} {held : Bool} {fuel : Nat} {t : TypeId} {cs : List Value} {x : DataW H × List MemPlace}
theorem read_int {k : IntKind} (ht : P.underlying t = some (.int k)) (h : DataW.trod enc P w 0 sp held fuel t cs = some x) : ∃ n, cs = [.int k n] ∧ (Lit.int k n).wf = true ∧ x.1 = .lit (.int k n) := by
  cases fuel with
  | zero => simp [DataW.trod] at h
  | succ n =>
    unfold DataW.trod at h
    rw [ht] at h
    simp only at h
    split at h <;> try (rename_i he; simp at he; done)
    all_goals first
      | (rename_i k1 k2 m he
         simp only [Option.some.injEq, TypeDesc.int.injEq] at he
         subst he
         split at h
         · rename_i hc
           obtain ⟨rfl, hw⟩ := hc
           simp at h; subst h
           exact ⟨m, rfl, hw, rfl⟩
         · simp at h)
      | simp at h
theorem read_slice {α : Type} {R : World → α → List Value → Prop} {Q : α → DataW H → Prop} {e : TypeId} {sz : Nat} (ht : P.underlying t = some (.slice e)) (hsz : P.cellsOf e = sz) (hpos : 0 < sz)
    (he : ∀ fuel cs y, DataW.trod enc P w 0 sp held fuel e cs = some y → ∃ a, cs.length = sz ∧ R w a cs ∧ Q a y.1) (h : DataW.trod enc P w 0 sp held fuel t cs = some x) :
    ∃ (A : Option Addr) (l : List α) (c : Nat), cs = [.slice A l.length c] ∧ l.length ≤ c ∧ c ≤ maxLen ∧ (A = none → c = 0) ∧ Rd R sz w w.heap.size A l ∧
      (l = [] ∨ ∃ es rest, x.1 = .slice es rest ∧ es.length = l.length ∧ ∀ (i : Nat) (a : α) (d : DataW H), l[i]? = some a → es[i]? = some d → Q a d) := by
  rcases DataW.trod_slice ht h with ⟨rfl, rfl⟩ | ⟨a, len, cap, elems, rest, n, _, rfl, rfl, _, hl, hm, hlen, hel, _⟩
  · exact ⟨none, [], 0, rfl, by simp, by simp, fun _ => rfl, Rd.nil, .inl rfl⟩
  · rw [hsz] at hel
    obtain ⟨l, h1, h2⟩ := exists_list (Q := fun i (b : α) => ∃ vs, vs.length = sz ∧ w.cells? 0 (a.add (i * sz)) sz = some vs ∧ R w b vs ∧ ∀ d, (elems.map (·.1))[i]? = some d → Q b d) len (fun i hi => by
      have hi' : i < elems.length := by omega
      have := hel i hi
      rw [List.getElem?_eq_getElem hi', Option.bind_eq_some_iff] at this
      obtain ⟨vs, hv, hy⟩ := this
      obtain ⟨b, hb1, hb2, hb3⟩ := he _ _ _ hy
      refine ⟨b, vs, hb1, hv, hb2, fun d hd => ?_⟩
      rw [List.getElem?_map, List.getElem?_eq_getElem hi'] at hd
      simp at hd; subst hd; exact hb3)
    have hcell : ∀ i b, l[i]? = some b → ∃ vs, vs.length = sz ∧ R w b vs ∧ ∀ j v, vs[j]? = some v → w.cell? (a.add (i * sz + j)) = some v := by
      intro i b hb
      obtain ⟨vs, g1, g2, g3, _⟩ := h2 i b hb
      refine ⟨vs, g1, g3, fun j v hv => ?_⟩
      unfold World.cells? at g2
      rw [if_pos (Nat.zero_le _)] at g2
      have hj : j < sz := by have := (List.getElem?_eq_some_iff.1 hv).1; omega
      have := Lib.mapM_at g2 j j (by simp [hj])
      obtain ⟨u, hu1, hu2⟩ := this
      rw [hv] at hu1; simp at hu1; subst hu1
      rw [← add_add]; exact hu2
    refine ⟨some a, l, cap, by rw [h1], by omega, hm, fun h => by simp at h, ⟨fun hn => ⟨by simp, ?_⟩, fun i b hb => hcell i b hb⟩, .inr ⟨elems.map (·.1), rest.map (·.1), rfl, by rw [List.length_map, hlen, h1], fun i b d hb hd => ?_⟩⟩
    · obtain ⟨b, hb⟩ : ∃ b, l[0]? = some b := ⟨l[0]'(List.length_pos_iff.2 hn), List.getElem?_eq_getElem _⟩
      obtain ⟨vs, g1, _, g3⟩ := hcell 0 b hb
      have := g3 0 vs[0] (List.getElem?_eq_getElem (by omega))
      simp only [gA]
      rw [← block_add a (0 * sz + 0)]
      exact cell_lt this
    · obtain ⟨_, _, _, _, g⟩ := h2 i b hb
      exact g d hd
end
end Go.Sh
namespace Go.Proofs.YtbbadmlekagloaaDoor
open Go Go.Sh
attribute [local irreducible] Blk Ext RdS
theorem u_int : Tryd.prog.underlying 3 = some (.int .i64) := (T.ok.1.get (t := 3) (i := T.t3) rfl).1
theorem u_int64 : Tryd.prog.underlying 2 = some (.int .i64) := (T.ok.1.get (t := 2) (i := T.t2) rfl).1
theorem u_ins : Tryd.prog.underlying 35 = some T.t35.desc := (T.ok.1.get (t := 35) rfl).1
theorem u_fun : Tryd.prog.underlying 24 = some T.t24.desc := (T.ok.1.get (t := 24) rfl).1
theorem u_code : Tryd.prog.underlying 22 = some (.slice 35) := (T.ok.1.get (t := 22) (i := T.t22) rfl).1
theorem n_int : Tryd.prog.cellsOf 3 = 1 := by kernel_rfl
theorem n_int64 : Tryd.prog.cellsOf 2 = 1 := by kernel_rfl
theorem n_ins : Tryd.prog.cellsOf 35 = 5 := by kernel_rfl
theorem n_fun : Tryd.prog.cellsOf 24 = 4 := by kernel_rfl
theorem n_code : Tryd.prog.cellsOf 22 = 1 := by kernel_rfl
theorem len5 {α : Type} : ∀ {l : List α}, l.length = 5 → ∃ a b c d e, l = [a, b, c, d, e]
  | [a, b, c, d, e], _ => ⟨a, b, c, d, e, rfl⟩
theorem len4 {α : Type} : ∀ {l : List α}, l.length = 4 → ∃ a b c d, l = [a, b, c, d]
  | [a, b, c, d], _ => ⟨a, b, c, d, rfl⟩
section
variable {H : Type} {enc : TypeId × Value → H} {w : World} {sp : Nat → Bool} {held : Bool}
theorem read_ins (fuel : Nat) (cs : List Value) (x : DataW H × List MemPlace) (h : DataW.trod enc Tryd.prog w 0 sp held fuel 35 cs = some x) : ∃ a : Ins, cs.length = 5 ∧ cs = a.enc ∧ True := by
  obtain ⟨xs, n, _, _, hl, hxs, hf⟩ := DataW.trod_struct u_ins h
  rw [n_ins] at hl
  obtain ⟨c0, c1, c2, c3, c4, rfl⟩ := len5 hl
  have hx5 : xs.length = 5 := hxs
  have g (i : Nat) (hi : i < 5) : ∃ y, xs[i]? = some y := ⟨_, List.getElem?_eq_getElem (by omega)⟩
  have f0 : DataW.trod enc Tryd.prog w 0 sp held n 3 ((List.drop 0 [c0, c1, c2, c3, c4]).take (Tryd.prog.cellsOf 3)) = xs[0]? := hf 0 _ rfl
  have f1 : DataW.trod enc Tryd.prog w 0 sp held n 3 ((List.drop 1 [c0, c1, c2, c3, c4]).take (Tryd.prog.cellsOf 3)) = xs[1]? := hf 1 _ rfl
  have f2 : DataW.trod enc Tryd.prog w 0 sp held n 3 ((List.drop 2 [c0, c1, c2, c3, c4]).take (Tryd.prog.cellsOf 3)) = xs[2]? := hf 2 _ rfl
  have f3 : DataW.trod enc Tryd.prog w 0 sp held n 3 ((List.drop 3 [c0, c1, c2, c3, c4]).take (Tryd.prog.cellsOf 3)) = xs[3]? := hf 3 _ rfl
  have f4 : DataW.trod enc Tryd.prog w 0 sp held n 2 ((List.drop 4 [c0, c1, c2, c3, c4]).take (Tryd.prog.cellsOf 2)) = xs[4]? := hf 4 _ rfl
  obtain ⟨y0, e0⟩ := g 0 (by decide)
  obtain ⟨y1, e1⟩ := g 1 (by decide)
  obtain ⟨y2, e2⟩ := g 2 (by decide)
  obtain ⟨y3, e3⟩ := g 3 (by decide)
  obtain ⟨y4, e4⟩ := g 4 (by decide)
  rw [e0] at f0; rw [e1] at f1; rw [e2] at f2; rw [e3] at f3; rw [e4] at f4
  rw [n_int] at f0 f1 f2 f3
  rw [n_int64] at f4
  obtain ⟨n0, q0, _, _⟩ := read_int u_int f0
  obtain ⟨n1, q1, _, _⟩ := read_int u_int f1
  obtain ⟨n2, q2, _, _⟩ := read_int u_int f2
  obtain ⟨n3, q3, _, _⟩ := read_int u_int f3
  obtain ⟨n4, q4, _, _⟩ := read_int u_int64 f4
  simp at q0 q1 q2 q3 q4
  subst q0 q1 q2 q3 q4
  exact ⟨⟨n0, n1, n2, n3, n4⟩, rfl, rfl, trivial⟩
theorem read_fun (fuel : Nat) (cs : List Value) (x : DataW H × List MemPlace) (h : DataW.trod enc Tryd.prog w 0 sp held fuel 24 cs = some x) :
    ∃ (f : Fn) (A : Option Addr) (c : Nat), cs = (f.v A c).cells.toList ∧ RdC w A f.code ∧ f.code.length ≤ c ∧ c ≤ maxLen ∧ (A = none → c = 0) ∧ (f.code = [] ∨ ∃ ps es rest, x.1 = .agg ps ∧ DataW.slice es rest ∈ ps ∧ es.length = f.code.length) := by
  obtain ⟨xs, n, _, hx, hl, hxs, hf⟩ := DataW.trod_struct u_fun h
  rw [n_fun] at hl
  obtain ⟨c0, c1, c2, c3, rfl⟩ := len4 hl
  have hx4 : xs.length = 4 := hxs
  have g (i : Nat) (hi : i < 4) : ∃ y, xs[i]? = some y := ⟨_, List.getElem?_eq_getElem (by omega)⟩
  have f0 : DataW.trod enc Tryd.prog w 0 sp held n 3 ((List.drop 0 [c0, c1, c2, c3]).take (Tryd.prog.cellsOf 3)) = xs[0]? := hf 0 _ rfl
  have f1 : DataW.trod enc Tryd.prog w 0 sp held n 3 ((List.drop 1 [c0, c1, c2, c3]).take (Tryd.prog.cellsOf 3)) = xs[1]? := hf 1 _ rfl
  have f2 : DataW.trod enc Tryd.prog w 0 sp held n 3 ((List.drop 2 [c0, c1, c2, c3]).take (Tryd.prog.cellsOf 3)) = xs[2]? := hf 2 _ rfl
  have f3 : DataW.trod enc Tryd.prog w 0 sp held n 22 ((List.drop 3 [c0, c1, c2, c3]).take (Tryd.prog.cellsOf 22)) = xs[3]? := hf 3 _ rfl
  obtain ⟨y0, e0⟩ := g 0 (by decide)
  obtain ⟨y1, e1⟩ := g 1 (by decide)
  obtain ⟨y2, e2⟩ := g 2 (by decide)
  obtain ⟨y3, e3⟩ := g 3 (by decide)
  rw [e0] at f0; rw [e1] at f1; rw [e2] at f2; rw [e3] at f3
  rw [n_int] at f0 f1 f2
  rw [n_code] at f3
  obtain ⟨n0, q0, _, _⟩ := read_int u_int f0
  obtain ⟨n1, q1, _, _⟩ := read_int u_int f1
  obtain ⟨n2, q2, _, _⟩ := read_int u_int f2
  obtain ⟨A, l, c, q3, h1, h2, h3, h4, h5⟩ := read_slice (R := Fl Ins.enc) (Q := fun _ _ => True) u_code n_ins (by decide) read_ins f3
  simp at q0 q1 q2 q3
  subst q0 q1 q2 q3
  refine ⟨⟨n0, n1, n2, l⟩, A, c, rfl, by unfold RdC RdS; exact h4, h1, h2, h3, ?_⟩
  rcases h5 with h5 | ⟨es, rest, h6, h7, _⟩
  · exact .inl h5
  · refine .inr ⟨xs.map (·.1), es, rest, by rw [hx], ?_, h7⟩
    rw [← h6]
    exact List.mem_map.2 ⟨y3, List.mem_of_getElem? e3, rfl⟩
end
end Go.Proofs.YtbbadmlekagloaaDoor
namespace Go.Proofs.YtbbadmlekagloaaDoor
open Go Go.Sh
attribute [local irreducible] Blk Ext RdS
theorem u_role : Tryd.prog.underlying 109 = some (.int .i64) := (T.ok.1.get (t := 109) (i := T.t109) rfl).1
theorem u_bool : Tryd.prog.underlying 4 = some .bool := (T.ok.1.get (t := 4) (i := T.t4) rfl).1
theorem u_line : Tryd.prog.underlying 110 = some T.t110.desc := (T.ok.1.get (t := 110) rfl).1
theorem u_lines : Tryd.prog.underlying 111 = some (.array 10 110) := (T.ok.1.get (t := 111) (i := T.t111) rfl).1
theorem n_role : Tryd.prog.cellsOf 109 = 1 := by kernel_rfl
theorem n_bool : Tryd.prog.cellsOf 4 = 1 := by kernel_rfl
theorem n_line : Tryd.prog.cellsOf 110 = 5 := by kernel_rfl
theorem n_lines : Tryd.prog.cellsOf 111 = 50 := by kernel_rfl
theorem g_fields : Tryd.prog.globalNamed "plunder/prog.fields" = some 0 := by kernel_rfl
theorem g_type : (Tryd.prog.globals[0]?).map (·.type) = some 111 := by kernel_rfl
def Row.data {H : Type} (r : Row) : DataW H := .agg [.lit (.int .i64 r.a), .lit (.int .i64 r.b), .lit (.int .i64 r.c), .lit (.int .i64 r.k), .lit (.bool r.nx)]
theorem laid_eq {H : Type} : (Rows.laid_plunder_prog_fields : DataW H) = .agg (rows10.map Row.data) := rfl
section
variable {H : Type} {enc : TypeId × Value → H} {w : World} {sp : Nat → Bool} {held : Bool}
theorem read_line (fuel : Nat) (cs : List Value) (x : DataW H × List MemPlace) (r : Row) (h : DataW.trod enc Tryd.prog w 0 sp held fuel 110 cs = some x) (hd : x.1 = r.data) : cs = r.enc := by
  obtain ⟨xs, n, _, hx, hl, hxs, hf⟩ := DataW.trod_struct u_line h
  rw [n_line] at hl
  obtain ⟨c0, c1, c2, c3, c4, rfl⟩ := len5 hl
  obtain ⟨y0, y1, y2, y3, y4, rfl⟩ := len5 (show xs.length = 5 from hxs)
  have f0 : DataW.trod enc Tryd.prog w 0 sp held n 109 ((List.drop 0 [c0, c1, c2, c3, c4]).take (Tryd.prog.cellsOf 109)) = some y0 := hf 0 _ rfl
  have f1 : DataW.trod enc Tryd.prog w 0 sp held n 109 ((List.drop 1 [c0, c1, c2, c3, c4]).take (Tryd.prog.cellsOf 109)) = some y1 := hf 1 _ rfl
  have f2 : DataW.trod enc Tryd.prog w 0 sp held n 109 ((List.drop 2 [c0, c1, c2, c3, c4]).take (Tryd.prog.cellsOf 109)) = some y2 := hf 2 _ rfl
  have f3 : DataW.trod enc Tryd.prog w 0 sp held n 109 ((List.drop 3 [c0, c1, c2, c3, c4]).take (Tryd.prog.cellsOf 109)) = some y3 := hf 3 _ rfl
  have f4 : DataW.trod enc Tryd.prog w 0 sp held n 4 ((List.drop 4 [c0, c1, c2, c3, c4]).take (Tryd.prog.cellsOf 4)) = some y4 := hf 4 _ rfl
  rw [n_role] at f0 f1 f2 f3
  rw [n_bool] at f4
  obtain ⟨n0, q0, e0, _⟩ := DataW.trod_int u_role f0
  obtain ⟨n1, q1, e1, _⟩ := DataW.trod_int u_role f1
  obtain ⟨n2, q2, e2, _⟩ := DataW.trod_int u_role f2
  obtain ⟨n3, q3, e3, _⟩ := DataW.trod_int u_role f3
  obtain ⟨n4, q4, e4⟩ := DataW.trod_bool u_bool f4
  simp at q0 q1 q2 q3 q4
  subst q0 q1 q2 q3 q4 e0 e1 e2 e3 e4 hx
  simp [Row.data] at hd
  obtain ⟨rfl, rfl, rfl, rfl, rfl⟩ := hd
  rfl
theorem lines_at {fuel : Nat} {cs : List Value} {x : DataW H × List MemPlace} (h : DataW.trod enc Tryd.prog w 0 sp held fuel 111 cs = some x) (hd : x.1 = .agg (rows10.map Row.data)) :
    cs.length = 50 ∧ ∀ (i : Nat) (r : Row), rows10[i]? = some r → (cs.drop (i * 5)).take 5 = r.enc := by
  obtain ⟨xs, m, _, rfl, hl, hxs, hf⟩ := DataW.trod_array u_lines h
  rw [n_lines] at hl
  rw [n_line] at hf
  refine ⟨hl, fun i r hr => ?_⟩
  have hi : i < 10 := by have := (List.getElem?_eq_some_iff.1 hr).1; simpa [rows10] using this
  have := hf i hi
  rw [List.getElem?_eq_getElem (by omega)] at this
  refine read_line m _ _ r this ?_
  have h2 : (xs.map (·.1))[i]? = (rows10.map Row.data)[i]? := by
    simp only [DataW.agg.injEq] at hd
    rw [hd]
  rw [List.getElem?_map, List.getElem?_map, hr, List.getElem?_eq_getElem (by omega)] at h2
  simpa using h2
end
/-- from a row's condition -/
theorem rdG_of {w : World} (h : laidMetH Tryd.prog [("plunder/prog.fields", Rows.laid_plunder_prog_fields)] w) : RdG w := by
  have h : laidMet Tryd.prog [("plunder/prog.fields", Rows.laid_plunder_prog_fields)] w := h
  obtain ⟨ps, ⟨g', t', cs, fuel, p, q, hg', ht', hvar, hd, _, _⟩, _⟩ := h
  obtain rfl := Option.some.inj (g_fields.symm.trans hg')
  obtain rfl := Option.some.inj (g_type.symm.trans ht')
  obtain ⟨hl, hat⟩ := lines_at hd laid_eq
  have hblk : ∃ tt fr, w.heap[0]? = some (.cells cs tt fr) := by
    simp only [World.var?, g_fields, Option.bind_some] at hvar
    split at hvar
    · rename_i c1 t1 f1 hh
      simp at hvar; subst hvar
      exact ⟨t1, f1, hh⟩
    · simp at hvar
  obtain ⟨tt, fr, hb⟩ := hblk
  unfold RdG RdS
  refine ⟨fun _ => ⟨by simp, (Array.getElem?_eq_some_iff.1 hb).1⟩, fun i r hr => ⟨r.enc, rfl, rfl, fun j v hv => ?_⟩⟩
  have := hat i r hr
  rw [← this] at hv
  have hj : j < 5 := by
    have := (List.getElem?_eq_some_iff.1 hv).1
    simp at this; omega
  rw [List.getElem?_take_of_lt hj, List.getElem?_drop] at hv
  simp only [gA]
  rw [add_lit]
  simp only [World.cell?, hb]
  rw [Nat.zero_add, ← Array.getElem?_toList]
  exact hv
end Go.Proofs.YtbbadmlekagloaaDoor
namespace Go.Proofs.YtbbadmlekagloaaDoor
open Go Go.Sh
set_option linter.unusedVariables false
set_option linter.unusedSimpArgs false
attribute [local irreducible] Blk Ext RdS
theorem kids : Kids Tryd.prog (· < Tryd.prog.types.size) := kids_rows (by kernel_rfl) (by kernel_rfl)
theorem full : ∀ t e, t < Tryd.prog.types.size → Tryd.prog.underlying t = some (.slice e) → 0 < Tryd.prog.cellsOf e := slices_full_of _ (by kernel_rfl)
theorem own : ownKnob Tryd.prog.godebug = none := by kernel_rfl
theorem one_le {H : Type} (d : DataW H) : 1 ≤ Rows.uptoBulk d := by
  cases d with
  | lit l => cases l <;> simp [Rows.uptoBulk]
  | nil => simp [Rows.uptoBulk]
  | ptr d => simp [Rows.uptoBulk]
  | slice elems spare => simp [Rows.uptoBulk]
  | agg parts => simp [Rows.uptoBulk]
  | iface t d => simp [Rows.uptoBulk]
  | map entries => simp [Rows.uptoBulk]
  | held h => simp [Rows.uptoBulk]
theorem part_le {H : Type} {d : DataW H} {l : List (DataW H)} (h : d ∈ l) : Rows.uptoBulk d ≤ Rows.uptoBulkAll l := by
  induction l with
  | nil => cases h
  | cons x r ih =>
    simp only [Rows.uptoBulkAll]
    cases List.mem_cons.1 h with
    | inl e => subst e; omega
    | inr e => have := ih e; omega
theorem len_le {H : Type} (l : List (DataW H)) : l.length ≤ Rows.uptoBulkAll l := by
  induction l with
  | nil => simp [Rows.uptoBulkAll]
  | cons x r ih => have := one_le x; simp only [Rows.uptoBulkAll, List.length_cons]; omega
theorem v_of_cells {v : Value} {l : List Value} (h : v.cells.toList = l) (hl : l.length ≠ 1) : v = .agg l.toArray := by
  cases v <;> first | (simp [Value.cells] at h; subst h; simp at hl; done) | (subst h; rfl)
/-- a function that comes in -/
theorem arg_fun {H : Type} {enc : TypeId × Value → H} {w : World} {sp : Nat → Bool} {held : Bool} {v : Value} {d : DataW H} {p : List MemPlace} (h : DataW.Trod enc Tryd.prog w 0 sp held 24 v d p) :
    ∃ (f : Fn) (A : Option Addr) (c : Nat), v = f.v A c ∧ RdC w A f.code ∧ f.code.length ≤ c ∧ c ≤ maxLen ∧ (A = none → c = 0) ∧ f.code.length ≤ Rows.uptoBulk d := by
  obtain ⟨n, hn⟩ := h
  obtain ⟨f, A, c, h1, h2, h3, h4, h5, h6⟩ := read_fun n _ _ hn
  refine ⟨f, A, c, v_of_cells h1 (by simp [Fn.v, Value.cells]), h2, h3, h4, h5, ?_⟩
  rcases h6 with h6 | ⟨ps, es, rest, h7, h8, h9⟩
  · simp [h6]
  · have hp := part_le h8
    have hl := len_le es
    rw [show d = .agg ps from h7]
    simp only [Rows.uptoBulk] at hp ⊢
    omega
theorem row_fun : ∀ t ∈ [24], t < Tryd.prog.types.size := fun t ht => by
  obtain rfl : t = 24 := by simpa using ht
  exact of_decide_eq_true (by kernel_rfl)
theorem wf64 {n : Int} (h : (Lit.int .i64 n).wf = true) : -9223372036854775808 ≤ n ∧ n ≤ 9223372036854775807 := by
  have h := (Lit.wf_int_iff _ _).1 h
  have e1 : IntKind.i64.min = -9223372036854775808 := by decide
  have e2 : IntKind.i64.max = 9223372036854775807 := by decide
  rw [e1, e2] at h
  exact h
set_option maxRecDepth 100000 in
/-- a number that comes in -/
theorem arg_int {H : Type} {enc : TypeId × Value → H} {w : World} {sp : Nat → Bool} {held : Bool} {v : Value} {d : DataW H} {p : List MemPlace} {r : Go.Reach} {b0 : Nat} (hv : Value.okWide Tryd.prog w r b0 3 v) (h : DataW.Trod enc Tryd.prog w 0 sp held 3 v d p) :
    ∃ n : Int, v = .int .i64 n ∧ -9223372036854775808 ≤ n ∧ n ≤ 9223372036854775807 := by
  obtain ⟨m, h1, _, _, h4⟩ := ChangeShapes.open_int (P := Tryd.prog) (t := 3) u_int hv h
  exact ⟨m, h1, wf64 h4⟩
set_option maxRecDepth 100000 in
theorem arg_int64 {H : Type} {enc : TypeId × Value → H} {w : World} {sp : Nat → Bool} {held : Bool} {v : Value} {d : DataW H} {p : List MemPlace} {r : Go.Reach} {b0 : Nat} (hv : Value.okWide Tryd.prog w r b0 2 v) (h : DataW.Trod enc Tryd.prog w 0 sp held 2 v d p) :
    ∃ n : Int, v = .int .i64 n ∧ -9223372036854775808 ≤ n ∧ n ≤ 9223372036854775807 := by
  obtain ⟨m, h1, _, _, h4⟩ := ChangeShapes.open_int (P := Tryd.prog) (t := 2) u_int64 hv h
  exact ⟨m, h1, wf64 h4⟩
/-- a settled world in which the table is laid -/
noncomputable def laidWorld (os : Os) : World :=
  { World.holding Tryd.prog os ⟨#[], #[], []⟩ with heap := (World.holding Tryd.prog os ⟨#[], #[], []⟩).heap.modify 0 fun
      | .cells _ t frozen => .cells (rows10.flatMap Row.enc).toArray t frozen
      | o => o }
def noFun : Value := .agg #[.int .i64 0, .int .i64 0, .int .i64 0, .slice none 0 0]
end Go.Proofs.YtbbadmlekagloaaDoor
namespace Go.Proofs.YtbbadmlekagloaaDoor
open Go Go.Sh
set_option linter.unusedVariables false
set_option linter.unusedSimpArgs false
attribute [local irreducible] Blk Ext RdS
theorem u_prog : Tryd.prog.underlying 46 = some T.t46.desc := (T.ok.1.get (t := 46) rfl).1
theorem u_funs : Tryd.prog.underlying 44 = some (.slice 24) := (T.ok.1.get (t := 44) (i := T.t44) rfl).1
theorem n_prog : Tryd.prog.cellsOf 46 = 1 := by kernel_rfl
theorem n_funs : Tryd.prog.cellsOf 44 = 1 := by kernel_rfl
def FunAt (w : World) (a : FE) (cs : List Value) : Prop := cs = a.enc ∧ RdC w a.2.1 a.1.code
section
variable {H : Type} {enc : TypeId × Value → H} {w : World} {sp : Nat → Bool} {held : Bool}
theorem fun_bulk {fuel : Nat} {cs : List Value} {x : DataW H × List MemPlace} (h : DataW.trod enc Tryd.prog w 0 sp held fuel 24 cs = some x) : ∃ a : FE, cs.length = 4 ∧ FunAt w a cs ∧ a.1.code.length ≤ Rows.uptoBulk x.1 := by
  obtain ⟨f, A, c, h1, h2, h3, h4, h5, h6⟩ := read_fun fuel cs x h
  refine ⟨(f, A, c), by rw [h1]; rfl, ⟨h1, h2⟩, ?_⟩
  rcases h6 with h6 | ⟨ps, es, rest, h7, h8, h9⟩
  · simp [h6]
  · have hp := part_le h8
    have hl := len_le es
    rw [show x.1 = .agg ps from h7]
    simp only [Rows.uptoBulk] at hp ⊢
    omega
set_option maxRecDepth 100000 in
theorem read_prog {fuel : Nat} {cs : List Value} {x : DataW H × List MemPlace} (h : DataW.trod enc Tryd.prog w 0 sp held fuel 46 cs = some x) :
    ∃ (l : List FE) (A : Option Addr) (c : Nat), cs = [.slice A l.length c] ∧ RdP w A l ∧ l.length ≤ c ∧ c ≤ maxLen ∧ (A = none → c = 0) ∧ l.length ≤ Rows.uptoBulk x.1 ∧ ∀ y ∈ l, y.1.code.length ≤ Rows.uptoBulk x.1 := by
  obtain ⟨xs, n, _, hx, hl, hxs, hf⟩ := DataW.trod_struct u_prog h
  rw [n_prog] at hl
  obtain ⟨c0, rfl⟩ : ∃ c0, cs = [c0] := by
    match cs, hl with
    | [a], _ => exact ⟨a, rfl⟩
  obtain ⟨y0, rfl⟩ : ∃ y0, xs = [y0] := by
    match xs, (show xs.length = 1 from hxs) with
    | [a], _ => exact ⟨a, rfl⟩
  have f0 : DataW.trod enc Tryd.prog w 0 sp held n 44 ((List.drop 0 [c0]).take (Tryd.prog.cellsOf 44)) = some y0 := hf 0 _ rfl
  rw [n_funs] at f0
  obtain ⟨A, l, c, h1, h2, h3, h4, h5, h6⟩ := read_slice (R := FunAt) (Q := fun a d => a.1.code.length ≤ Rows.uptoBulk d) (sz := 4) u_funs n_fun (by decide) (fun fuel cs y hy => fun_bulk hy) f0
  have h1 : [c0] = [.slice A l.length c] := h1
  refine ⟨l, A, c, h1, ⟨?_, fun z hz => ?_⟩, h2, h3, h4, ?_⟩
  · unfold RdS
    refine ⟨h5.some, fun i z hz => ?_⟩
    obtain ⟨vs, q1, q2, q3⟩ := h5.at_ i z hz
    exact ⟨vs, q1, q2.1, q3⟩
  · obtain ⟨i, hi⟩ := List.getElem?_of_mem hz
    obtain ⟨vs, q1, q2, q3⟩ := h5.at_ i z hi
    exact q2.2
  · rcases h6 with h6 | ⟨es, rest, h7, h8, h9⟩
    · subst h6; exact ⟨by simp, by simp⟩
    · have hb : x.1 = .agg [.slice es rest] := by rw [hx]; simp [h7]
      have hle : Rows.uptoBulkAll es ≤ Rows.uptoBulk x.1 := by rw [hb]; simp only [Rows.uptoBulk, Rows.uptoBulkAll]; omega
      refine ⟨by have := len_le es; omega, fun z hz => ?_⟩
      obtain ⟨i, hi⟩ := List.getElem?_of_mem hz
      obtain ⟨d, hd⟩ : ∃ d, es[i]? = some d := ⟨_, List.getElem?_eq_getElem (by rw [h8]; exact (List.getElem?_eq_some_iff.1 hi).1)⟩
      have := h9 i z d hi hd
      have := part_le (List.mem_of_getElem? hd)
      omega
set_option maxRecDepth 100000 in
theorem arg_prog {v : Value} {d : DataW H} {p : List MemPlace} {r : Go.Reach} {b0 : Nat} (hv : Value.okWide Tryd.prog w r b0 46 v) (h : DataW.Trod enc Tryd.prog w 0 sp held 46 v d p) :
    ∃ (l : List FE) (A : Option Addr) (c : Nat), v = pv A l.length c ∧ RdP w A l ∧ l.length ≤ c ∧ c ≤ maxLen ∧ l.length ≤ Rows.uptoBulk d ∧ ∀ y ∈ l, y.1.code.length ≤ Rows.uptoBulk d := by
  obtain ⟨n, hn⟩ := h
  obtain ⟨l, A, c, h1, h2, h3, h4, h5, h6, h7⟩ := read_prog hn
  refine ⟨l, A, c, ?_, h2, h3, h4, h6, h7⟩
  unfold Value.okWide at hv
  rw [u_prog] at hv
  obtain ⟨cs, rfl, _, _⟩ := hv
  have : cs.toList = [.slice A l.length c] := h1
  rw [pv]
  congr 1
  exact Array.ext' this
theorem u_bools : Tryd.prog.underlying 55 = some (.slice 4) := (T.ok.1.get (t := 55) (i := T.t55) rfl).1
theorem u_words : Tryd.prog.underlying 67 = some (.slice 2) := (T.ok.1.get (t := 67) (i := T.t67) rfl).1
set_option maxRecDepth 100000 in
theorem read_list {α : Type} {enc' : α → List Value} {t el : TypeId} {v : Value} {d : DataW H} {p : List MemPlace} {r : Go.Reach} {b0 : Nat} {Q : α → Prop} (hu : Tryd.prog.underlying t = some (.slice el)) (hn : Tryd.prog.cellsOf el = 1)
    (he : ∀ fuel cs y, DataW.trod enc Tryd.prog w 0 sp held fuel el cs = some y → ∃ a, cs.length = 1 ∧ (cs = enc' a ∧ Q a) ∧ True) (hv : Value.okWide Tryd.prog w r b0 t v) (h : DataW.Trod enc Tryd.prog w 0 sp held t v d p) :
    ∃ (A : Option Addr) (l : List α) (c : Nat), v = .slice A l.length c ∧ RdS enc' 1 w A l ∧ l.length ≤ c ∧ c ≤ maxLen ∧ (A = none → c = 0) ∧ (∀ a ∈ l, Q a) ∧ l.length ≤ Rows.uptoBulk d ∧ (l = [] ∨ ∃ es rest, d = .slice es rest ∧ es.length = l.length) := by
  obtain ⟨A0, n0, c0, rfl⟩ := WideShapes.okWide_slice hu hv
  obtain ⟨n, hn'⟩ := h
  obtain ⟨A, l, c, h1, h2, h3, h4, h5, h6⟩ := read_slice (R := fun _ a cs => cs = enc' a ∧ Q a) (Q := fun _ _ => True) (sz := 1) hu hn (by decide) (fun fuel cs y hy => he fuel cs y hy) hn'
  have h1 : [Value.slice A0 n0 c0] = [.slice A l.length c] := h1
  simp only [List.cons.injEq, and_true] at h1
  refine ⟨A, l, c, h1, ?_, h2, h3, h4, fun a ha => ?_, ?_⟩
  · unfold RdS
    refine ⟨h5.some, fun i z hz => ?_⟩
    obtain ⟨vs, q1, q2, q3⟩ := h5.at_ i z hz
    exact ⟨vs, q1, q2.1, q3⟩
  · obtain ⟨i, hi⟩ := List.getElem?_of_mem ha
    obtain ⟨vs, q1, q2, q3⟩ := h5.at_ i a hi
    exact q2.2
  · rcases h6 with h6 | ⟨es, rest, h7, h8, h9⟩
    · subst h6; exact ⟨by simp, .inl rfl⟩
    · have := len_le es
      have h7 : d = .slice es rest := h7
      refine ⟨?_, .inr ⟨es, rest, h7, h8⟩⟩
      rw [h7]
      simp only [Rows.uptoBulk]
      omega
theorem b_bool : Tryd.prog.bytesOf 4 = 1 := by kernel_rfl
theorem b_int64 : Tryd.prog.bytesOf 2 = 8 := by kernel_rfl
theorem list_small {α : Type} {l : List α} {d : DataW H} {ts : List TypeId} {ds : List (DataW H)} {j b : Nat} {t el : TypeId} (hwt : (DataW.weightsEach Tryd.prog ts ds).all (· ≤ reachBytes) = true) (h : l = [] ∨ ∃ es rest, d = .slice es rest ∧ es.length = l.length)
    (ht : ts[j]? = some t) (hd : ds[j]? = some d) (hu : Tryd.prog.underlying t = some (.slice el)) (hb : Tryd.prog.bytesOf el = b) (hb1 : 1 ≤ b) : l.length ≤ 140737488351232 := by
  rcases h with h | ⟨es, rest, h, he⟩
  · simp [h]
  · subst h
    have := sized_slice hwt ht hd hu
    rw [hb] at this
    have h2 : es.length ≤ (es.length + rest.length) * b := Nat.le_trans (Nat.le_add_right _ _) (Nat.le_mul_of_pos_right _ hb1)
    unfold reachBytes at this
    omega
def boolE (b : Bool) : List Value := [.bool b]
set_option maxRecDepth 100000 in
theorem arg_bools {v : Value} {d : DataW H} {p : List MemPlace} {r : Go.Reach} {b0 : Nat} (hv : Value.okWide Tryd.prog w r b0 55 v) (h : DataW.Trod enc Tryd.prog w 0 sp held 55 v d p) :
    ∃ (A : Option Addr) (l : List Bool) (c : Nat), v = .slice A l.length c ∧ RdS boolE 1 w A l ∧ l.length ≤ c ∧ c ≤ maxLen ∧ (A = none → c = 0) ∧ (∀ a ∈ l, True) ∧ l.length ≤ Rows.uptoBulk d ∧ (l = [] ∨ ∃ es rest, d = .slice es rest ∧ es.length = l.length) :=
  read_list u_bools n_bool (fun fuel cs y hy => by
    obtain ⟨b, rfl, _⟩ := DataW.trod_bool u_bool hy
    exact ⟨b, rfl, ⟨rfl, trivial⟩, trivial⟩) hv h
set_option maxRecDepth 100000 in
theorem arg_words {v : Value} {d : DataW H} {p : List MemPlace} {r : Go.Reach} {b0 : Nat} (hv : Value.okWide Tryd.prog w r b0 67 v) (h : DataW.Trod enc Tryd.prog w 0 sp held 67 v d p) :
    ∃ (A : Option Addr) (l : List Int) (c : Nat), v = .slice A l.length c ∧ RdS ints 1 w A l ∧ l.length ≤ c ∧ c ≤ maxLen ∧ (A = none → c = 0) ∧ (∀ a ∈ l, -9223372036854775808 ≤ a ∧ a ≤ 9223372036854775807) ∧ l.length ≤ Rows.uptoBulk d ∧ (l = [] ∨ ∃ es rest, d = .slice es rest ∧ es.length = l.length) :=
  read_list u_words n_int64 (fun fuel cs y hy => by
    obtain ⟨b, rfl, _, hw⟩ := DataW.trod_int u_int64 hy
    exact ⟨b, rfl, ⟨rfl, wf64 hw⟩, trivial⟩) hv h
end
def noProg : Value := .agg #[.slice none 0 0]
end Go.Proofs.YtbbadmlekagloaaDoor
