/- layer prog: the next places, the next state; own work. -/
import Derived.Test.YtbbadmlekagloaaDoorPgC
namespace Go.Proofs.YtbbadmlekagloaaDoor
open Go Go.Sh
attribute [local irreducible] Blk Ext RdS
def ints (n : Int) : List Value := [.int .i64 n]
def afterS (c : Ins) (slot s : Int) : Int := if c.kd = 5 ∧ c.a = slot then 2 else if c.kd = 6 ∧ s = 2 then 4 else s
theorem After_c (c : Ins) (slot s : Int) (w : World) :
    Cl Tryd.prog 58 #[c.v, .int .i64 slot, .int .i64 s] w (fun v w' => v = .int .i64 (afterS c slot s) ∧ Ext w w') (fun _ _ => False) := by
  refine calls_ex (args := [c.v, .int .i64 slot, .int .i64 s]) T.ok Tryd.func58 rfl rfl rfl rfl ?_
  repeat' (first | (show Gd _ _ _; first | with_reducible refine Gd.t ?_ | with_reducible refine Gd.f ?_ | with_reducible refine Gd.dec (fun _ => ?_) (fun _ => ?_) | with_reducible refine Gd.beq (fun _ => ?_) (fun _ => ?_) | with_reducible refine Gd.bne (fun _ => ?_) (fun _ => ?_) | with_reducible refine Gd.not ?_ | refine Gd.t ?_ | refine Gd.f ?_ | with_reducible refine Gd.var (fun _ => ?_) (fun _ => ?_)) | (show Sq _ _ _; refine Sq.mk ?_) | (show Ld1 _ _ _; first | (apply Ld1.blk; (focus ((repeat (first | assumption | (apply Blk.from; assumption))); done)); rfl) | (apply Ld1.rsF; (focus ((repeat (first | assumption | (apply RdS.from; assumption))); done)); assumption; rfl) | (apply Ld1.rs; (focus ((repeat (first | assumption | (apply RdS.from; assumption))); done)); assumption; rfl)) | (show Ld _ _ _ _; first | (apply Ld.blk; (focus ((repeat (first | assumption | (apply Blk.from; assumption))); done)); rfl) | (apply Ld.rs; (focus ((repeat (first | assumption | (apply RdS.from; assumption))); done)); assumption)) | (show Ix _ _ _ _ _; first | (apply Ix.rs; (focus ((repeat (first | assumption | (apply RdS.from; assumption))); done)); (first | with_reducible rfl | assumption); (first | assumption | omega)) | (apply Ix.arr; (focus ((repeat (first | assumption | (apply RdS.from; assumption))); done)); (first | assumption | (simp; done)); (first | with_reducible rfl | assumption); (first | assumption | omega))) | (show Al _ _ _ _; refine Al.mk (fun _ _ _ _ _ _ => ?_)) | (show St _ _ _ _; apply St.new; assumption; assumption; assumption; rfl; rfl; intro _ _ _ _))
  all_goals (refine ⟨i_eq ?_, by (repeat (first | exact Ext.refl _ | assumption | (apply Ext.from; assumption)))⟩; simp_all [afterS])
theorem behind_c (c : Ins) (slot s : Int) (w : World) :
    Cl Tryd.prog 79 #[c.v, .int .i64 slot, .int .i64 s] w (fun v w' => v = .int .i64 (afterS c slot s) ∧ Ext w w') (fun _ _ => False) := by
  refine calls_ex (args := [c.v, .int .i64 slot, .int .i64 s]) T.ok Tryd.func79 rfl rfl rfl rfl ?_
  repeat' (first | (show Gd _ _ _; first | with_reducible refine Gd.t ?_ | with_reducible refine Gd.f ?_ | with_reducible refine Gd.dec (fun _ => ?_) (fun _ => ?_) | with_reducible refine Gd.beq (fun _ => ?_) (fun _ => ?_) | with_reducible refine Gd.bne (fun _ => ?_) (fun _ => ?_) | with_reducible refine Gd.not ?_ | refine Gd.t ?_ | refine Gd.f ?_ | with_reducible refine Gd.var (fun _ => ?_) (fun _ => ?_)) | (show Sq _ _ _; refine Sq.mk ?_) | (show Ld1 _ _ _; first | (apply Ld1.blk; (focus ((repeat (first | assumption | (apply Blk.from; assumption))); done)); rfl) | (apply Ld1.rsF; (focus ((repeat (first | assumption | (apply RdS.from; assumption))); done)); assumption; rfl) | (apply Ld1.rs; (focus ((repeat (first | assumption | (apply RdS.from; assumption))); done)); assumption; rfl)) | (show Ld _ _ _ _; first | (apply Ld.blk; (focus ((repeat (first | assumption | (apply Blk.from; assumption))); done)); rfl) | (apply Ld.rs; (focus ((repeat (first | assumption | (apply RdS.from; assumption))); done)); assumption)) | (show Ix _ _ _ _ _; first | (apply Ix.rs; (focus ((repeat (first | assumption | (apply RdS.from; assumption))); done)); (first | with_reducible rfl | assumption); (first | assumption | omega)) | (apply Ix.arr; (focus ((repeat (first | assumption | (apply RdS.from; assumption))); done)); (first | assumption | (simp; done)); (first | with_reducible rfl | assumption); (first | assumption | omega))) | (show Al _ _ _ _; refine Al.mk (fun _ _ _ _ _ _ => ?_)) | (show St _ _ _ _; apply St.new; assumption; assumption; assumption; rfl; rfl; intro _ _ _ _))
  all_goals (refine ⟨i_eq ?_, by (repeat (first | exact Ext.refl _ | assumption | (apply Ext.from; assumption)))⟩; simp_all [afterS])
def nextsS (i : Nat) (c : Ins) : List Int := if c.kd = 3 then [c.a] else if c.kd = 9 then [] else if c.kd = 4 then [(i : Int) + 1, c.b] else [(i : Int) + 1]
def IsInts (l : List Int) (w : World) (v : Value) (w' : World) : Prop := ∃ A, v = .slice A l.length l.length ∧ RdS ints 1 w' A l ∧ Ext w w' ∧ Fresh w A
theorem flat1 (l : List Int) : (l.flatMap ints).length = l.length := by
  induction l with
  | nil => rfl
  | cons x r ih => simp [ints, List.flatMap_cons] at ih ⊢; omega
theorem own_of_ints {p B : Nat} {l : List Int} {w : World} {t : Nat} (h : Blk w p t (l.flatMap ints)) (hB : B ≤ p) (hl : l.length ≤ 140737488355328) : Own ints 1 t w B (some ⟨p, 0, none⟩) l.length l :=
  own_of_blk (l := l) (enc := ints) (sz := 1) (e := t) (c := l.length) h hB (fun _ _ => rfl) (by rw [flat1]; omega) (Nat.le_refl _) (by simp only [maxLen]; omega) (by rw [flat1]; omega) (List.take_of_length_le (by rw [flat1]; omega))
theorem rd_of_blk {p : Nat} {l : List Int} {w : World} {t : Nat} (h : Blk w p t (l.flatMap ints)) (hl : l.length ≤ 140737488355328) : RdS ints 1 w (some ⟨p, 0, none⟩) l :=
  Own.rd (own_of_ints h (Nat.zero_le _) hl)
theorem fresh_some {w w1 : World} {p : Nat} (e : Ext w w1) (hp : w1.heap.size = p) : Fresh w (some ⟨p, 0, none⟩) := fun b hb => by simp [obk] at hb; have := e.size; omega
theorem fresh_none {w : World} : Fresh w none := fun b hb => by simp [obk] at hb
theorem Nexts_c (f : Fn) (A : Option Addr) (c : Nat) (i : Nat) (x : Ins) (w : World) (hA : RdC w A f.code) (hx : f.code[i]? = some x) (hl : f.code.length ≤ 512) :
    Cl Tryd.prog 57 #[f.v A c, .int .i64 (i : Int)] w (IsInts (nextsS i x) w) (fun _ _ => False) := by
  have hlt := (List.getElem?_eq_some_iff.1 hx).1
  have hw1 : IntKind.i64.wrap ((i : Int) + 1) = (i : Int) + 1 := w64 rfl (by omega) (by omega)
  refine calls_ex (args := [f.v A c, .int .i64 (i : Int)]) T.ok Tryd.func57 rfl rfl rfl rfl ?_
  repeat' (first | (show Gd _ _ _; first | with_reducible refine Gd.t ?_ | with_reducible refine Gd.f ?_ | with_reducible refine Gd.dec (fun _ => ?_) (fun _ => ?_) | with_reducible refine Gd.beq (fun _ => ?_) (fun _ => ?_) | with_reducible refine Gd.bne (fun _ => ?_) (fun _ => ?_) | with_reducible refine Gd.not ?_ | refine Gd.t ?_ | refine Gd.f ?_ | with_reducible refine Gd.var (fun _ => ?_) (fun _ => ?_)) | (show Sq _ _ _; refine Sq.mk ?_) | (show Ld1 _ _ _; first | (apply Ld1.blk; (focus ((repeat (first | assumption | (apply Blk.from; assumption))); done)); rfl) | (apply Ld1.rsF; (focus ((repeat (first | assumption | (apply RdS.from; assumption))); done)); assumption; rfl) | (apply Ld1.rs; (focus ((repeat (first | assumption | (apply RdS.from; assumption))); done)); assumption; rfl)) | (show Ld _ _ _ _; first | (apply Ld.blk; (focus ((repeat (first | assumption | (apply Blk.from; assumption))); done)); rfl) | (apply Ld.rs; (focus ((repeat (first | assumption | (apply RdS.from; assumption))); done)); assumption)) | (show Ix _ _ _ _ _; first | (apply Ix.rs; (focus ((repeat (first | assumption | (apply RdS.from; assumption))); done)); (first | with_reducible rfl | assumption); (first | assumption | omega)) | (apply Ix.arr; (focus ((repeat (first | assumption | (apply RdS.from; assumption))); done)); (first | assumption | (simp; done)); (first | with_reducible rfl | assumption); (first | assumption | omega))) | (show Al _ _ _ _; refine Al.mk (fun _ _ _ _ _ _ => ?_)) | (show St _ _ _ _; apply St.new; assumption; assumption; assumption; rfl; rfl; intro _ _ _ _))
  · refine Sm.lit T.ok (cs := [.int .i64 x.a]) rfl rfl rfl rfl rfl rfl rfl (fun p _ hp hb _ _ => ?_)
    refine ⟨some ⟨p, 0, none⟩, ?_, ?_, by (repeat (first | exact Ext.refl _ | assumption | (apply Ext.from; assumption))), fresh_some (by (repeat (first | exact Ext.refl _ | assumption | (apply Ext.from; assumption)))) hp⟩
    · simp_all [nextsS]; rfl
    · have e : nextsS i x = [x.a] := by simp_all [nextsS]
      rw [e]; exact rd_of_blk hb (by simp)
  · refine ⟨none, ?_, ?_, by (repeat (first | exact Ext.refl _ | assumption | (apply Ext.from; assumption))), fresh_none⟩
    · simp_all [nextsS]; rfl
    · have e : nextsS i x = [] := by simp_all [nextsS]
      rw [e]; exact RdS.nil
  · refine Sm.lit T.ok (cs := [.int .i64 ((i : Int) + 1), .int .i64 x.b]) rfl rfl rfl rfl (by rw [hw1]; rfl) rfl rfl (fun p _ hp hb _ _ => ?_)
    refine ⟨some ⟨p, 0, none⟩, ?_, ?_, by (repeat (first | exact Ext.refl _ | assumption | (apply Ext.from; assumption))), fresh_some (by (repeat (first | exact Ext.refl _ | assumption | (apply Ext.from; assumption)))) hp⟩
    · simp_all [nextsS]; rfl
    · have e : nextsS i x = [(i : Int) + 1, x.b] := by simp_all [nextsS]
      rw [e]; exact rd_of_blk hb (by simp)
  · refine Sm.lit T.ok (cs := [.int .i64 ((i : Int) + 1)]) rfl rfl rfl rfl (by rw [hw1]; rfl) rfl rfl (fun p _ hp hb _ _ => ?_)
    refine ⟨some ⟨p, 0, none⟩, ?_, ?_, by (repeat (first | exact Ext.refl _ | assumption | (apply Ext.from; assumption))), fresh_some (by (repeat (first | exact Ext.refl _ | assumption | (apply Ext.from; assumption)))) hp⟩
    · simp_all [nextsS]; rfl
    · have e : nextsS i x = [(i : Int) + 1] := by simp_all [nextsS]
      rw [e]; exact rd_of_blk hb (by simp)
end Go.Proofs.YtbbadmlekagloaaDoor
