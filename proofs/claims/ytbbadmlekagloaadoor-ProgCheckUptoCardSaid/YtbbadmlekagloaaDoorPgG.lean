/- layer prog: the program's search for one slot; own work. -/
import Derived.Test.YtbbadmlekagloaaDoorPgF
import Derived.Test.YtbbadmlekagloaaDoorShO
namespace Go.Proofs.YtbbadmlekagloaaDoor
open Go Go.Sh
attribute [local irreducible] Blk Ext RdS
def IsIntsC (l : List Int) (w : World) (v : Value) (w' : World) : Prop := ∃ A c, v = .slice A l.length c ∧ RdS ints 1 w' A l ∧ Ext w w' ∧ Fresh w A
theorem nx_lt {f : Fn} (h : soundB f = true) {i k : Nat} {x : Ins} (hx : f.code[i]? = some x) (hk : x.kd = k) (h10 : k < 10) (hn : (rowOf k).nx = true) : i + 1 < f.code.length ∧ nextsS i x = if k = 4 then [(i : Int) + 1, x.b] else [(i : Int) + 1] := by
  have hr := next_range h hx ((i : Int) + 1)
  have : k = 0 ∨ k = 1 ∨ k = 2 ∨ k = 3 ∨ k = 4 ∨ k = 5 ∨ k = 6 ∨ k = 7 ∨ k = 8 ∨ k = 9 := by omega
  rcases this with rfl | rfl | rfl | rfl | rfl | rfl | rfl | rfl | rfl | rfl <;> simp [rowOf] at hn <;> simp [nextsS, hk] at hr ⊢ <;> omega
theorem nx_no {i k : Nat} {x : Ins} (hk : x.kd = k) (h10 : k < 10) (hn : (rowOf k).nx = false) : nextsS i x = if k = 3 then [x.a] else [] := by
  have : k = 0 ∨ k = 1 ∨ k = 2 ∨ k = 3 ∨ k = 4 ∨ k = 5 ∨ k = 6 ∨ k = 7 ∨ k = 8 ∨ k = 9 := by omega
  rcases this with rfl | rfl | rfl | rfl | rfl | rfl | rfl | rfl | rfl | rfl <;> simp [rowOf] at hn <;> simp [nextsS, hk]
theorem kd_range {f : Fn} (h : soundB f = true) {i : Nat} {x : Ins} (hx : f.code[i]? = some x) : ∃ k : Nat, x.kd = k ∧ k < 10 := by
  simp only [soundB, Bool.and_eq_true, List.all_eq_true] at h
  have ha := h.1.2 x (List.mem_of_getElem? hx)
  have : ¬ (x.kd < 0 ∨ 10 ≤ x.kd) := fun hr => by rw [instr_range hr] at ha; exact absurd ha (by simp)
  exact ⟨x.kd.toNat, by omega, by omega⟩
theorem follow_c (f : Fn) (A : Option Addr) (c : Nat) (i : Nat) (x : Ins) (w : World) (hA : RdC w A f.code) (hG : RdG w) (hx : f.code[i]? = some x) (hS : soundB f = true) :
    Cl Tryd.prog 80 #[f.v A c, .int .i64 (i : Int)] w (IsIntsC (nextsS i x) w) (fun _ _ => False) := by
  have hsh : shapedB f = true := by simp only [soundB, Bool.and_eq_true] at hS; exact hS.1.1
  obtain ⟨hl1, hl2⟩ := shaped_len hsh
  obtain ⟨k, hk, hk10⟩ := kd_range hS hx
  have hrow : rows10[k]? = some (rowOf k) := by simp [rows10, hk10]
  have hlt := (List.getElem?_eq_some_iff.1 hx).1
  have hw1 : IntKind.i64.wrap ((i : Int) + 1) = (i : Int) + 1 := w64 rfl (by omega) (by omega)
  have hyes : (rowOf k).nx = true → (i : Int) + 1 < f.code.length ∧ x.kd ≠ 3 := fun hn => by
    have := (nx_lt hS hx hk hk10 hn).1
    refine ⟨by omega, fun e => ?_⟩
    have : k = 3 := by omega
    subst this; simp [rowOf] at hn
  have hno : (rowOf k).nx = false → x.kd ≠ 4 := fun hn e => by
    have : k = 4 := by omega
    subst this; simp [rowOf] at hn
  refine calls_ex (args := [f.v A c, .int .i64 (i : Int)]) T.ok Tryd.func80 rfl rfl rfl rfl ?_
  repeat' (first | ((show Gd _ _ _; first | with_reducible refine Gd.t ?_ | with_reducible refine Gd.f ?_ | with_reducible refine Gd.dec (fun _ => ?_) (fun _ => ?_) | with_reducible refine Gd.beq (fun _ => ?_) (fun _ => ?_) | with_reducible refine Gd.bne (fun _ => ?_) (fun _ => ?_) | with_reducible refine Gd.not ?_ | refine Gd.t ?_ | refine Gd.f ?_ | with_reducible refine Gd.var (fun _ => ?_) (fun _ => ?_)) <;> first | (exfalso; omega) | skip) | (first | (show Gd _ _ _; first | with_reducible refine Gd.t ?_ | with_reducible refine Gd.f ?_ | with_reducible refine Gd.dec (fun _ => ?_) (fun _ => ?_) | with_reducible refine Gd.beq (fun _ => ?_) (fun _ => ?_) | with_reducible refine Gd.bne (fun _ => ?_) (fun _ => ?_) | with_reducible refine Gd.not ?_ | refine Gd.t ?_ | refine Gd.f ?_ | with_reducible refine Gd.var (fun _ => ?_) (fun _ => ?_)) | (show Sq _ _ _; refine Sq.mk ?_) | (show Ld1 _ _ _; first | (apply Ld1.blk; (focus ((repeat (first | assumption | (apply Blk.from; assumption))); done)); rfl) | (apply Ld1.rsF; (focus ((repeat (first | assumption | (apply RdS.from; assumption))); done)); assumption; rfl) | (apply Ld1.rs; (focus ((repeat (first | assumption | (apply RdS.from; assumption))); done)); assumption; rfl)) | (show Ld _ _ _ _; first | (apply Ld.blk; (focus ((repeat (first | assumption | (apply Blk.from; assumption))); done)); rfl) | (apply Ld.rs; (focus ((repeat (first | assumption | (apply RdS.from; assumption))); done)); assumption)) | (show Ix _ _ _ _ _; first | (apply Ix.rs; (focus ((repeat (first | assumption | (apply RdS.from; assumption))); done)); (first | with_reducible rfl | assumption); (first | assumption | omega)) | (apply Ix.arr; (focus ((repeat (first | assumption | (apply RdS.from; assumption))); done)); (first | assumption | (simp; done)); (first | with_reducible rfl | assumption); (first | assumption | omega))) | (show Al _ _ _ _; refine Al.mk (fun _ _ _ _ _ _ => ?_)) | (show St _ _ _ _; apply St.new; assumption; assumption; assumption; rfl; rfl; intro _ _ _ _)) | (show Ix _ _ _ _ _; apply Ix.arr; (focus ((repeat (first | assumption | (apply RdS.from; assumption))); done)); rfl; exact hk; exact hk10))
  all_goals (try (exfalso; have h0 := hyes (by assumption); omega))
  all_goals (try (exfalso; exact hno (by assumption) (by assumption)))
  · -- it may go on
    rename_i px wx _ hbx _ _ _ _ _ _ _ _ wy ey hby _ hn hlt1
    obtain ⟨_, hnx⟩ := nx_lt hS hx hk hk10 hn
    have h3 := (hyes hn).2
    have hO : Own ints 1 3 wy w.heap.size none 0 ([] : List Int) := Own.nil
    (refine Sm.lit T.ok (cs := [.int .i64 ((i : Int) + 1)]) rfl rfl rfl rfl (by first | rfl | (rw [hw1]; rfl)) rfl rfl (fun p1 w1 hp1 hb1 e1 _ => ?_); have hr1 := rd_of_blk (l := [(i : Int) + 1]) hb1 (by simp); refine Sm.app (enc := ints) (m := [(i : Int) + 1]) T.ok rfl rfl rfl rfl rfl Nat.zero_lt_one (Own.ext hO e1) rfl hr1 rfl (fun _ _ => rfl) (fun y _ v hv => by simp [ints] at hv; subst hv; rfl) (by first | (simp; done) | (simp; decide)) (by simp) (Ext.size (w := w) (by (repeat (first | exact Ext.refl _ | assumption | (apply Ext.from; assumption))))) (fun A2 c2 w2 ho2 g2 hB2 => ?_); have e2 := Grow.ext (w0 := w) (by (repeat (first | exact Ext.refl _ | assumption | (apply Ext.from; assumption)))) g2 (Own.ext hO e1) (Nat.le_refl _))
    have hF2 : Fresh w A2 := fun b hb => (ho2.obk_lt b hb).2
    have hby2 := (hby.ext e1).grow g2 (Own.ext hO e1) (by decide)
    repeat' (first | ((show Gd _ _ _; first | with_reducible refine Gd.t ?_ | with_reducible refine Gd.f ?_ | with_reducible refine Gd.dec (fun _ => ?_) (fun _ => ?_) | with_reducible refine Gd.beq (fun _ => ?_) (fun _ => ?_) | with_reducible refine Gd.bne (fun _ => ?_) (fun _ => ?_) | with_reducible refine Gd.not ?_ | refine Gd.t ?_ | refine Gd.f ?_ | with_reducible refine Gd.var (fun _ => ?_) (fun _ => ?_)) <;> first | (exfalso; omega) | skip) | (first | (show Gd _ _ _; first | with_reducible refine Gd.t ?_ | with_reducible refine Gd.f ?_ | with_reducible refine Gd.dec (fun _ => ?_) (fun _ => ?_) | with_reducible refine Gd.beq (fun _ => ?_) (fun _ => ?_) | with_reducible refine Gd.bne (fun _ => ?_) (fun _ => ?_) | with_reducible refine Gd.not ?_ | refine Gd.t ?_ | refine Gd.f ?_ | with_reducible refine Gd.var (fun _ => ?_) (fun _ => ?_)) | (show Sq _ _ _; refine Sq.mk ?_) | (show Ld1 _ _ _; first | (apply Ld1.blk; (focus ((repeat (first | assumption | (apply Blk.from; assumption))); done)); rfl) | (apply Ld1.rsF; (focus ((repeat (first | assumption | (apply RdS.from; assumption))); done)); assumption; rfl) | (apply Ld1.rs; (focus ((repeat (first | assumption | (apply RdS.from; assumption))); done)); assumption; rfl)) | (show Ld _ _ _ _; first | (apply Ld.blk; (focus ((repeat (first | assumption | (apply Blk.from; assumption))); done)); rfl) | (apply Ld.rs; (focus ((repeat (first | assumption | (apply RdS.from; assumption))); done)); assumption)) | (show Ix _ _ _ _ _; first | (apply Ix.rs; (focus ((repeat (first | assumption | (apply RdS.from; assumption))); done)); (first | with_reducible rfl | assumption); (first | assumption | omega)) | (apply Ix.arr; (focus ((repeat (first | assumption | (apply RdS.from; assumption))); done)); (first | assumption | (simp; done)); (first | with_reducible rfl | assumption); (first | assumption | omega))) | (show Al _ _ _ _; refine Al.mk (fun _ _ _ _ _ _ => ?_)) | (show St _ _ _ _; apply St.new; assumption; assumption; assumption; rfl; rfl; intro _ _ _ _)))
    · rename_i h4
      have e4 : k = 4 := by omega
      rw [if_pos e4] at hnx
      have hO4 := ho2
      (refine Sm.lit T.ok (cs := [.int .i64 (x.b)]) rfl rfl rfl rfl (by first | rfl | (rw [hw1]; rfl)) rfl rfl (fun p1 w1 hp1 hb1 e1 _ => ?_); have hr1 := rd_of_blk (l := [x.b]) hb1 (by simp); refine Sm.app (enc := ints) (m := [x.b]) T.ok rfl rfl rfl rfl rfl Nat.zero_lt_one (Own.ext hO4 e1) rfl hr1 rfl (fun _ _ => rfl) (fun y _ v hv => by simp [ints] at hv; subst hv; rfl) (by first | (simp; done) | (simp; decide)) (by simp) (Ext.size (w := w) (by (repeat (first | exact Ext.refl _ | assumption | (apply Ext.from; assumption))))) (fun A2 c2 w2 ho2 g2 hB2 => ?_); have e2 := Grow.ext (w0 := w) (by (repeat (first | exact Ext.refl _ | assumption | (apply Ext.from; assumption)))) g2 (Own.ext hO4 e1) (Nat.le_refl _))
      have hF4 : Fresh w A2 := fun b hb => (ho2.obk_lt b hb).2
      exact ⟨A2, c2, by rw [hnx]; rfl, by rw [hnx]; exact ho2.rd, e2, hF4⟩
    · rename_i h4
      have e4 : k ≠ 4 := by omega
      rw [if_neg e4] at hnx
      exact ⟨A2, c2, by rw [hnx]; rfl, by rw [hnx]; exact ho2.rd, e2, hF2⟩
  · rename_i wy _ _ _ hn h3
    have hO : Own ints 1 3 wy w.heap.size none 0 ([] : List Int) := Own.nil
    have hnx := nx_no (i := i) hk hk10 hn
    rw [if_pos (by omega)] at hnx
    (refine Sm.lit T.ok (cs := [.int .i64 (x.a)]) rfl rfl rfl rfl (by first | rfl | (rw [hw1]; rfl)) rfl rfl (fun p1 w1 hp1 hb1 e1 _ => ?_); have hr1 := rd_of_blk (l := [x.a]) hb1 (by simp); refine Sm.app (enc := ints) (m := [x.a]) T.ok rfl rfl rfl rfl rfl Nat.zero_lt_one (Own.ext hO e1) rfl hr1 rfl (fun _ _ => rfl) (fun y _ v hv => by simp [ints] at hv; subst hv; rfl) (by first | (simp; done) | (simp; decide)) (by simp) (Ext.size (w := w) (by (repeat (first | exact Ext.refl _ | assumption | (apply Ext.from; assumption))))) (fun A2 c2 w2 ho2 g2 hB2 => ?_); have e2 := Grow.ext (w0 := w) (by (repeat (first | exact Ext.refl _ | assumption | (apply Ext.from; assumption)))) g2 (Own.ext hO e1) (Nat.le_refl _))
    have hF2 : Fresh w A2 := fun b hb => (ho2.obk_lt b hb).2
    exact ⟨A2, c2, by rw [hnx]; rfl, by rw [hnx]; exact ho2.rd, e2, hF2⟩
  · rename_i wy _ _ _ hn h3 h4
    have hnx := nx_no (i := i) hk hk10 hn
    rw [if_neg (by omega)] at hnx
    exact ⟨none, 0, by rw [hnx]; rfl, by rw [hnx]; exact RdS.nil, by (repeat (first | exact Ext.refl _ | assumption | (apply Ext.from; assumption))), fresh_none⟩
end Go.Proofs.YtbbadmlekagloaaDoor
