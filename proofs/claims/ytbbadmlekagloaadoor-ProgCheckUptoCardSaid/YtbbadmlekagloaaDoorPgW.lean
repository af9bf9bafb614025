/- layer prog: plain: paths through a function's code, and the program's Trail; own work. -/
import Derived.Test.YtbbadmlekagloaaDoorPgR
namespace Go.Proofs.YtbbadmlekagloaaDoor
open Go Go.Sh
attribute [local irreducible] Blk Ext RdS
/-- a path from the start to a point, backward -/
structure Back (f : Fn) (slot : Int) (bk : List Pt) (goal : Pt) : Prop where
  head : bk[0]? = some goal
  step : ∀ (i : Nat) (x y : Pt), bk[i]? = some y → bk[i + 1]? = some x → y ∈ succs f slot x
theorem Back.one (f : Fn) (slot : Int) (goal : Pt) : Back f slot [goal] goal := ⟨rfl, fun i x y _ h => by simp at h⟩
theorem Back.snoc {f : Fn} {slot : Int} {bk : List Pt} {goal x : Pt} (h : Back f slot bk goal) (hl : ∀ y, bk.getLast? = some y → y ∈ succs f slot x) : Back f slot (bk ++ [x]) goal := by
  have h0 : 0 < bk.length := (List.getElem?_eq_some_iff.1 h.head).1
  refine ⟨by rw [List.getElem?_append_left h0]; exact h.head, fun i x' y hy hx => ?_⟩
  rcases Nat.lt_or_ge (i + 1) bk.length with hi | hi
  · rw [List.getElem?_append_left (by omega)] at hy
    rw [List.getElem?_append_left hi] at hx
    exact h.step i x' y hy hx
  · have : i + 1 = bk.length := by have := (List.getElem?_eq_some_iff.1 hx).1; simp at this; omega
    rw [this] at hx
    simp at hx; subst hx
    rw [List.getElem?_append_left (by omega)] at hy
    refine hl y ?_
    rw [List.getLast?_eq_getElem?, show bk.length - 1 = i by omega]
    exact hy
theorem fnd_at {κ ν : Type} [DecidableEq κ] {m : List (κ × ν)} {j : Nat} {k : κ} {v : ν} (hn : (m.map (·.1)).Nodup) (h : m[j]? = some (k, v)) : fnd m k = some v := by
  unfold fnd
  induction m generalizing j with
  | nil => simp at h
  | cons x r ih =>
    obtain ⟨a, b⟩ := x
    simp only [List.map_cons, List.nodup_cons] at hn
    cases j with
    | zero => simp at h; obtain ⟨rfl, rfl⟩ := h; simp
    | succ j =>
      simp at h
      have hne : a ≠ k := fun e => hn.1 (by rw [e]; exact List.mem_map.2 ⟨(k, v), List.mem_of_getElem? h, rfl⟩)
      rw [List.find?_cons_of_neg (by simpa using hne)]
      exact ih hn.2 h
/-- what Trail has to answer: places of a path to that point -/
def GoodPath (f : Fn) (slot : Int) (goal : Pt) (l : List Int) : Prop := ∃ pts : List Pt, l = pl pts ∧ pts[0]? = some (0, 1) ∧ pts.getLast? = some goal ∧ (∀ (i : Nat) (x y : Pt), pts[i]? = some x → pts[i + 1]? = some y → y ∈ succs f slot x) ∧
  pts.length ≤ 3 * f.code.length ∧ ∀ x ∈ pts, x.1 < f.code.length ∧ okS x.2
theorem Back.path {f : Fn} {slot : Int} {bk : List Pt} {goal : Pt} (h : Back f slot bk goal) (hl : bk.getLast? = some (0, 1)) (hlen : bk.length ≤ 3 * f.code.length) (hin : ∀ x ∈ bk, x.1 < f.code.length ∧ okS x.2) : GoodPath f slot goal (pl bk.reverse) := by
  have h0 : 0 < bk.length := (List.getElem?_eq_some_iff.1 h.head).1
  refine ⟨bk.reverse, rfl, ?_, ?_, fun i x y hx hy => ?_, by simpa using hlen, fun x hx => hin x (by simpa using hx)⟩
  · rw [← List.head?_eq_getElem?, List.head?_reverse]; exact hl
  · rw [List.getLast?_reverse, List.head?_eq_getElem?]; exact h.head
  · have hi : i + 1 < bk.length := by simpa using (List.getElem?_eq_some_iff.1 hy).1
    rw [List.getElem?_reverse (by omega)] at hx
    rw [List.getElem?_reverse hi] at hy
    refine h.step (bk.length - 1 - (i + 1)) x y hy ?_
    rw [show bk.length - 1 - (i + 1) + 1 = bk.length - 1 - i by omega]
    exact hx
theorem trail1_c (x g : Pt) (p : Nat) (w : World) (hb : Blk w p 82 (encP g)) : Cl Tryd.prog 55 (cat [kvP x] [.pointer (some ⟨p, 0, none⟩)]).toArray w (fun v w' => v = .bool (decide (x = g)) ∧ Ext w w') (fun _ _ => False) := by
  refine calls_ex (args := [kvP x, .pointer (some ⟨p, 0, none⟩)]) T.ok Tryd.func55 rfl rfl rfl rfl ?_
  repeat' (first | (show Gd _ _ _; first | with_reducible refine Gd.t ?_ | with_reducible refine Gd.f ?_ | with_reducible refine Gd.dec (fun _ => ?_) (fun _ => ?_) | with_reducible refine Gd.beq (fun _ => ?_) (fun _ => ?_) | with_reducible refine Gd.bne (fun _ => ?_) (fun _ => ?_) | with_reducible refine Gd.not ?_ | refine Gd.t ?_ | refine Gd.f ?_ | with_reducible refine Gd.var (fun _ => ?_) (fun _ => ?_)) | (show Sq _ _ _; refine Sq.mk ?_) | (show Ld1 _ _ _; first | (apply Ld1.blk; (focus ((repeat (first | assumption | (apply Blk.from; assumption))); done)); rfl) | (apply Ld1.rsF; (focus ((repeat (first | assumption | (apply RdS.from; assumption))); done)); assumption; rfl) | (apply Ld1.rs; (focus ((repeat (first | assumption | (apply RdS.from; assumption))); done)); assumption; rfl)) | (show Ld _ _ _ _; first | (apply Ld.blk; (focus ((repeat (first | assumption | (apply Blk.from; assumption))); done)); rfl) | (apply Ld.rs; (focus ((repeat (first | assumption | (apply RdS.from; assumption))); done)); assumption)) | (show Ix _ _ _ _ _; first | (apply Ix.rs; (focus ((repeat (first | assumption | (apply RdS.from; assumption))); done)); (first | with_reducible rfl | assumption); (first | assumption | omega)) | (apply Ix.arr; (focus ((repeat (first | assumption | (apply RdS.from; assumption))); done)); (first | assumption | (simp; done)); (first | with_reducible rfl | assumption); (first | assumption | omega))) | (show Al _ _ _ _; refine Al.mk (fun _ _ _ _ _ _ => ?_)) | (show St _ _ _ _; apply St.new; assumption; assumption; assumption; rfl; rfl; intro _ _ _ _))
  refine ⟨b_eq ?_, by (repeat (first | exact Ext.refl _ | assumption | (apply Ext.from; assumption)))⟩
  obtain ⟨a, b⟩ := x
  obtain ⟨c, d⟩ := g
  rw [Bool.eq_iff_iff]
  simp
  omega
end Go.Proofs.YtbbadmlekagloaaDoor
