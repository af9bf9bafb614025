/- layer prog: the data, and the small functions of the program and of the reference; own work. -/
import Derived.Test.YtbbadmlekagloaaDoorShG
import Derived.Test.YtbbadmlekagloaaDoorShT
namespace Go.Proofs.YtbbadmlekagloaaDoor
open Go Go.Sh
attribute [local irreducible] Blk Ext RdS
theorem mixed : Tryd.prog.follows .mixedOrders = true := by kernel_rfl
structure Ins where
  kd : Int
  a : Int
  b : Int
  c : Int
  k : Int
deriving DecidableEq
structure Fn where
  params : Int
  regs : Int
  slots : Int
  code : List Ins
deriving DecidableEq
def Ins.enc (x : Ins) : List Value := [.int .i64 x.kd, .int .i64 x.a, .int .i64 x.b, .int .i64 x.c, .int .i64 x.k]
def Ins.v (x : Ins) : Value := .agg #[.int .i64 x.kd, .int .i64 x.a, .int .i64 x.b, .int .i64 x.c, .int .i64 x.k]
def Fn.v (f : Fn) (A : Option Addr) (c : Nat) : Value := .agg #[.int .i64 f.params, .int .i64 f.regs, .int .i64 f.slots, .slice A f.code.length c]
abbrev RdC (w : World) (A : Option Addr) (l : List Ins) : Prop := RdS Ins.enc 5 w A l
def shapedB (f : Fn) : Bool := decide (0 ≤ f.params ∧ f.params ≤ 8 ∧ 1 ≤ f.regs ∧ f.params ≤ f.regs ∧ f.regs ≤ 16 ∧ 0 ≤ f.slots ∧ f.slots ≤ 8 ∧ 1 ≤ f.code.length ∧ f.code.length ≤ 512)
theorem shaped_c (f : Fn) (A : Option Addr) (c : Nat) (w : World) :
    Cl Tryd.prog 59 #[f.v A c] w (fun v w' => v = .bool (shapedB f) ∧ Ext w w') (fun _ _ => False) := by
  refine calls_ex (args := [f.v A c]) T.ok Tryd.func59 rfl rfl rfl rfl ?_
  repeat' (first | (show Gd _ _ _; first | with_reducible refine Gd.t ?_ | with_reducible refine Gd.f ?_ | with_reducible refine Gd.dec (fun _ => ?_) (fun _ => ?_) | with_reducible refine Gd.beq (fun _ => ?_) (fun _ => ?_) | with_reducible refine Gd.bne (fun _ => ?_) (fun _ => ?_) | with_reducible refine Gd.not ?_ | refine Gd.t ?_ | refine Gd.f ?_ | with_reducible refine Gd.var (fun _ => ?_) (fun _ => ?_)) | (show Sq _ _ _; refine Sq.mk ?_) | (show Ld1 _ _ _; first | (apply Ld1.blk; (focus ((repeat (first | assumption | (apply Blk.from; assumption))); done)); rfl) | (apply Ld1.rsF; (focus ((repeat (first | assumption | (apply RdS.from; assumption))); done)); assumption; rfl) | (apply Ld1.rs; (focus ((repeat (first | assumption | (apply RdS.from; assumption))); done)); assumption; rfl)) | (show Ld _ _ _ _; first | (apply Ld.blk; (focus ((repeat (first | assumption | (apply Blk.from; assumption))); done)); rfl) | (apply Ld.rs; (focus ((repeat (first | assumption | (apply RdS.from; assumption))); done)); assumption)) | (show Ix _ _ _ _ _; first | (apply Ix.rs; (focus ((repeat (first | assumption | (apply RdS.from; assumption))); done)); (first | with_reducible rfl | assumption); (first | assumption | omega)) | (apply Ix.arr; (focus ((repeat (first | assumption | (apply RdS.from; assumption))); done)); (first | assumption | (simp; done)); (first | with_reducible rfl | assumption); (first | assumption | omega))) | (show Al _ _ _ _; refine Al.mk (fun _ _ _ _ _ _ => ?_)) | (show St _ _ _ _; apply St.new; assumption; assumption; assumption; rfl; rfl; intro _ _ _ _))
  all_goals exact ⟨b_eq (by (first | rfl | (simp [shapedB]; done) | (simp [shapedB]; omega) | (rw [Bool.eq_iff_iff]; simp [shapedB]; omega) | (rw [Bool.eq_iff_iff]; simp [shapedB]; done))), by (repeat (first | exact Ext.refl _ | assumption | (apply Ext.from; assumption)))⟩
theorem shapeOK_c (f : Fn) (A : Option Addr) (c : Nat) (w : World) :
    Cl Tryd.prog 65 #[f.v A c] w (fun v w' => v = .bool (shapedB f) ∧ Ext w w') (fun _ _ => False) := by
  refine calls_ex (args := [f.v A c]) T.ok Tryd.func65 rfl rfl rfl rfl ?_
  repeat' (first | (show Gd _ _ _; first | with_reducible refine Gd.t ?_ | with_reducible refine Gd.f ?_ | with_reducible refine Gd.dec (fun _ => ?_) (fun _ => ?_) | with_reducible refine Gd.beq (fun _ => ?_) (fun _ => ?_) | with_reducible refine Gd.bne (fun _ => ?_) (fun _ => ?_) | with_reducible refine Gd.not ?_ | refine Gd.t ?_ | refine Gd.f ?_ | with_reducible refine Gd.var (fun _ => ?_) (fun _ => ?_)) | (show Sq _ _ _; refine Sq.mk ?_) | (show Ld1 _ _ _; first | (apply Ld1.blk; (focus ((repeat (first | assumption | (apply Blk.from; assumption))); done)); rfl) | (apply Ld1.rsF; (focus ((repeat (first | assumption | (apply RdS.from; assumption))); done)); assumption; rfl) | (apply Ld1.rs; (focus ((repeat (first | assumption | (apply RdS.from; assumption))); done)); assumption; rfl)) | (show Ld _ _ _ _; first | (apply Ld.blk; (focus ((repeat (first | assumption | (apply Blk.from; assumption))); done)); rfl) | (apply Ld.rs; (focus ((repeat (first | assumption | (apply RdS.from; assumption))); done)); assumption)) | (show Ix _ _ _ _ _; first | (apply Ix.rs; (focus ((repeat (first | assumption | (apply RdS.from; assumption))); done)); (first | with_reducible rfl | assumption); (first | assumption | omega)) | (apply Ix.arr; (focus ((repeat (first | assumption | (apply RdS.from; assumption))); done)); (first | assumption | (simp; done)); (first | with_reducible rfl | assumption); (first | assumption | omega))) | (show Al _ _ _ _; refine Al.mk (fun _ _ _ _ _ _ => ?_)) | (show St _ _ _ _; apply St.new; assumption; assumption; assumption; rfl; rfl; intro _ _ _ _))
  all_goals exact ⟨b_eq (by (first | rfl | (simp [shapedB]; done) | (simp [shapedB]; omega) | (rw [Bool.eq_iff_iff]; simp [shapedB]; omega) | (rw [Bool.eq_iff_iff]; simp [shapedB]; done))), by (repeat (first | exact Ext.refl _ | assumption | (apply Ext.from; assumption)))⟩
def belowB (x n : Int) : Bool := decide (0 ≤ x ∧ x < n)
theorem below_c (x n : Int) (w : World) :
    Cl Tryd.prog 56 #[.int .i64 x, .int .i64 n] w (fun v w' => v = .bool (belowB x n) ∧ Ext w w') (fun _ _ => False) := by
  refine calls_ex (args := [.int .i64 x, .int .i64 n]) T.ok Tryd.func56 rfl rfl rfl rfl ?_
  repeat' (first | (show Gd _ _ _; first | with_reducible refine Gd.t ?_ | with_reducible refine Gd.f ?_ | with_reducible refine Gd.dec (fun _ => ?_) (fun _ => ?_) | with_reducible refine Gd.beq (fun _ => ?_) (fun _ => ?_) | with_reducible refine Gd.bne (fun _ => ?_) (fun _ => ?_) | with_reducible refine Gd.not ?_ | refine Gd.t ?_ | refine Gd.f ?_ | with_reducible refine Gd.var (fun _ => ?_) (fun _ => ?_)) | (show Sq _ _ _; refine Sq.mk ?_) | (show Ld1 _ _ _; first | (apply Ld1.blk; (focus ((repeat (first | assumption | (apply Blk.from; assumption))); done)); rfl) | (apply Ld1.rsF; (focus ((repeat (first | assumption | (apply RdS.from; assumption))); done)); assumption; rfl) | (apply Ld1.rs; (focus ((repeat (first | assumption | (apply RdS.from; assumption))); done)); assumption; rfl)) | (show Ld _ _ _ _; first | (apply Ld.blk; (focus ((repeat (first | assumption | (apply Blk.from; assumption))); done)); rfl) | (apply Ld.rs; (focus ((repeat (first | assumption | (apply RdS.from; assumption))); done)); assumption)) | (show Ix _ _ _ _ _; first | (apply Ix.rs; (focus ((repeat (first | assumption | (apply RdS.from; assumption))); done)); (first | with_reducible rfl | assumption); (first | assumption | omega)) | (apply Ix.arr; (focus ((repeat (first | assumption | (apply RdS.from; assumption))); done)); (first | assumption | (simp; done)); (first | with_reducible rfl | assumption); (first | assumption | omega))) | (show Al _ _ _ _; refine Al.mk (fun _ _ _ _ _ _ => ?_)) | (show St _ _ _ _; apply St.new; assumption; assumption; assumption; rfl; rfl; intro _ _ _ _))
  all_goals exact ⟨b_eq (by (first | rfl | (simp [belowB]; done) | (simp [belowB]; omega) | (rw [Bool.eq_iff_iff]; simp [belowB]; omega) | (rw [Bool.eq_iff_iff]; simp [belowB]; done))), by (repeat (first | exact Ext.refl _ | assumption | (apply Ext.from; assumption)))⟩
def aloneB (f : Fn) (c : Ins) : Bool :=
  match c.kd with
  | 0 => belowB c.a f.regs
  | 8 => belowB c.a f.regs
  | 9 => belowB c.a f.regs
  | 1 => belowB c.a f.regs && belowB c.b f.regs
  | 2 => belowB c.a f.regs && belowB c.b f.regs && belowB c.c f.regs && decide (0 ≤ c.k ∧ c.k < 16)
  | 3 => belowB c.a f.code.length
  | 4 => belowB c.a f.regs && belowB c.b f.code.length
  | 5 => belowB c.a f.slots
  | 6 => true
  | 7 => belowB c.a f.regs && belowB c.b f.slots
  | _ => false
theorem alone_c (f : Fn) (A : Option Addr) (c : Nat) (x : Ins) (w : World) :
    Cl Tryd.prog 60 #[f.v A c, x.v] w (fun v w' => v = .bool (aloneB f x) ∧ Ext w w') (fun _ _ => False) := by
  refine calls_ex (args := [f.v A c, x.v]) T.ok Tryd.func60 rfl rfl rfl rfl ?_
  repeat' (first | (first | (show Gd _ _ _; first | with_reducible refine Gd.t ?_ | with_reducible refine Gd.f ?_ | with_reducible refine Gd.dec (fun _ => ?_) (fun _ => ?_) | with_reducible refine Gd.beq (fun _ => ?_) (fun _ => ?_) | with_reducible refine Gd.bne (fun _ => ?_) (fun _ => ?_) | with_reducible refine Gd.not ?_ | refine Gd.t ?_ | refine Gd.f ?_ | with_reducible refine Gd.var (fun _ => ?_) (fun _ => ?_)) | (show Sq _ _ _; refine Sq.mk ?_) | (show Ld1 _ _ _; first | (apply Ld1.blk; (focus ((repeat (first | assumption | (apply Blk.from; assumption))); done)); rfl) | (apply Ld1.rsF; (focus ((repeat (first | assumption | (apply RdS.from; assumption))); done)); assumption; rfl) | (apply Ld1.rs; (focus ((repeat (first | assumption | (apply RdS.from; assumption))); done)); assumption; rfl)) | (show Ld _ _ _ _; first | (apply Ld.blk; (focus ((repeat (first | assumption | (apply Blk.from; assumption))); done)); rfl) | (apply Ld.rs; (focus ((repeat (first | assumption | (apply RdS.from; assumption))); done)); assumption)) | (show Ix _ _ _ _ _; first | (apply Ix.rs; (focus ((repeat (first | assumption | (apply RdS.from; assumption))); done)); (first | with_reducible rfl | assumption); (first | assumption | omega)) | (apply Ix.arr; (focus ((repeat (first | assumption | (apply RdS.from; assumption))); done)); (first | assumption | (simp; done)); (first | with_reducible rfl | assumption); (first | assumption | omega))) | (show Al _ _ _ _; refine Al.mk (fun _ _ _ _ _ _ => ?_)) | (show St _ _ _ _; apply St.new; assumption; assumption; assumption; rfl; rfl; intro _ _ _ _)) | (show Cl _ _ _ _ _ _; refine Cl.mk (below_c _ _ _) ?_; rintro _ _ ⟨rfl, _⟩))
  all_goals (refine ⟨b_eq ?_, by (repeat (first | exact Ext.refl _ | assumption | (apply Ext.from; assumption)))⟩; unfold aloneB; split <;> simp_all <;> omega)
def endsB (f : Fn) : Bool := match f.code.getLast? with | some x => x.kd == 3 || x.kd == 9 | none => false
theorem last_get {f : Fn} (h : 1 ≤ f.code.length) : ∃ x, f.code[f.code.length - 1]? = some x ∧ endsB f = (x.kd == 3 || x.kd == 9) := by
  have : f.code ≠ [] := fun e => by simp [e] at h
  refine ⟨f.code.getLast this, by simp [List.getLast_eq_getElem], ?_⟩
  simp [endsB, List.getLast?_eq_some_getLast this]
theorem ends_c (f : Fn) (A : Option Addr) (c : Nat) (w : World) (hA : RdC w A f.code) (h1 : 1 ≤ f.code.length) (h2 : f.code.length ≤ 512) :
    Cl Tryd.prog 62 #[f.v A c] w (fun v w' => v = .bool (endsB f) ∧ Ext w w') (fun _ _ => False) := by
  obtain ⟨x, hx, he⟩ := last_get h1
  have hl : IntKind.i64.wrap ((f.code.length : Int) - 1) = ((f.code.length - 1 : Nat) : Int) := w64 (by omega) (by omega) (by omega)
  refine calls_ex (args := [f.v A c]) T.ok Tryd.func62 rfl rfl rfl rfl ?_
  repeat' (first | (show Gd _ _ _; first | with_reducible refine Gd.t ?_ | with_reducible refine Gd.f ?_ | with_reducible refine Gd.dec (fun _ => ?_) (fun _ => ?_) | with_reducible refine Gd.beq (fun _ => ?_) (fun _ => ?_) | with_reducible refine Gd.bne (fun _ => ?_) (fun _ => ?_) | with_reducible refine Gd.not ?_ | refine Gd.t ?_ | refine Gd.f ?_ | with_reducible refine Gd.var (fun _ => ?_) (fun _ => ?_)) | (show Sq _ _ _; refine Sq.mk ?_) | (show Ld1 _ _ _; first | (apply Ld1.blk; (focus ((repeat (first | assumption | (apply Blk.from; assumption))); done)); rfl) | (apply Ld1.rsF; (focus ((repeat (first | assumption | (apply RdS.from; assumption))); done)); assumption; rfl) | (apply Ld1.rs; (focus ((repeat (first | assumption | (apply RdS.from; assumption))); done)); assumption; rfl)) | (show Ld _ _ _ _; first | (apply Ld.blk; (focus ((repeat (first | assumption | (apply Blk.from; assumption))); done)); rfl) | (apply Ld.rs; (focus ((repeat (first | assumption | (apply RdS.from; assumption))); done)); assumption)) | (show Ix _ _ _ _ _; first | (apply Ix.rs; (focus ((repeat (first | assumption | (apply RdS.from; assumption))); done)); (first | with_reducible rfl | assumption); (first | assumption | omega)) | (apply Ix.arr; (focus ((repeat (first | assumption | (apply RdS.from; assumption))); done)); (first | assumption | (simp; done)); (first | with_reducible rfl | assumption); (first | assumption | omega))) | (show Al _ _ _ _; refine Al.mk (fun _ _ _ _ _ _ => ?_)) | (show St _ _ _ _; apply St.new; assumption; assumption; assumption; rfl; rfl; intro _ _ _ _))
  all_goals (refine ⟨b_eq ?_, by (repeat (first | exact Ext.refl _ | assumption | (apply Ext.from; assumption)))⟩; simp_all)
theorem lastOK_c (f : Fn) (A : Option Addr) (c : Nat) (w : World) (hA : RdC w A f.code) (h1 : 1 ≤ f.code.length) (h2 : f.code.length ≤ 512) :
    Cl Tryd.prog 77 #[f.v A c] w (fun v w' => v = .bool (endsB f) ∧ Ext w w') (fun _ _ => False) := by
  obtain ⟨x, hx, he⟩ := last_get h1
  have hl : IntKind.i64.wrap ((f.code.length : Int) - 1) = ((f.code.length - 1 : Nat) : Int) := w64 (by omega) (by omega) (by omega)
  refine calls_ex (args := [f.v A c]) T.ok Tryd.func77 rfl rfl rfl rfl ?_
  repeat' (first | (show Gd _ _ _; first | with_reducible refine Gd.t ?_ | with_reducible refine Gd.f ?_ | with_reducible refine Gd.dec (fun _ => ?_) (fun _ => ?_) | with_reducible refine Gd.beq (fun _ => ?_) (fun _ => ?_) | with_reducible refine Gd.bne (fun _ => ?_) (fun _ => ?_) | with_reducible refine Gd.not ?_ | refine Gd.t ?_ | refine Gd.f ?_ | with_reducible refine Gd.var (fun _ => ?_) (fun _ => ?_)) | (show Sq _ _ _; refine Sq.mk ?_) | (show Ld1 _ _ _; first | (apply Ld1.blk; (focus ((repeat (first | assumption | (apply Blk.from; assumption))); done)); rfl) | (apply Ld1.rsF; (focus ((repeat (first | assumption | (apply RdS.from; assumption))); done)); assumption; rfl) | (apply Ld1.rs; (focus ((repeat (first | assumption | (apply RdS.from; assumption))); done)); assumption; rfl)) | (show Ld _ _ _ _; first | (apply Ld.blk; (focus ((repeat (first | assumption | (apply Blk.from; assumption))); done)); rfl) | (apply Ld.rs; (focus ((repeat (first | assumption | (apply RdS.from; assumption))); done)); assumption)) | (show Ix _ _ _ _ _; first | (apply Ix.rs; (focus ((repeat (first | assumption | (apply RdS.from; assumption))); done)); (first | with_reducible rfl | assumption); (first | assumption | omega)) | (apply Ix.arr; (focus ((repeat (first | assumption | (apply RdS.from; assumption))); done)); (first | assumption | (simp; done)); (first | with_reducible rfl | assumption); (first | assumption | omega))) | (show Al _ _ _ _; refine Al.mk (fun _ _ _ _ _ _ => ?_)) | (show St _ _ _ _; apply St.new; assumption; assumption; assumption; rfl; rfl; intro _ _ _ _))
  all_goals (refine ⟨b_eq ?_, by (repeat (first | exact Ext.refl _ | assumption | (apply Ext.from; assumption)))⟩; simp_all)
end Go.Proofs.YtbbadmlekagloaaDoor
