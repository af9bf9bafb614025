/- layer prog: which functions are sound; own work. -/
import Derived.Test.YtbbadmlekagloaaDoorPgA
namespace Go.Proofs.YtbbadmlekagloaaDoor
open Go Go.Sh
attribute [local irreducible] Blk Ext RdS
def soundB (f : Fn) : Bool := shapedB f && f.code.all (aloneB f) && endsB f
theorem shaped_len {f : Fn} (h : shapedB f = true) : 1 ≤ f.code.length ∧ f.code.length ≤ 512 := by
  simp [shapedB] at h; omega
theorem Sound_c (f : Fn) (A : Option Addr) (c : Nat) (w : World) (hA : RdC w A f.code) :
    Cl Tryd.prog 48 #[f.v A c] w (fun v w' => v = .bool (soundB f) ∧ Ext w w') (fun _ _ => False) := by
  refine calls_ex (args := [f.v A c]) T.ok Tryd.func48 rfl rfl rfl rfl ?_
  refine Sq.mk ?_
  refine Al.mk fun p w1 hp hb e1 hs1 => ?_
  repeat' (first | (first | (show Gd _ _ _; first | with_reducible refine Gd.t ?_ | with_reducible refine Gd.f ?_ | with_reducible refine Gd.dec (fun _ => ?_) (fun _ => ?_) | with_reducible refine Gd.beq (fun _ => ?_) (fun _ => ?_) | with_reducible refine Gd.bne (fun _ => ?_) (fun _ => ?_) | with_reducible refine Gd.not ?_ | refine Gd.t ?_ | refine Gd.f ?_ | with_reducible refine Gd.var (fun _ => ?_) (fun _ => ?_)) | (show Sq _ _ _; refine Sq.mk ?_) | (show Ld1 _ _ _; first | (apply Ld1.blk; (focus ((repeat (first | assumption | (apply Blk.from; assumption))); done)); rfl) | (apply Ld1.rsF; (focus ((repeat (first | assumption | (apply RdS.from; assumption))); done)); assumption; rfl) | (apply Ld1.rs; (focus ((repeat (first | assumption | (apply RdS.from; assumption))); done)); assumption; rfl)) | (show Ld _ _ _ _; first | (apply Ld.blk; (focus ((repeat (first | assumption | (apply Blk.from; assumption))); done)); rfl) | (apply Ld.rs; (focus ((repeat (first | assumption | (apply RdS.from; assumption))); done)); assumption)) | (show Ix _ _ _ _ _; first | (apply Ix.rs; (focus ((repeat (first | assumption | (apply RdS.from; assumption))); done)); (first | with_reducible rfl | assumption); (first | assumption | omega)) | (apply Ix.arr; (focus ((repeat (first | assumption | (apply RdS.from; assumption))); done)); (first | assumption | (simp; done)); (first | with_reducible rfl | assumption); (first | assumption | omega))) | (show Al _ _ _ _; refine Al.mk (fun _ _ _ _ _ _ => ?_)) | (show St _ _ _ _; apply St.new; assumption; assumption; assumption; rfl; rfl; intro _ _ _ _)) | (show Cl _ _ _ _ _ _; refine Cl.mk (shaped_c _ _ _ _) ?_; rintro _ _ ⟨rfl, _⟩))
  all_goals (first | exact ⟨b_eq (by simp_all [soundB]), by (repeat (first | exact Ext.refl _ | assumption | (apply Ext.from; assumption)))⟩ | skip)
  · rename_i w2 e2 hsh
    have hsh : shapedB f = true := by simpa using hsh
    obtain ⟨hl1, hl2⟩ := shaped_len hsh
    have e02 := e1.trans e2
    have hb := hb.ext e2
    clear e1 e2 hs1
    refine Lp.g0 T.ok (σ := Nat) (fun i => [(3, .int .i64 (i : Int)), (1, .pointer (some ⟨p, 0, none⟩))])
      (fun i w' => i ≤ f.code.length ∧ (f.code.take i).all (aloneB f) = true ∧ Ext w2 w') (fun i _ => f.code.length - i) 0 rfl ⟨rfl, rfl, trivial⟩ ⟨by omega, by simp, Ext.refl _⟩ ?_
    intro i w3 ⟨hi, ht, e3⟩
    refine Sq.mk ?_
    refine Sq.mk ?_
    repeat' (first | (show Gd _ _ _; first | with_reducible refine Gd.t ?_ | with_reducible refine Gd.f ?_ | with_reducible refine Gd.dec (fun _ => ?_) (fun _ => ?_) | with_reducible refine Gd.beq (fun _ => ?_) (fun _ => ?_) | with_reducible refine Gd.bne (fun _ => ?_) (fun _ => ?_) | with_reducible refine Gd.not ?_ | refine Gd.t ?_ | refine Gd.f ?_ | with_reducible refine Gd.var (fun _ => ?_) (fun _ => ?_)) | (show Sq _ _ _; refine Sq.mk ?_) | (show Ld1 _ _ _; first | (apply Ld1.blk; (focus ((repeat (first | assumption | (apply Blk.from; assumption))); done)); rfl) | (apply Ld1.rsF; (focus ((repeat (first | assumption | (apply RdS.from; assumption))); done)); assumption; rfl) | (apply Ld1.rs; (focus ((repeat (first | assumption | (apply RdS.from; assumption))); done)); assumption; rfl)) | (show Ld _ _ _ _; first | (apply Ld.blk; (focus ((repeat (first | assumption | (apply Blk.from; assumption))); done)); rfl) | (apply Ld.rs; (focus ((repeat (first | assumption | (apply RdS.from; assumption))); done)); assumption)) | (show Ix _ _ _ _ _; first | (apply Ix.rs; (focus ((repeat (first | assumption | (apply RdS.from; assumption))); done)); (first | with_reducible rfl | assumption); (first | assumption | omega)) | (apply Ix.arr; (focus ((repeat (first | assumption | (apply RdS.from; assumption))); done)); (first | assumption | (simp; done)); (first | with_reducible rfl | assumption); (first | assumption | omega))) | (show Al _ _ _ _; refine Al.mk (fun _ _ _ _ _ _ => ?_)) | (show St _ _ _ _; apply St.new; assumption; assumption; assumption; rfl; rfl; intro _ _ _ _))
    · have hlt : i < f.code.length := by omega
      have hx := List.getElem?_eq_getElem hlt
      (show Dr _ _ _ _ _ _ _; refine Dr.quiet T.ok mixed (by kernel_rfl) (fun W hW => ?_))
      repeat' (first | (first | (show Gd _ _ _; first | with_reducible refine Gd.t ?_ | with_reducible refine Gd.f ?_ | with_reducible refine Gd.dec (fun _ => ?_) (fun _ => ?_) | with_reducible refine Gd.beq (fun _ => ?_) (fun _ => ?_) | with_reducible refine Gd.bne (fun _ => ?_) (fun _ => ?_) | with_reducible refine Gd.not ?_ | refine Gd.t ?_ | refine Gd.f ?_ | with_reducible refine Gd.var (fun _ => ?_) (fun _ => ?_)) | (show QLd1 _ _ _; first | (apply QLd1.blk hW; (focus ((repeat (first | assumption | (apply Blk.from; assumption))); done)); rfl) | (apply QLd1.rsF hW; (focus ((repeat (first | assumption | (apply RdS.from; assumption))); done)); assumption; rfl) | (apply QLd1.rs hW; (focus ((repeat (first | assumption | (apply RdS.from; assumption))); done)); assumption; rfl)) | (show QLd _ _ _ _; first | (apply QLd.blk hW; (focus ((repeat (first | assumption | (apply Blk.from; assumption))); done)); rfl) | (apply QLd.rs hW; (focus ((repeat (first | assumption | (apply RdS.from; assumption))); done)); assumption)) | (show Ix _ _ _ _ _; first | (apply Ix.rs; (focus ((repeat (first | assumption | (apply RdS.from; assumption))); done)); (first | with_reducible rfl | assumption); (first | assumption | omega)) | (apply Ix.arr; (focus ((repeat (first | assumption | (apply RdS.from; assumption))); done)); (first | assumption | (simp; done)); (first | with_reducible rfl | assumption); (first | assumption | omega)))) | (show QCl _ _ _ _ _ _; refine QCl.mk hW (fun _ _ => Cl.mk (alone_c _ _ _ _ _) (fun _ _ h => h)) ?_))
      intro w4 e4
      repeat' (first | (show Gd _ _ _; first | with_reducible refine Gd.t ?_ | with_reducible refine Gd.f ?_ | with_reducible refine Gd.dec (fun _ => ?_) (fun _ => ?_) | with_reducible refine Gd.beq (fun _ => ?_) (fun _ => ?_) | with_reducible refine Gd.bne (fun _ => ?_) (fun _ => ?_) | with_reducible refine Gd.not ?_ | refine Gd.t ?_ | refine Gd.f ?_ | with_reducible refine Gd.var (fun _ => ?_) (fun _ => ?_)) | (show Sq _ _ _; refine Sq.mk ?_) | (show Ld1 _ _ _; first | (apply Ld1.blk; (focus ((repeat (first | assumption | (apply Blk.from; assumption))); done)); rfl) | (apply Ld1.rsF; (focus ((repeat (first | assumption | (apply RdS.from; assumption))); done)); assumption; rfl) | (apply Ld1.rs; (focus ((repeat (first | assumption | (apply RdS.from; assumption))); done)); assumption; rfl)) | (show Ld _ _ _ _; first | (apply Ld.blk; (focus ((repeat (first | assumption | (apply Blk.from; assumption))); done)); rfl) | (apply Ld.rs; (focus ((repeat (first | assumption | (apply RdS.from; assumption))); done)); assumption)) | (show Ix _ _ _ _ _; first | (apply Ix.rs; (focus ((repeat (first | assumption | (apply RdS.from; assumption))); done)); (first | with_reducible rfl | assumption); (first | assumption | omega)) | (apply Ix.arr; (focus ((repeat (first | assumption | (apply RdS.from; assumption))); done)); (first | assumption | (simp; done)); (first | with_reducible rfl | assumption); (first | assumption | omega))) | (show Al _ _ _ _; refine Al.mk (fun _ _ _ _ _ _ => ?_)) | (show St _ _ _ _; apply St.new; assumption; assumption; assumption; rfl; rfl; intro _ _ _ _))
      · refine ⟨i + 1, ⟨at_int rfl (w64 (by simp) (by omega) (by omega)), rfl, trivial⟩, rfl, ⟨by omega, ?_, e3.trans e4⟩, by omega⟩
        rw [List.take_succ_eq_append_getElem hlt, List.all_append, ht]
        simp_all
      · refine ⟨b_eq ?_, by (repeat (first | exact Ext.refl _ | assumption | (apply Ext.from; assumption)))⟩
        have : f.code.all (aloneB f) = false := by
          rw [List.all_eq_false]
          exact ⟨_, List.getElem_mem hlt, by simp_all⟩
        simp [soundB, this]
    · have hi : i = f.code.length := by omega
      subst hi
      rw [List.take_length] at ht
      repeat' (first | (first | (show Gd _ _ _; first | with_reducible refine Gd.t ?_ | with_reducible refine Gd.f ?_ | with_reducible refine Gd.dec (fun _ => ?_) (fun _ => ?_) | with_reducible refine Gd.beq (fun _ => ?_) (fun _ => ?_) | with_reducible refine Gd.bne (fun _ => ?_) (fun _ => ?_) | with_reducible refine Gd.not ?_ | refine Gd.t ?_ | refine Gd.f ?_ | with_reducible refine Gd.var (fun _ => ?_) (fun _ => ?_)) | (show Sq _ _ _; refine Sq.mk ?_) | (show Ld1 _ _ _; first | (apply Ld1.blk; (focus ((repeat (first | assumption | (apply Blk.from; assumption))); done)); rfl) | (apply Ld1.rsF; (focus ((repeat (first | assumption | (apply RdS.from; assumption))); done)); assumption; rfl) | (apply Ld1.rs; (focus ((repeat (first | assumption | (apply RdS.from; assumption))); done)); assumption; rfl)) | (show Ld _ _ _ _; first | (apply Ld.blk; (focus ((repeat (first | assumption | (apply Blk.from; assumption))); done)); rfl) | (apply Ld.rs; (focus ((repeat (first | assumption | (apply RdS.from; assumption))); done)); assumption)) | (show Ix _ _ _ _ _; first | (apply Ix.rs; (focus ((repeat (first | assumption | (apply RdS.from; assumption))); done)); (first | with_reducible rfl | assumption); (first | assumption | omega)) | (apply Ix.arr; (focus ((repeat (first | assumption | (apply RdS.from; assumption))); done)); (first | assumption | (simp; done)); (first | with_reducible rfl | assumption); (first | assumption | omega))) | (show Al _ _ _ _; refine Al.mk (fun _ _ _ _ _ _ => ?_)) | (show St _ _ _ _; apply St.new; assumption; assumption; assumption; rfl; rfl; intro _ _ _ _)) | (show Cl _ _ _ _ _ _; refine Cl.mk (ends_c _ _ _ _ (by (focus ((repeat (first | assumption | (apply RdS.from; assumption))); done))) hl1 hl2) ?_; rintro _ _ ⟨rfl, _⟩))
      exact ⟨b_eq (by simp [soundB, hsh, ht]), by (repeat (first | exact Ext.refl _ | assumption | (apply Ext.from; assumption)))⟩

/-! the program's table, and its look at one instruction -/
structure Row where
  a : Int
  b : Int
  c : Int
  k : Int
  nx : Bool
def Row.enc (r : Row) : List Value := [.int .i64 r.a, .int .i64 r.b, .int .i64 r.c, .int .i64 r.k, .bool r.nx]
def rowOf : Nat → Row
  | 0 => ⟨1, 0, 0, 0, true⟩
  | 1 => ⟨1, 1, 0, 0, true⟩
  | 2 => ⟨1, 1, 1, 5, true⟩
  | 3 => ⟨3, 0, 0, 0, false⟩
  | 4 => ⟨1, 3, 0, 0, true⟩
  | 5 => ⟨2, 4, 0, 0, true⟩
  | 6 => ⟨0, 0, 0, 0, true⟩
  | 7 => ⟨1, 2, 0, 0, true⟩
  | 8 => ⟨1, 0, 0, 0, true⟩
  | _ => ⟨1, 0, 0, 0, false⟩
def rows10 : List Row := (List.range 10).map rowOf
abbrev RdG (w : World) : Prop := RdS Row.enc 5 w (some ⟨0, 0, none⟩) rows10
def fitsB (r n : Int) (f : Fn) (fs : Int) : Bool :=
  if r = 0 then true else if r = 1 then belowB n f.regs else if r = 2 then belowB n f.slots else if r = 3 then belowB n f.code.length
  else if r = 5 then belowB n 16 else if r = 4 then (if fs < 0 then true else belowB n fs) else belowB n 0
theorem fits_c (r n : Int) (f : Fn) (A : Option Addr) (c : Nat) (fs : Int) (w : World) :
    Cl Tryd.prog 82 #[.int .i64 r, .int .i64 n, f.v A c, .int .i64 fs] w (fun v w' => v = .bool (fitsB r n f fs) ∧ Ext w w') (fun _ _ => False) := by
  refine calls_ex (args := [.int .i64 r, .int .i64 n, f.v A c, .int .i64 fs]) T.ok Tryd.func82 rfl rfl rfl rfl ?_
  repeat' (first | (show Gd _ _ _; first | with_reducible refine Gd.t ?_ | with_reducible refine Gd.f ?_ | with_reducible refine Gd.dec (fun _ => ?_) (fun _ => ?_) | with_reducible refine Gd.beq (fun _ => ?_) (fun _ => ?_) | with_reducible refine Gd.bne (fun _ => ?_) (fun _ => ?_) | with_reducible refine Gd.not ?_ | refine Gd.t ?_ | refine Gd.f ?_ | with_reducible refine Gd.var (fun _ => ?_) (fun _ => ?_)) | (show Sq _ _ _; refine Sq.mk ?_) | (show Ld1 _ _ _; first | (apply Ld1.blk; (focus ((repeat (first | assumption | (apply Blk.from; assumption))); done)); rfl) | (apply Ld1.rsF; (focus ((repeat (first | assumption | (apply RdS.from; assumption))); done)); assumption; rfl) | (apply Ld1.rs; (focus ((repeat (first | assumption | (apply RdS.from; assumption))); done)); assumption; rfl)) | (show Ld _ _ _ _; first | (apply Ld.blk; (focus ((repeat (first | assumption | (apply Blk.from; assumption))); done)); rfl) | (apply Ld.rs; (focus ((repeat (first | assumption | (apply RdS.from; assumption))); done)); assumption)) | (show Ix _ _ _ _ _; first | (apply Ix.rs; (focus ((repeat (first | assumption | (apply RdS.from; assumption))); done)); (first | with_reducible rfl | assumption); (first | assumption | omega)) | (apply Ix.arr; (focus ((repeat (first | assumption | (apply RdS.from; assumption))); done)); (first | assumption | (simp; done)); (first | with_reducible rfl | assumption); (first | assumption | omega))) | (show Al _ _ _ _; refine Al.mk (fun _ _ _ _ _ _ => ?_)) | (show St _ _ _ _; apply St.new; assumption; assumption; assumption; rfl; rfl; intro _ _ _ _))
  all_goals (refine ⟨b_eq ?_, by (repeat (first | exact Ext.refl _ | assumption | (apply Ext.from; assumption)))⟩; simp_all [fitsB, belowB]; try omega)
theorem instr_range {f : Fn} {x : Ins} (h : x.kd < 0 ∨ 10 ≤ x.kd) : aloneB f x = false := by
  unfold aloneB
  split <;> first | omega | rfl
theorem alone_rows {f : Fn} {x : Ins} {k : Nat} (hk : x.kd = k) (h10 : k < 10) :
    aloneB f x = (fitsB (rowOf k).a x.a f (-1) && fitsB (rowOf k).b x.b f (-1) && fitsB (rowOf k).c x.c f (-1) && (if (rowOf k).k = 5 then decide (0 ≤ x.k ∧ x.k < 16) else true)) := by
  unfold aloneB
  have : k = 0 ∨ k = 1 ∨ k = 2 ∨ k = 3 ∨ k = 4 ∨ k = 5 ∨ k = 6 ∨ k = 7 ∨ k = 8 ∨ k = 9 := by omega
  rcases this with rfl | rfl | rfl | rfl | rfl | rfl | rfl | rfl | rfl | rfl <;> rw [hk] <;> simp [fitsB, rowOf]
theorem instrOK_nil (f : Fn) (A : Option Addr) (c : Nat) (x : Ins) (w : World) (hG : RdG w) :
    Cl Tryd.prog 76 #[x.v, f.v A c, .slice none 0 0] w (fun v w' => v = .bool (aloneB f x) ∧ Ext w w') (fun _ _ => False) := by
  by_cases hr : x.kd < 0 ∨ 10 ≤ x.kd
  · have ha := instr_range (f := f) hr
    refine calls_ex (args := [x.v, f.v A c, .slice none 0 0]) T.ok Tryd.func76 rfl rfl rfl rfl ?_
    repeat' (first | (show Gd _ _ _; first | with_reducible refine Gd.t ?_ | with_reducible refine Gd.f ?_ | with_reducible refine Gd.dec (fun _ => ?_) (fun _ => ?_) | with_reducible refine Gd.beq (fun _ => ?_) (fun _ => ?_) | with_reducible refine Gd.bne (fun _ => ?_) (fun _ => ?_) | with_reducible refine Gd.not ?_ | refine Gd.t ?_ | refine Gd.f ?_ | with_reducible refine Gd.var (fun _ => ?_) (fun _ => ?_)) | (show Sq _ _ _; refine Sq.mk ?_) | (show Ld1 _ _ _; first | (apply Ld1.blk; (focus ((repeat (first | assumption | (apply Blk.from; assumption))); done)); rfl) | (apply Ld1.rsF; (focus ((repeat (first | assumption | (apply RdS.from; assumption))); done)); assumption; rfl) | (apply Ld1.rs; (focus ((repeat (first | assumption | (apply RdS.from; assumption))); done)); assumption; rfl)) | (show Ld _ _ _ _; first | (apply Ld.blk; (focus ((repeat (first | assumption | (apply Blk.from; assumption))); done)); rfl) | (apply Ld.rs; (focus ((repeat (first | assumption | (apply RdS.from; assumption))); done)); assumption)) | (show Ix _ _ _ _ _; first | (apply Ix.rs; (focus ((repeat (first | assumption | (apply RdS.from; assumption))); done)); (first | with_reducible rfl | assumption); (first | assumption | omega)) | (apply Ix.arr; (focus ((repeat (first | assumption | (apply RdS.from; assumption))); done)); (first | assumption | (simp; done)); (first | with_reducible rfl | assumption); (first | assumption | omega))) | (show Al _ _ _ _; refine Al.mk (fun _ _ _ _ _ _ => ?_)) | (show St _ _ _ _; apply St.new; assumption; assumption; assumption; rfl; rfl; intro _ _ _ _))
    all_goals first | (exfalso; omega) | exact ⟨b_eq ha.symm, by (repeat (first | exact Ext.refl _ | assumption | (apply Ext.from; assumption)))⟩
  · obtain ⟨k, hk, hk10⟩ : ∃ k : Nat, x.kd = k ∧ k < 10 := ⟨x.kd.toNat, by omega, by omega⟩
    have hrow : rows10[k]? = some (rowOf k) := by simp [rows10, hk10]
    refine calls_ex (args := [x.v, f.v A c, .slice none 0 0]) T.ok Tryd.func76 rfl rfl rfl rfl ?_
    repeat' (first | ((show Gd _ _ _; first | with_reducible refine Gd.t ?_ | with_reducible refine Gd.f ?_ | with_reducible refine Gd.dec (fun _ => ?_) (fun _ => ?_) | with_reducible refine Gd.beq (fun _ => ?_) (fun _ => ?_) | with_reducible refine Gd.bne (fun _ => ?_) (fun _ => ?_) | with_reducible refine Gd.not ?_ | refine Gd.t ?_ | refine Gd.f ?_ | with_reducible refine Gd.var (fun _ => ?_) (fun _ => ?_)) <;> first | (exfalso; omega) | skip) | (first | (show Gd _ _ _; first | with_reducible refine Gd.t ?_ | with_reducible refine Gd.f ?_ | with_reducible refine Gd.dec (fun _ => ?_) (fun _ => ?_) | with_reducible refine Gd.beq (fun _ => ?_) (fun _ => ?_) | with_reducible refine Gd.bne (fun _ => ?_) (fun _ => ?_) | with_reducible refine Gd.not ?_ | refine Gd.t ?_ | refine Gd.f ?_ | with_reducible refine Gd.var (fun _ => ?_) (fun _ => ?_)) | (show Sq _ _ _; refine Sq.mk ?_) | (show Ld1 _ _ _; first | (apply Ld1.blk; (focus ((repeat (first | assumption | (apply Blk.from; assumption))); done)); rfl) | (apply Ld1.rsF; (focus ((repeat (first | assumption | (apply RdS.from; assumption))); done)); assumption; rfl) | (apply Ld1.rs; (focus ((repeat (first | assumption | (apply RdS.from; assumption))); done)); assumption; rfl)) | (show Ld _ _ _ _; first | (apply Ld.blk; (focus ((repeat (first | assumption | (apply Blk.from; assumption))); done)); rfl) | (apply Ld.rs; (focus ((repeat (first | assumption | (apply RdS.from; assumption))); done)); assumption)) | (show Ix _ _ _ _ _; first | (apply Ix.rs; (focus ((repeat (first | assumption | (apply RdS.from; assumption))); done)); (first | with_reducible rfl | assumption); (first | assumption | omega)) | (apply Ix.arr; (focus ((repeat (first | assumption | (apply RdS.from; assumption))); done)); (first | assumption | (simp; done)); (first | with_reducible rfl | assumption); (first | assumption | omega))) | (show Al _ _ _ _; refine Al.mk (fun _ _ _ _ _ _ => ?_)) | (show St _ _ _ _; apply St.new; assumption; assumption; assumption; rfl; rfl; intro _ _ _ _)) | (show Ix _ _ _ _ _; apply Ix.arr; (focus ((repeat (first | assumption | (apply RdS.from; assumption))); done)); rfl; exact hk; exact hk10) | (show Cl _ _ _ _ _ _; refine Cl.mk (fits_c _ _ _ _ _ _ _) ?_; rintro _ _ ⟨rfl, _⟩))
    all_goals (refine ⟨b_eq ?_, by (repeat (first | exact Ext.refl _ | assumption | (apply Ext.from; assumption)))⟩; rw [alone_rows hk hk10]; simp_all <;> omega)
end Go.Proofs.YtbbadmlekagloaaDoor
