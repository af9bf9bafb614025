/- own work: PhM, PhN, PhO, PhY, PhZ, ShQ, PgS, PgU, PrA, PrB -/
import Derived.ReadAgain
import Derived.ChangeArms
import Derived.ChangeSame
import Derived.ChangeShapes
import Derived.Lib.LaidTab
import Derived.Test.YtbbadmlekagloaaDoorRows
import Derived.OpenShut
import Derived.Test.YtbbadmlekagloaaDoorCards
import Derived.Test.YtbbadmlekagloaaDoorTie
import Derived.DataShut
import Derived.WalkKit
import Derived.ProofKit
import Derived.Deep.DeepHandedRow
import Derived.WideShapes
import Derived.SizedLaws
import Derived.Test.YtbbadmlekagloaaDoorMT5
namespace Go.Proofs.YtbbadmlekagloaaDoor
open Go Go.Sh
set_option linter.unusedVariables false
set_option linter.unusedSimpArgs false
attribute [local irreducible] Blk Ext RdS
theorem kd_cases {f : Fn} {x : Ins} (h : aloneB f x = true) : x.kd = 0 ∨ x.kd = 1 ∨ x.kd = 2 ∨ x.kd = 3 ∨ x.kd = 4 ∨ x.kd = 5 ∨ x.kd = 6 ∨ x.kd = 7 ∨ x.kd = 8 ∨ x.kd = 9 := by
  rcases Classical.em (x.kd < 0 ∨ 10 ≤ x.kd) with h1 | h1
  · rw [instr_range h1] at h; simp at h
  · omega
set_option maxHeartbeats 1000000 in
theorem fitsLaw_c (f : Fn) (A : Option Addr) (c : Nat) (x : Ins) (B : Option Addr) (l : List FE) (d : Nat) (w : World) (hB : RdS FE.enc 4 w B l) (ha : aloneB f x = true) (hcl : calledB (fns l) f x = true) (hr : 1 ≤ f.regs ∧ f.regs ≤ 16) :
    Cl Tryd.prog 35 #[pv B l.length d, f.v A c, x.v] w (fun v w' => v = .bool true ∧ Ext w w') (fun _ _ => False) := by
  have hkd := kd_cases ha
  refine calls_ex (args := [pv B l.length d, f.v A c, x.v]) T.ok Tryd.func35 rfl rfl rfl rfl ?_
  have H := Hp.begin nw w
  by_cases h5 : x.kd = 5
  · simp only [calledB, h5, if_true, Bool.and_eq_true, Bool.or_eq_true, belowB, decide_eq_true_eq, fns_len] at hcl
    simp only [aloneB, h5, belowB, decide_eq_true_eq] at ha
    obtain ⟨k, hk⟩ : ∃ k : Nat, x.b = k := ⟨x.b.toNat, by omega⟩
    have hkl : k < l.length := by omega
    obtain ⟨y, hy⟩ : ∃ y, l[k]? = some y := ⟨_, List.getElem?_eq_getElem hkl⟩
    have hp := parOf_at hk hy
    rw [hp] at hcl
    have hw : 0 ≤ x.c ∧ x.c < f.regs → IntKind.i64.wrap (f.regs - x.c) = f.regs - x.c := fun h => w64 rfl (by omega) (by omega)
    repeat' ((conv => whnf); first | (((with_reducible show Gd _ _ _); first | with_reducible refine Gd.t ?_ | with_reducible refine Gd.f ?_ | with_reducible refine Gd.dec (fun _ => ?_) (fun _ => ?_) | with_reducible refine Gd.beq (fun _ => ?_) (fun _ => ?_) | with_reducible refine Gd.bne (fun _ => ?_) (fun _ => ?_) | with_reducible refine Gd.not ?_ | refine Gd.t ?_ | refine Gd.f ?_ | with_reducible refine Gd.var (fun _ => ?_) (fun _ => ?_)) <;> first | (exfalso; omega) | skip) | with_reducible refine Sq.mk ?_ | ((with_reducible show Ld1 _ _ _); first | refine Ld1.h H ?_ | refine Ld1.rF ?_ | refine Ld1.r ?_) | ((with_reducible show Ld _ _ _ _); first | refine Ld.h H ?_ | refine Ld.r ?_) | ((with_reducible show Ix _ _ _ _ _); (first | refine Ix.h ?_ | refine Ix.ha ?_)) | (refine Al.hp H ?_; clear H; intro _ _ H _) | (refine St.h H ?_; clear H; intro _ H))
    all_goals first | (exfalso; omega) | skip
    · exact ⟨rfl, H.e⟩
    · refine ⟨b_eq ?_, H.e⟩
      rw [hw (by omega)]
      exact decide_eq_true (by omega)
  · rcases hkd with h | h | h | h | h | h | h | h | h | h
    all_goals first | (exfalso; exact h5 h) | skip
    all_goals simp only [aloneB, h, belowB, Bool.and_eq_true, decide_eq_true_eq] at ha
    all_goals
      repeat' ((conv => whnf); first | (((with_reducible show Gd _ _ _); first | with_reducible refine Gd.t ?_ | with_reducible refine Gd.f ?_ | with_reducible refine Gd.dec (fun _ => ?_) (fun _ => ?_) | with_reducible refine Gd.beq (fun _ => ?_) (fun _ => ?_) | with_reducible refine Gd.bne (fun _ => ?_) (fun _ => ?_) | with_reducible refine Gd.not ?_ | refine Gd.t ?_ | refine Gd.f ?_ | with_reducible refine Gd.var (fun _ => ?_) (fun _ => ?_)) <;> first | (exfalso; omega) | skip) | with_reducible refine Sq.mk ?_ | ((with_reducible show Ld1 _ _ _); first | refine Ld1.h H ?_ | refine Ld1.rF ?_ | refine Ld1.r ?_) | ((with_reducible show Ld _ _ _ _); first | refine Ld.h H ?_ | refine Ld.r ?_) | ((with_reducible show Ix _ _ _ _ _); (first | refine Ix.h ?_ | refine Ix.ha ?_)) | (refine Al.hp H ?_; clear H; intro _ _ H _) | (refine St.h H ?_; clear H; intro _ H))
      all_goals first | (exfalso; omega) | skip
      all_goals first | exact ⟨rfl, H.e⟩ | exact ⟨b_eq (decide_eq_true (by omega)), H.e⟩
/-- a walk under way -/
structure Wk where
  at_ : Int
  sl : List Int
  over : Bool
def Wk.cs (x : Wk) : List Value := .int .i64 x.at_ :: (x.sl.flatMap ints ++ [.bool x.over])
theorem rd_off {α : Type} {enc : α → List Value} {sz : Nat} {w : World} {b off : Nat} {t : TypeId} {pre post : List Value} {l : List α} (h : Blk w b t (pre ++ (l.flatMap enc ++ post))) (hp : pre.length = off) (hl : ∀ x ∈ l, (enc x).length = sz) : RdS enc sz w (some ⟨b, off, none⟩) l := by
  refine (Que.of_blk (c := l.length) h (Nat.zero_le _) hl (Nat.le_refl _) ?_ fun j v hv => ?_).rd
  · simp only [List.length_append, flat_len hl, hp]; omega
  · rw [List.getElem?_append_right (by omega), hp, Nat.add_sub_cancel_left, List.getElem?_append_left (List.getElem?_eq_some_iff.1 hv).1]
    exact hv
def stepW (f : Fn) (c : Ins) (turn : Bool) (x : Wk) : Wk :=
  ⟨if c.kd = 3 then c.a else if c.kd = 4 ∧ turn = true then c.b else x.at_ + 1,
   if c.kd = 5 then x.sl.set c.a.toNat 1 else if c.kd = 6 then x.sl.map (fun s => if s = 1 then 2 else s) else x.sl,
   if c.kd = 9 then true else x.over⟩
def cleanB (c : Ins) (x : Wk) : Bool :=
  if c.kd = 5 then decide (x.sl[c.a.toNat]?.getD 0 ≠ 1) else if c.kd = 7 then decide (x.sl[c.b.toNat]?.getD 0 = 2) else if c.kd = 9 then !x.sl.any (fun s => decide (s = 1)) else true
theorem rd_wk {w : World} {b : Nat} {x : Wk} (h : Blk w b 61 x.cs) : RdS ints 1 w (some ⟨b, 1, none⟩) x.sl := rd_off (pre := [.int .i64 x.at_]) h rfl (fun _ _ => rfl)
theorem clean_c (pw : Nat) (x : Wk) (c : Ins) (w : World) (hb : Blk w pw 61 x.cs) (hl : x.sl.length = 8) (ha : c.kd = 5 → 0 ≤ c.a ∧ c.a < 8) (hbb : c.kd = 7 → 0 ≤ c.b ∧ c.b < 8) :
    Cl Tryd.prog 36 #[.pointer (some ⟨pw, 0, none⟩), c.v] w (fun v w' => v = .bool (cleanB c x) ∧ Ext w w') (fun _ _ => False) := by
  refine calls_ex (args := [.pointer (some ⟨pw, 0, none⟩), c.v]) T.ok Tryd.func36 rfl rfl rfl rfl ?_
  have H := Hp.begin nw w
  refine Sq.mk ?_
  ((conv => whnf); refine Al.hp H ?_; clear H; intro pc _ H _)
  have hs := rd_wk hb
  by_cases h5 : c.kd = 5
  · obtain ⟨k, hk⟩ : ∃ k : Nat, c.a = k := ⟨c.a.toNat, by have := ha h5; omega⟩
    obtain ⟨y, hy⟩ : ∃ y, x.sl[k]? = some y := ⟨_, List.getElem?_eq_getElem (by have := ha h5; omega)⟩
    have hs1 := RdS.from H.e hs
    repeat' ((conv => whnf); first | (((with_reducible show Gd _ _ _); first | with_reducible refine Gd.t ?_ | with_reducible refine Gd.f ?_ | with_reducible refine Gd.dec (fun _ => ?_) (fun _ => ?_) | with_reducible refine Gd.beq (fun _ => ?_) (fun _ => ?_) | with_reducible refine Gd.bne (fun _ => ?_) (fun _ => ?_) | with_reducible refine Gd.not ?_ | refine Gd.t ?_ | refine Gd.f ?_ | with_reducible refine Gd.var (fun _ => ?_) (fun _ => ?_)) <;> first | (exfalso; omega) | skip) | with_reducible refine Sq.mk ?_ | ((with_reducible show Ld1 _ _ _); first | refine Ld1.h H ?_ | refine Ld1.rF ?_ | refine Ld1.r ?_) | ((with_reducible show Ld _ _ _ _); first | refine Ld.h H ?_ | refine Ld.r ?_) | ((with_reducible show Ix _ _ _ _ _); (first | refine Ix.h ?_ | refine Ix.ha ?_)) | (refine Al.hp H ?_; clear H; intro _ _ H _) | (refine St.h H ?_; clear H; intro _ H))
    all_goals first | (exfalso; omega) | skip
    ((conv => whnf); refine Dr.quiet T.ok mixed (by kernel_rfl) (fun W hW => ?_))
    repeat' ((conv => whnf); first | (((with_reducible show Gd _ _ _); first | with_reducible refine Gd.t ?_ | with_reducible refine Gd.f ?_ | with_reducible refine Gd.dec (fun _ => ?_) (fun _ => ?_) | with_reducible refine Gd.beq (fun _ => ?_) (fun _ => ?_) | with_reducible refine Gd.bne (fun _ => ?_) (fun _ => ?_) | with_reducible refine Gd.not ?_ | refine Gd.t ?_ | refine Gd.f ?_ | with_reducible refine Gd.var (fun _ => ?_) (fun _ => ?_)) <;> first | (exfalso; omega) | skip) | ((with_reducible show QLd1 _ _ _); first | refine QLd1.h hW H ?_ | refine QLd1.rF hW ?_ | refine QLd1.r hW ?_) | ((with_reducible show QLd _ _ _ _); first | refine QLd.h hW H ?_ | refine QLd.r hW ?_) | ((with_reducible show Ix _ _ _ _ _); (first | refine Ix.h ?_ | refine Ix.ha ?_)))
    (intro _ eT; replace H := H.ext eT; clear hW eT)
    repeat' ((conv => whnf); first | (((with_reducible show Gd _ _ _); first | with_reducible refine Gd.t ?_ | with_reducible refine Gd.f ?_ | with_reducible refine Gd.dec (fun _ => ?_) (fun _ => ?_) | with_reducible refine Gd.beq (fun _ => ?_) (fun _ => ?_) | with_reducible refine Gd.bne (fun _ => ?_) (fun _ => ?_) | with_reducible refine Gd.not ?_ | refine Gd.t ?_ | refine Gd.f ?_ | with_reducible refine Gd.var (fun _ => ?_) (fun _ => ?_)) <;> first | (exfalso; omega) | skip) | with_reducible refine Sq.mk ?_ | ((with_reducible show Ld1 _ _ _); first | refine Ld1.h H ?_ | refine Ld1.rF ?_ | refine Ld1.r ?_) | ((with_reducible show Ld _ _ _ _); first | refine Ld.h H ?_ | refine Ld.r ?_) | ((with_reducible show Ix _ _ _ _ _); (first | refine Ix.h ?_ | refine Ix.ha ?_)) | (refine Al.hp H ?_; clear H; intro _ _ H _) | (refine St.h H ?_; clear H; intro _ H))
    exact ⟨b_eq (by rw [cleanB, if_pos h5, hk, Bool.eq_iff_iff]; simp [hy]), H.e⟩
  · by_cases h7 : c.kd = 7
    · obtain ⟨k, hk⟩ : ∃ k : Nat, c.b = k := ⟨c.b.toNat, by have := hbb h7; omega⟩
      obtain ⟨y, hy⟩ : ∃ y, x.sl[k]? = some y := ⟨_, List.getElem?_eq_getElem (by have := hbb h7; omega)⟩
      have hs1 := RdS.from H.e hs
      repeat' ((conv => whnf); first | (((with_reducible show Gd _ _ _); first | with_reducible refine Gd.t ?_ | with_reducible refine Gd.f ?_ | with_reducible refine Gd.dec (fun _ => ?_) (fun _ => ?_) | with_reducible refine Gd.beq (fun _ => ?_) (fun _ => ?_) | with_reducible refine Gd.bne (fun _ => ?_) (fun _ => ?_) | with_reducible refine Gd.not ?_ | refine Gd.t ?_ | refine Gd.f ?_ | with_reducible refine Gd.var (fun _ => ?_) (fun _ => ?_)) <;> first | (exfalso; omega) | skip) | with_reducible refine Sq.mk ?_ | ((with_reducible show Ld1 _ _ _); first | refine Ld1.h H ?_ | refine Ld1.rF ?_ | refine Ld1.r ?_) | ((with_reducible show Ld _ _ _ _); first | refine Ld.h H ?_ | refine Ld.r ?_) | ((with_reducible show Ix _ _ _ _ _); (first | refine Ix.h ?_ | refine Ix.ha ?_)) | (refine Al.hp H ?_; clear H; intro _ _ H _) | (refine St.h H ?_; clear H; intro _ H))
      all_goals first | (exfalso; omega) | skip
      ((conv => whnf); refine Dr.quiet T.ok mixed (by kernel_rfl) (fun W hW => ?_))
      repeat' ((conv => whnf); first | (((with_reducible show Gd _ _ _); first | with_reducible refine Gd.t ?_ | with_reducible refine Gd.f ?_ | with_reducible refine Gd.dec (fun _ => ?_) (fun _ => ?_) | with_reducible refine Gd.beq (fun _ => ?_) (fun _ => ?_) | with_reducible refine Gd.bne (fun _ => ?_) (fun _ => ?_) | with_reducible refine Gd.not ?_ | refine Gd.t ?_ | refine Gd.f ?_ | with_reducible refine Gd.var (fun _ => ?_) (fun _ => ?_)) <;> first | (exfalso; omega) | skip) | ((with_reducible show QLd1 _ _ _); first | refine QLd1.h hW H ?_ | refine QLd1.rF hW ?_ | refine QLd1.r hW ?_) | ((with_reducible show QLd _ _ _ _); first | refine QLd.h hW H ?_ | refine QLd.r hW ?_) | ((with_reducible show Ix _ _ _ _ _); (first | refine Ix.h ?_ | refine Ix.ha ?_)))
      (intro _ eT; replace H := H.ext eT; clear hW eT)
      repeat' ((conv => whnf); first | (((with_reducible show Gd _ _ _); first | with_reducible refine Gd.t ?_ | with_reducible refine Gd.f ?_ | with_reducible refine Gd.dec (fun _ => ?_) (fun _ => ?_) | with_reducible refine Gd.beq (fun _ => ?_) (fun _ => ?_) | with_reducible refine Gd.bne (fun _ => ?_) (fun _ => ?_) | with_reducible refine Gd.not ?_ | refine Gd.t ?_ | refine Gd.f ?_ | with_reducible refine Gd.var (fun _ => ?_) (fun _ => ?_)) <;> first | (exfalso; omega) | skip) | with_reducible refine Sq.mk ?_ | ((with_reducible show Ld1 _ _ _); first | refine Ld1.h H ?_ | refine Ld1.rF ?_ | refine Ld1.r ?_) | ((with_reducible show Ld _ _ _ _); first | refine Ld.h H ?_ | refine Ld.r ?_) | ((with_reducible show Ix _ _ _ _ _); (first | refine Ix.h ?_ | refine Ix.ha ?_)) | (refine Al.hp H ?_; clear H; intro _ _ H _) | (refine St.h H ?_; clear H; intro _ H))
      exact ⟨b_eq (by rw [cleanB, if_neg h5, if_pos h7, hk, Bool.eq_iff_iff]; simp [hy]), H.e⟩
    · by_cases h9 : c.kd = 9
      · repeat' ((conv => whnf); first | (((with_reducible show Gd _ _ _); first | with_reducible refine Gd.t ?_ | with_reducible refine Gd.f ?_ | with_reducible refine Gd.dec (fun _ => ?_) (fun _ => ?_) | with_reducible refine Gd.beq (fun _ => ?_) (fun _ => ?_) | with_reducible refine Gd.bne (fun _ => ?_) (fun _ => ?_) | with_reducible refine Gd.not ?_ | refine Gd.t ?_ | refine Gd.f ?_ | with_reducible refine Gd.var (fun _ => ?_) (fun _ => ?_)) <;> first | (exfalso; omega) | skip) | with_reducible refine Sq.mk ?_ | ((with_reducible show Ld1 _ _ _); first | refine Ld1.h H ?_ | refine Ld1.rF ?_ | refine Ld1.r ?_) | ((with_reducible show Ld _ _ _ _); first | refine Ld.h H ?_ | refine Ld.r ?_) | ((with_reducible show Ix _ _ _ _ _); (first | refine Ix.h ?_ | refine Ix.ha ?_)) | (refine Al.hp H ?_; clear H; intro _ _ H _) | (refine St.h H ?_; clear H; intro _ H))
        all_goals first | (exfalso; omega) | skip
        refine Lp.g0 T.ok (σ := Nat) (fun i => [(5, .int .i64 (i : Int)), (0, .pointer (some ⟨pw, 0, none⟩)), (3, .pointer (some ⟨pc, 0, none⟩))])
          (fun i w' => i ≤ 8 ∧ (x.sl.take i).any (fun m => decide (m = 1)) = false ∧ Hp nw w w' [bk pc 35 c.v.cells.toList]) (fun i _ => 8 - i) 0 rfl ⟨rfl, rfl, rfl, trivial⟩ ⟨Nat.zero_le _, by simp, H⟩ ?_
        clear H
        rintro i w5 ⟨hi, hany, H⟩
        by_cases hlt : i < 8
        · obtain ⟨y, hy⟩ : ∃ y, x.sl[i]? = some y := ⟨_, List.getElem?_eq_getElem (by omega)⟩
          have hst := any_step (p := fun m => decide (m = 1)) hy
          have hs1 := RdS.from H.e hs
          repeat' ((conv => whnf); first | (((with_reducible show Gd _ _ _); first | with_reducible refine Gd.t ?_ | with_reducible refine Gd.f ?_ | with_reducible refine Gd.dec (fun _ => ?_) (fun _ => ?_) | with_reducible refine Gd.beq (fun _ => ?_) (fun _ => ?_) | with_reducible refine Gd.bne (fun _ => ?_) (fun _ => ?_) | with_reducible refine Gd.not ?_ | refine Gd.t ?_ | refine Gd.f ?_ | with_reducible refine Gd.var (fun _ => ?_) (fun _ => ?_)) <;> first | (exfalso; omega) | skip) | with_reducible refine Sq.mk ?_ | ((with_reducible show Ld1 _ _ _); first | refine Ld1.h H ?_ | refine Ld1.rF ?_ | refine Ld1.r ?_) | ((with_reducible show Ld _ _ _ _); first | refine Ld.h H ?_ | refine Ld.r ?_) | ((with_reducible show Ix _ _ _ _ _); (first | refine Ix.h ?_ | refine Ix.ha ?_)) | (refine Al.hp H ?_; clear H; intro _ _ H _) | (refine St.h H ?_; clear H; intro _ H))
          · refine ⟨b_eq ?_, H.e⟩
            have : x.sl.any (fun m => decide (m = 1)) = true := List.any_eq_true.2 ⟨y, List.mem_of_getElem? hy, decide_eq_true (by assumption)⟩
            rw [cleanB, if_neg h5, if_neg h7, if_pos h9, this]; rfl
          · refine ⟨i + 1, ⟨at_int (m := ((i + 1 : Nat) : Int)) rfl (w64 (by simp) (by omega) (by omega)), rfl, rfl, trivial⟩, rfl, ⟨by omega, ?_, H⟩, by omega⟩
            rw [hst, hany, Bool.false_or]
            exact decide_eq_false (by assumption)
        · have hi : i = 8 := by omega
          subst hi
          rw [List.take_of_length_le (by omega)] at hany
          repeat' ((conv => whnf); first | (((with_reducible show Gd _ _ _); first | with_reducible refine Gd.t ?_ | with_reducible refine Gd.f ?_ | with_reducible refine Gd.dec (fun _ => ?_) (fun _ => ?_) | with_reducible refine Gd.beq (fun _ => ?_) (fun _ => ?_) | with_reducible refine Gd.bne (fun _ => ?_) (fun _ => ?_) | with_reducible refine Gd.not ?_ | refine Gd.t ?_ | refine Gd.f ?_ | with_reducible refine Gd.var (fun _ => ?_) (fun _ => ?_)) <;> first | (exfalso; omega) | skip) | with_reducible refine Sq.mk ?_ | ((with_reducible show Ld1 _ _ _); first | refine Ld1.h H ?_ | refine Ld1.rF ?_ | refine Ld1.r ?_) | ((with_reducible show Ld _ _ _ _); first | refine Ld.h H ?_ | refine Ld.r ?_) | ((with_reducible show Ix _ _ _ _ _); (first | refine Ix.h ?_ | refine Ix.ha ?_)) | (refine Al.hp H ?_; clear H; intro _ _ H _) | (refine St.h H ?_; clear H; intro _ H))
          exact ⟨b_eq (by rw [cleanB, if_neg h5, if_neg h7, if_pos h9, hany]; rfl), H.e⟩
      · repeat' ((conv => whnf); first | (((with_reducible show Gd _ _ _); first | with_reducible refine Gd.t ?_ | with_reducible refine Gd.f ?_ | with_reducible refine Gd.dec (fun _ => ?_) (fun _ => ?_) | with_reducible refine Gd.beq (fun _ => ?_) (fun _ => ?_) | with_reducible refine Gd.bne (fun _ => ?_) (fun _ => ?_) | with_reducible refine Gd.not ?_ | refine Gd.t ?_ | refine Gd.f ?_ | with_reducible refine Gd.var (fun _ => ?_) (fun _ => ?_)) <;> first | (exfalso; omega) | skip) | with_reducible refine Sq.mk ?_ | ((with_reducible show Ld1 _ _ _); first | refine Ld1.h H ?_ | refine Ld1.rF ?_ | refine Ld1.r ?_) | ((with_reducible show Ld _ _ _ _); first | refine Ld.h H ?_ | refine Ld.r ?_) | ((with_reducible show Ix _ _ _ _ _); (first | refine Ix.h ?_ | refine Ix.ha ?_)) | (refine Al.hp H ?_; clear H; intro _ _ H _) | (refine St.h H ?_; clear H; intro _ H))
        all_goals first | (exfalso; omega) | skip
        all_goals exact ⟨b_eq (by rw [cleanB, if_neg h5, if_neg h7, if_neg h9]), H.e⟩
theorem set_same {l : List Int} {k : Nat} {y : Int} (h : l[k]? = some y) : l.set k y = l := by
  obtain ⟨h1, h2⟩ := List.getElem?_eq_some_iff.1 h
  rw [← h2, List.set_getElem_self]
theorem stOff {S : Nat → Prop} {w0 w : World} {Γ Γ' : List Ck} {b off j : Nat} {t : TypeId} {pre post : List Value} {l : List Int} {v : Int} {k : World → Prop} (H : Hp S w0 w Γ) (hp : pre.length = off) (hj : j < l.length) (hk : ∀ w', Hp S w0 w' Γ' → k w')
    (u : Upd1 Γ (bk b t (pre ++ (l.flatMap ints ++ post))) (bk b t (pre ++ ((l.set j v).flatMap ints ++ post))) Γ' := by (repeat (first | exact Upd1.head | apply Upd1.tail))) : St w ((gA (some ⟨b, off, none⟩)).add (j * 1)) [.int .i64 v] k := by
  have e1 : (gA (some ⟨b, off, none⟩)).add (j * 1) = ⟨b, off + j, none⟩ := by simp only [gA]; rw [add_lit, Nat.mul_one]
  rw [e1]
  have e2 : putL (pre ++ (l.flatMap ints ++ post)) (off + j) [.int .i64 v] = pre ++ ((l.set j v).flatMap ints ++ post) := by
    have h1 : putL (l.flatMap ints) (j * 1) (ints v) = (l.set j v).flatMap ints := putL_el (fun _ _ => rfl) rfl hj
    have h2 : (l.flatMap ints).length = l.length := by rw [flat_len (sz := 1) (fun _ _ => rfl)]; omega
    rw [Nat.mul_one] at h1
    rw [← h1]
    unfold putL
    subst hp
    rw [List.take_length_add_append, show pre.length + j + [Value.int IntKind.i64 v].length = pre.length + (j + 1) by simp; omega, List.drop_length_add_append, List.take_append_of_le_length (by omega), List.drop_append_of_le_length (by omega)]
    simp [ints]
  refine St.h H hk (by rw [e2]; exact u) ?_ rfl
  refine Nat.ble_eq_true_of_le ?_
  have : (l.flatMap ints).length = l.length := by rw [flat_len (sz := 1) (fun _ _ => rfl)]; omega
  simp only [List.length_append, this, List.length_cons, List.length_nil]
  omega
theorem steps_c (f : Fn) (A : Option Addr) (cc : Nat) (turn : Bool) (pw i : Nat) (x : Wk) (c : Ins) (wb w : World) (hwb : Ext wb w) (hlo : wb.heap.size ≤ pw) (hA : RdC wb A f.code) (hb : Blk w pw 61 x.cs) (hl : x.sl.length = 8) (hi : x.at_ = i) (hc : f.code[i]? = some c) (hf : f.code.length ≤ 512) (ha : c.kd = 5 → 0 ≤ c.a ∧ c.a < 8) :
    Cl Tryd.prog 37 #[.pointer (some ⟨pw, 0, none⟩), f.v A cc, .bool turn] w (fun _ w' => Hp (· = pw) w w' [bk pw 61 (stepW f c turn x).cs]) (fun _ _ => False) := by
  obtain ⟨at0, sl, over⟩ := x
  simp only at hl hi
  subst hi
  have hil := (List.getElem?_eq_some_iff.1 hc).1
  have hw1 : IntKind.i64.wrap ((i : Int) + 1) = (i : Int) + 1 := w64 rfl (by omega) (by omega)
  have HB : BaseOk (· = pw) wb w := ⟨hwb, fun k hk => by subst hk; exact hlo⟩
  by_cases h5 : c.kd = 5
  · obtain ⟨k, hk⟩ : ∃ k : Nat, c.a = k := ⟨c.a.toNat, by have := ha h5; omega⟩
    have h0 : stepW f c turn ⟨i, sl, over⟩ = ⟨(i : Int) + 1, sl.set k 1, over⟩ := by simp [stepW, h5, hk]
    rw [h0]
    refine calls_ex (args := [.pointer (some ⟨pw, 0, none⟩), f.v A cc, .bool turn]) T.ok Tryd.func37 rfl rfl rfl rfl ?_
    have H := Hp.start (S := (· = pw)) (bk_ok hb) (fun k hk => hk)
    refine Sq.mk ?_
    ((conv => whnf); refine Al.hp H ?_; clear H; intro pf _ H _)
    have hA1 := RdS.from (H.base2 HB) hA
    repeat' ((conv => whnf); first | (((with_reducible show Gd _ _ _); first | with_reducible refine Gd.t ?_ | with_reducible refine Gd.f ?_ | with_reducible refine Gd.dec (fun _ => ?_) (fun _ => ?_) | with_reducible refine Gd.beq (fun _ => ?_) (fun _ => ?_) | with_reducible refine Gd.bne (fun _ => ?_) (fun _ => ?_) | with_reducible refine Gd.not ?_ | refine Gd.t ?_ | refine Gd.f ?_ | with_reducible refine Gd.var (fun _ => ?_) (fun _ => ?_)) <;> first | (exfalso; omega) | skip) | with_reducible refine Sq.mk ?_ | ((with_reducible show Ld1 _ _ _); first | refine Ld1.h H ?_ | refine Ld1.rF ?_ | refine Ld1.r ?_) | ((with_reducible show Ld _ _ _ _); first | refine Ld.h H ?_ | refine Ld.r ?_) | ((with_reducible show Ix _ _ _ _ _); (first | refine Ix.h ?_ | refine Ix.ha ?_)) | (refine Al.hp H ?_; clear H; intro _ _ H _) | (refine St.h H ?_; clear H; intro _ H))
    ((conv => whnf); refine Dr.al T.ok mixed 8 (by kernel_rfl) rfl rfl rfl rfl rfl rfl rfl rfl (fun W hW => ?_))
    repeat' ((conv => whnf); first | (((with_reducible show Gd _ _ _); first | with_reducible refine Gd.t ?_ | with_reducible refine Gd.f ?_ | with_reducible refine Gd.dec (fun _ => ?_) (fun _ => ?_) | with_reducible refine Gd.beq (fun _ => ?_) (fun _ => ?_) | with_reducible refine Gd.bne (fun _ => ?_) (fun _ => ?_) | with_reducible refine Gd.not ?_ | refine Gd.t ?_ | refine Gd.f ?_ | with_reducible refine Gd.var (fun _ => ?_) (fun _ => ?_)) <;> first | (exfalso; omega) | skip) | ((with_reducible show QLd1 _ _ _); first | refine QLd1.h hW H ?_ | refine QLd1.rF hW ?_ | refine QLd1.r hW ?_) | ((with_reducible show QLd _ _ _ _); first | refine QLd.h hW H ?_ | refine QLd.r hW ?_) | ((with_reducible show Ix _ _ _ _ _); (first | refine Ix.h ?_ | refine Ix.ha ?_)))
    clear hA1
    (intro pc _ hlo eT hbT; replace H := H.fr0 (Hp.one (Tch.of_ext eT) (bk_ok hbT) (fun k hk => .inr (by subst hk; exact hlo))) (.inl rfl); clear hbT eT hW)
    repeat' ((conv => whnf); first | (((with_reducible show Gd _ _ _); first | with_reducible refine Gd.t ?_ | with_reducible refine Gd.f ?_ | with_reducible refine Gd.dec (fun _ => ?_) (fun _ => ?_) | with_reducible refine Gd.beq (fun _ => ?_) (fun _ => ?_) | with_reducible refine Gd.bne (fun _ => ?_) (fun _ => ?_) | with_reducible refine Gd.not ?_ | refine Gd.t ?_ | refine Gd.f ?_ | with_reducible refine Gd.var (fun _ => ?_) (fun _ => ?_)) <;> first | (exfalso; omega) | skip) | with_reducible refine Sq.mk ?_ | ((with_reducible show Ld1 _ _ _); first | refine Ld1.h H ?_ | refine Ld1.rF ?_ | refine Ld1.r ?_) | ((with_reducible show Ld _ _ _ _); first | refine Ld.h H ?_ | refine Ld.r ?_) | ((with_reducible show Ix _ _ _ _ _); (first | refine Ix.h ?_ | refine Ix.ha ?_)) | (refine Al.hp H ?_; clear H; intro _ _ H _) | (refine St.h H ?_; clear H; intro _ H))
    all_goals first | (exfalso; omega) | skip
    rw [hw1] at H
    replace H : Hp (· = pw) w _ [bk pc 35 c.enc, bk pf 24 (f.v A cc).cells.toList, bk pw 61 (Wk.cs ⟨(i : Int) + 1, sl, over⟩)] := H
    have hsl : RdS ints 1 _ (some ⟨pw, 1, none⟩) sl := rd_wk (x := ⟨(i : Int) + 1, sl, over⟩) (H.blk 2 rfl)
    ((conv => whnf); refine Dr.tail T.ok mixed 6 (by kernel_rfl) (fun W wT hW eT _ => ?_); (repeat' ((conv => whnf); first | (((with_reducible show Gd _ _ _); first | with_reducible refine Gd.t ?_ | with_reducible refine Gd.f ?_ | with_reducible refine Gd.dec (fun _ => ?_) (fun _ => ?_) | with_reducible refine Gd.beq (fun _ => ?_) (fun _ => ?_) | with_reducible refine Gd.bne (fun _ => ?_) (fun _ => ?_) | with_reducible refine Gd.not ?_ | refine Gd.t ?_ | refine Gd.f ?_ | with_reducible refine Gd.var (fun _ => ?_) (fun _ => ?_)) <;> first | (exfalso; omega) | skip) | ((with_reducible show QLd1 _ _ _); first | refine QLd1.h hW H ?_ | refine QLd1.rF hW ?_ | refine QLd1.r hW ?_) | ((with_reducible show QLd _ _ _ _); first | refine QLd.h hW H ?_ | refine QLd.r hW ?_) | ((with_reducible show Ix _ _ _ _ _); (first | refine Ix.h ?_ | refine Ix.ha ?_)))); replace H := H.ext eT; clear hW eT)
    (conv => whnf)
    refine stOff (pre := [.int .i64 ((i : Int) + 1)]) (post := [.bool over]) (l := sl) (j := k) (v := 1) H rfl (by have := ha h5; omega) (fun w7 H7 => ?_)
    clear H hsl
    repeat' ((conv => whnf); first | (((with_reducible show Gd _ _ _); first | with_reducible refine Gd.t ?_ | with_reducible refine Gd.f ?_ | with_reducible refine Gd.dec (fun _ => ?_) (fun _ => ?_) | with_reducible refine Gd.beq (fun _ => ?_) (fun _ => ?_) | with_reducible refine Gd.bne (fun _ => ?_) (fun _ => ?_) | with_reducible refine Gd.not ?_ | refine Gd.t ?_ | refine Gd.f ?_ | with_reducible refine Gd.var (fun _ => ?_) (fun _ => ?_)) <;> first | (exfalso; omega) | skip) | with_reducible refine Sq.mk ?_ | ((with_reducible show Ld1 _ _ _); first | refine Ld1.h H ?_ | refine Ld1.rF ?_ | refine Ld1.r ?_) | ((with_reducible show Ld _ _ _ _); first | refine Ld.h H ?_ | refine Ld.r ?_) | ((with_reducible show Ix _ _ _ _ _); (first | refine Ix.h ?_ | refine Ix.ha ?_)) | (refine Al.hp H ?_; clear H; intro _ _ H _) | (refine St.h H ?_; clear H; intro _ H))
    exact H7.sel [2] rfl
  · by_cases h6 : c.kd = 6
    · have h0 : stepW f c turn ⟨i, sl, over⟩ = ⟨(i : Int) + 1, sl.map (fun s => if s = 1 then 2 else s), over⟩ := by simp [stepW, h6]
      rw [h0]
      refine calls_ex (args := [.pointer (some ⟨pw, 0, none⟩), f.v A cc, .bool turn]) T.ok Tryd.func37 rfl rfl rfl rfl ?_
      have H := Hp.start (S := (· = pw)) (bk_ok hb) (fun k hk => hk)
      refine Sq.mk ?_
      ((conv => whnf); refine Al.hp H ?_; clear H; intro pf _ H _)
      have hA1 := RdS.from (H.base2 HB) hA
      repeat' ((conv => whnf); first | (((with_reducible show Gd _ _ _); first | with_reducible refine Gd.t ?_ | with_reducible refine Gd.f ?_ | with_reducible refine Gd.dec (fun _ => ?_) (fun _ => ?_) | with_reducible refine Gd.beq (fun _ => ?_) (fun _ => ?_) | with_reducible refine Gd.bne (fun _ => ?_) (fun _ => ?_) | with_reducible refine Gd.not ?_ | refine Gd.t ?_ | refine Gd.f ?_ | with_reducible refine Gd.var (fun _ => ?_) (fun _ => ?_)) <;> first | (exfalso; omega) | skip) | with_reducible refine Sq.mk ?_ | ((with_reducible show Ld1 _ _ _); first | refine Ld1.h H ?_ | refine Ld1.rF ?_ | refine Ld1.r ?_) | ((with_reducible show Ld _ _ _ _); first | refine Ld.h H ?_ | refine Ld.r ?_) | ((with_reducible show Ix _ _ _ _ _); (first | refine Ix.h ?_ | refine Ix.ha ?_)) | (refine Al.hp H ?_; clear H; intro _ _ H _) | (refine St.h H ?_; clear H; intro _ H))
      ((conv => whnf); refine Dr.al T.ok mixed 8 (by kernel_rfl) rfl rfl rfl rfl rfl rfl rfl rfl (fun W hW => ?_))
      repeat' ((conv => whnf); first | (((with_reducible show Gd _ _ _); first | with_reducible refine Gd.t ?_ | with_reducible refine Gd.f ?_ | with_reducible refine Gd.dec (fun _ => ?_) (fun _ => ?_) | with_reducible refine Gd.beq (fun _ => ?_) (fun _ => ?_) | with_reducible refine Gd.bne (fun _ => ?_) (fun _ => ?_) | with_reducible refine Gd.not ?_ | refine Gd.t ?_ | refine Gd.f ?_ | with_reducible refine Gd.var (fun _ => ?_) (fun _ => ?_)) <;> first | (exfalso; omega) | skip) | ((with_reducible show QLd1 _ _ _); first | refine QLd1.h hW H ?_ | refine QLd1.rF hW ?_ | refine QLd1.r hW ?_) | ((with_reducible show QLd _ _ _ _); first | refine QLd.h hW H ?_ | refine QLd.r hW ?_) | ((with_reducible show Ix _ _ _ _ _); (first | refine Ix.h ?_ | refine Ix.ha ?_)))
      clear hA1
      (intro pc _ hlo eT hbT; replace H := H.fr0 (Hp.one (Tch.of_ext eT) (bk_ok hbT) (fun k hk => .inr (by subst hk; exact hlo))) (.inl rfl); clear hbT eT hW)
      repeat' ((conv => whnf); first | (((with_reducible show Gd _ _ _); first | with_reducible refine Gd.t ?_ | with_reducible refine Gd.f ?_ | with_reducible refine Gd.dec (fun _ => ?_) (fun _ => ?_) | with_reducible refine Gd.beq (fun _ => ?_) (fun _ => ?_) | with_reducible refine Gd.bne (fun _ => ?_) (fun _ => ?_) | with_reducible refine Gd.not ?_ | refine Gd.t ?_ | refine Gd.f ?_ | with_reducible refine Gd.var (fun _ => ?_) (fun _ => ?_)) <;> first | (exfalso; omega) | skip) | with_reducible refine Sq.mk ?_ | ((with_reducible show Ld1 _ _ _); first | refine Ld1.h H ?_ | refine Ld1.rF ?_ | refine Ld1.r ?_) | ((with_reducible show Ld _ _ _ _); first | refine Ld.h H ?_ | refine Ld.r ?_) | ((with_reducible show Ix _ _ _ _ _); (first | refine Ix.h ?_ | refine Ix.ha ?_)) | (refine Al.hp H ?_; clear H; intro _ _ H _) | (refine St.h H ?_; clear H; intro _ H))
      all_goals first | (exfalso; omega) | skip
      rw [hw1] at H
      replace H : Hp (· = pw) w _ [bk pc 35 c.enc, bk pf 24 (f.v A cc).cells.toList, bk pw 61 (Wk.cs ⟨(i : Int) + 1, sl, over⟩)] := H
      refine Lp.g0 T.ok (σ := Nat) (fun k => [(7, .int .i64 (k : Int)), (0, .pointer (some ⟨pw, 0, none⟩))])
        (fun k w' => k ≤ 8 ∧ Hp (· = pw) w w' [bk pc 35 c.enc, bk pf 24 (f.v A cc).cells.toList, bk pw 61 (Wk.cs ⟨(i : Int) + 1, (sl.take k).map (fun s => if s = 1 then 2 else s) ++ sl.drop k, over⟩)]) (fun k _ => 8 - k) 0 rfl ⟨rfl, rfl, trivial⟩ ⟨Nat.zero_le _, by simpa using H⟩ ?_
      clear H
      rintro k w5 ⟨hk, H⟩
      have hll : ((sl.take k).map (fun s => if s = 1 then 2 else s) ++ sl.drop k : List Int).length = 8 := by simp; omega
      have hsl : RdS ints 1 _ (some ⟨pw, 1, none⟩) ((sl.take k).map (fun s => if s = 1 then 2 else s) ++ sl.drop k) := rd_wk (x := ⟨(i : Int) + 1, _, over⟩) (H.blk 2 rfl)
      by_cases hkl : k < 8
      · obtain ⟨y, hy⟩ : ∃ y, sl[k]? = some y := ⟨_, List.getElem?_eq_getElem (by omega)⟩
        obtain ⟨hy1, hy2⟩ := List.getElem?_eq_some_iff.1 hy
        have hy3 : ((sl.take k).map (fun s => if s = 1 then 2 else s) ++ sl.drop k : List Int)[k]? = some y := by
          rw [List.getElem?_append_right (by simp; omega)]
          simp [Nat.min_eq_left (by omega : k ≤ sl.length), hy]
        have hnx : (sl.take (k + 1)).map (fun s => if s = 1 then 2 else s) ++ sl.drop (k + 1) = ((sl.take k).map (fun s => if s = 1 then 2 else s) ++ sl.drop k : List Int).set k (if y = 1 then 2 else y) := by
          rw [List.take_succ_eq_append_getElem hy1, List.drop_eq_getElem_cons hy1, set_end (by simp; omega), hy2]
          simp
        repeat' ((conv => whnf); first | (((with_reducible show Gd _ _ _); first | with_reducible refine Gd.t ?_ | with_reducible refine Gd.f ?_ | with_reducible refine Gd.dec (fun _ => ?_) (fun _ => ?_) | with_reducible refine Gd.beq (fun _ => ?_) (fun _ => ?_) | with_reducible refine Gd.bne (fun _ => ?_) (fun _ => ?_) | with_reducible refine Gd.not ?_ | refine Gd.t ?_ | refine Gd.f ?_ | with_reducible refine Gd.var (fun _ => ?_) (fun _ => ?_)) <;> first | (exfalso; omega) | skip) | with_reducible refine Sq.mk ?_ | ((with_reducible show Ld1 _ _ _); first | refine Ld1.h H ?_ | refine Ld1.rF ?_ | refine Ld1.r ?_) | ((with_reducible show Ld _ _ _ _); first | refine Ld.h H ?_ | refine Ld.r ?_) | ((with_reducible show Ix _ _ _ _ _); (first | refine Ix.h ?_ | refine Ix.ha ?_)) | (refine Al.hp H ?_; clear H; intro _ _ H _) | (refine St.h H ?_; clear H; intro _ H))
        · rw [if_pos (by assumption)] at hnx
          refine stOff (pre := [.int .i64 ((i : Int) + 1)]) (post := [.bool over]) (l := (sl.take k).map (fun s => if s = 1 then 2 else s) ++ sl.drop k) (j := k) (v := 2) H rfl (by omega) (fun w7 H7 => ?_)
          clear H hsl
          rw [← hnx] at H7
          have H := H7
          clear H7
          repeat' ((conv => whnf); first | (((with_reducible show Gd _ _ _); first | with_reducible refine Gd.t ?_ | with_reducible refine Gd.f ?_ | with_reducible refine Gd.dec (fun _ => ?_) (fun _ => ?_) | with_reducible refine Gd.beq (fun _ => ?_) (fun _ => ?_) | with_reducible refine Gd.bne (fun _ => ?_) (fun _ => ?_) | with_reducible refine Gd.not ?_ | refine Gd.t ?_ | refine Gd.f ?_ | with_reducible refine Gd.var (fun _ => ?_) (fun _ => ?_)) <;> first | (exfalso; omega) | skip) | with_reducible refine Sq.mk ?_ | ((with_reducible show Ld1 _ _ _); first | refine Ld1.h H ?_ | refine Ld1.rF ?_ | refine Ld1.r ?_) | ((with_reducible show Ld _ _ _ _); first | refine Ld.h H ?_ | refine Ld.r ?_) | ((with_reducible show Ix _ _ _ _ _); (first | refine Ix.h ?_ | refine Ix.ha ?_)) | (refine Al.hp H ?_; clear H; intro _ _ H _) | (refine St.h H ?_; clear H; intro _ H))
          exact ⟨k + 1, ⟨at_int rfl (w64 (by simp) (by omega) (by omega)), rfl, trivial⟩, rfl, ⟨by omega, H⟩, by omega⟩
        · rw [if_neg (by assumption), set_same hy3] at hnx
          refine ⟨k + 1, ⟨at_int rfl (w64 (by simp) (by omega) (by omega)), rfl, trivial⟩, rfl, ⟨by omega, ?_⟩, by omega⟩
          rw [hnx]; exact H
      · have hk8 : k = 8 := by omega
        subst hk8
        repeat' ((conv => whnf); first | (((with_reducible show Gd _ _ _); first | with_reducible refine Gd.t ?_ | with_reducible refine Gd.f ?_ | with_reducible refine Gd.dec (fun _ => ?_) (fun _ => ?_) | with_reducible refine Gd.beq (fun _ => ?_) (fun _ => ?_) | with_reducible refine Gd.bne (fun _ => ?_) (fun _ => ?_) | with_reducible refine Gd.not ?_ | refine Gd.t ?_ | refine Gd.f ?_ | with_reducible refine Gd.var (fun _ => ?_) (fun _ => ?_)) <;> first | (exfalso; omega) | skip) | with_reducible refine Sq.mk ?_ | ((with_reducible show Ld1 _ _ _); first | refine Ld1.h H ?_ | refine Ld1.rF ?_ | refine Ld1.r ?_) | ((with_reducible show Ld _ _ _ _); first | refine Ld.h H ?_ | refine Ld.r ?_) | ((with_reducible show Ix _ _ _ _ _); (first | refine Ix.h ?_ | refine Ix.ha ?_)) | (refine Al.hp H ?_; clear H; intro _ _ H _) | (refine St.h H ?_; clear H; intro _ H))
        rw [List.take_of_length_le (by omega), List.drop_of_length_le (by omega), List.append_nil] at H
        exact H.sel [2] rfl
    · obtain ⟨s0, s1, s2, s3, s4, s5, s6, s7, rfl⟩ : ∃ a b c d e f g h, sl = [a, b, c, d, e, f, g, h] := by
        match sl, hl with
        | [a, b, c, d, e, f, g, h], _ => exact ⟨a, b, c, d, e, f, g, h, rfl⟩
      refine calls_ex (args := [.pointer (some ⟨pw, 0, none⟩), f.v A cc, .bool turn]) T.ok Tryd.func37 rfl rfl rfl rfl ?_
      have H := Hp.start (S := (· = pw)) (bk_ok hb) (fun k hk => hk)
      refine Sq.mk ?_
      ((conv => whnf); refine Al.hp H ?_; clear H; intro pf _ H _)
      have hA1 := RdS.from (H.base2 HB) hA
      repeat' ((conv => whnf); first | (((with_reducible show Gd _ _ _); first | with_reducible refine Gd.t ?_ | with_reducible refine Gd.f ?_ | with_reducible refine Gd.dec (fun _ => ?_) (fun _ => ?_) | with_reducible refine Gd.beq (fun _ => ?_) (fun _ => ?_) | with_reducible refine Gd.bne (fun _ => ?_) (fun _ => ?_) | with_reducible refine Gd.not ?_ | refine Gd.t ?_ | refine Gd.f ?_ | with_reducible refine Gd.var (fun _ => ?_) (fun _ => ?_)) <;> first | (exfalso; omega) | skip) | with_reducible refine Sq.mk ?_ | ((with_reducible show Ld1 _ _ _); first | refine Ld1.h H ?_ | refine Ld1.rF ?_ | refine Ld1.r ?_) | ((with_reducible show Ld _ _ _ _); first | refine Ld.h H ?_ | refine Ld.r ?_) | ((with_reducible show Ix _ _ _ _ _); (first | refine Ix.h ?_ | refine Ix.ha ?_)) | (refine Al.hp H ?_; clear H; intro _ _ H _) | (refine St.h H ?_; clear H; intro _ H))
      ((conv => whnf); refine Dr.al T.ok mixed 8 (by kernel_rfl) rfl rfl rfl rfl rfl rfl rfl rfl (fun W hW => ?_))
      repeat' ((conv => whnf); first | (((with_reducible show Gd _ _ _); first | with_reducible refine Gd.t ?_ | with_reducible refine Gd.f ?_ | with_reducible refine Gd.dec (fun _ => ?_) (fun _ => ?_) | with_reducible refine Gd.beq (fun _ => ?_) (fun _ => ?_) | with_reducible refine Gd.bne (fun _ => ?_) (fun _ => ?_) | with_reducible refine Gd.not ?_ | refine Gd.t ?_ | refine Gd.f ?_ | with_reducible refine Gd.var (fun _ => ?_) (fun _ => ?_)) <;> first | (exfalso; omega) | skip) | ((with_reducible show QLd1 _ _ _); first | refine QLd1.h hW H ?_ | refine QLd1.rF hW ?_ | refine QLd1.r hW ?_) | ((with_reducible show QLd _ _ _ _); first | refine QLd.h hW H ?_ | refine QLd.r hW ?_) | ((with_reducible show Ix _ _ _ _ _); (first | refine Ix.h ?_ | refine Ix.ha ?_)))
      clear hA1
      (intro pc _ hlo eT hbT; replace H := H.fr0 (Hp.one (Tch.of_ext eT) (bk_ok hbT) (fun k hk => .inr (by subst hk; exact hlo))) (.inl rfl); clear hbT eT hW)
      repeat' ((conv => whnf); first | (((with_reducible show Gd _ _ _); first | with_reducible refine Gd.t ?_ | with_reducible refine Gd.f ?_ | with_reducible refine Gd.dec (fun _ => ?_) (fun _ => ?_) | with_reducible refine Gd.beq (fun _ => ?_) (fun _ => ?_) | with_reducible refine Gd.bne (fun _ => ?_) (fun _ => ?_) | with_reducible refine Gd.not ?_ | refine Gd.t ?_ | refine Gd.f ?_ | with_reducible refine Gd.var (fun _ => ?_) (fun _ => ?_)) <;> first | (exfalso; omega) | skip) | with_reducible refine Sq.mk ?_ | ((with_reducible show Ld1 _ _ _); first | refine Ld1.h H ?_ | refine Ld1.rF ?_ | refine Ld1.r ?_) | ((with_reducible show Ld _ _ _ _); first | refine Ld.h H ?_ | refine Ld.r ?_) | ((with_reducible show Ix _ _ _ _ _); (first | refine Ix.h ?_ | refine Ix.ha ?_)) | (refine Al.hp H ?_; clear H; intro _ _ H _) | (refine St.h H ?_; clear H; intro _ H))
      all_goals first | (exfalso; omega) | skip
      all_goals
        replace H := H.sel [2] rfl
        have hE : stepW f c turn ⟨i, [s0, s1, s2, s3, s4, s5, s6, s7], over⟩ = ⟨if c.kd = 3 then c.a else if c.kd = 4 ∧ turn = true then c.b else (i : Int) + 1, [s0, s1, s2, s3, s4, s5, s6, s7], if c.kd = 9 then true else over⟩ := by simp [stepW, h5, h6]
        first
          | (rw [hE, if_pos (by assumption : c.kd = 3), if_neg (by omega : ¬ c.kd = 9)]; exact H)
          | (rw [hE, if_neg (by omega : ¬ c.kd = 3), if_pos (⟨by assumption, by assumption⟩ : c.kd = 4 ∧ turn = true), if_neg (by omega : ¬ c.kd = 9)]; exact H)
          | (rw [hE, if_neg (by omega : ¬ c.kd = 3), if_neg (by omega : ¬ (c.kd = 4 ∧ turn = true)), if_pos (by assumption : c.kd = 9)]; rw [hw1] at H; exact H)
          | (rw [hE, if_neg (by omega : ¬ c.kd = 3), if_neg (by simp_all : ¬ (c.kd = 4 ∧ turn = true)), if_neg (by omega : ¬ c.kd = 9)]; rw [hw1] at H; exact H)
end Go.Proofs.YtbbadmlekagloaaDoor
namespace Go.Proofs.YtbbadmlekagloaaDoor
open Go Go.Sh
set_option linter.unusedVariables false
set_option linter.unusedSimpArgs false
attribute [local irreducible] Blk Ext RdS
def bitS (s : Int) : Int := if s = 0 then 1 else if s = 1 then 2 else 4
structure WOk (f : Fn) (m : Nat) (x : Wk) : Prop where
  len : x.sl.length = 8
  val : ∀ (s : Nat) (v : Int), x.sl[s]? = some v → v = 0 ∨ v = 1 ∨ v = 2
  hi : ∀ (s : Nat) (v : Int), m ≤ s → x.sl[s]? = some v → v = 0
  pos : x.over = false → ∃ i : Nat, x.at_ = i ∧ i < f.code.length ∧ ∀ (s : Nat) (v : Int), s < m → x.sl[s]? = some v → Reach f s (i, bitS v)
def wk0 : Wk := ⟨0, [0, 0, 0, 0, 0, 0, 0, 0], false⟩
theorem wk0_at {s : Nat} {v : Int} (h : wk0.sl[s]? = some v) : v = 0 := by
  have h1 : wk0.sl = List.replicate 8 0 := rfl
  rw [h1, List.getElem?_replicate] at h
  split at h
  · simpa using h.symm
  · simp at h
theorem WOk.start {f : Fn} {m : Nat} (hl : 1 ≤ f.code.length) : WOk f m wk0 :=
  ⟨rfl, fun s v h => .inl (wk0_at h), fun s v _ h => wk0_at h, fun _ => ⟨0, rfl, hl, fun s v _ h => by rw [wk0_at h]; exact Reach.start⟩⟩
theorem Valid.sound {fs : List Fn} (h : Valid fs) {f : Fn} (hf : f ∈ fs) : soundB f = true := by
  simp only [soundB, h.shaped f hf, h.ends f hf, Bool.and_true, Bool.true_and, List.all_eq_true]
  exact fun c hc => (h.ins f hf c hc).1
theorem WOk.step {f : Fn} {m : Nat} {x : Wk} {i : Nat} {c : Ins} {turn : Bool} (hS : soundB f = true) (hm : f.slots = m) (h : WOk f m x) (hi : x.at_ = i) (hc : f.code[i]? = some c) (ho : x.over = false) : WOk f m (stepW f c turn x) := by
  obtain ⟨j, hj, hjl, hr⟩ := h.pos ho
  have : j = i := by omega
  subst this
  have ha := (sound_at hS hc).1
  have hsl : ∀ (s : Nat) (v : Int), (stepW f c turn x).sl[s]? = some v → ∃ u, x.sl[s]? = some u ∧ (v = 0 ∨ v = 1 ∨ v = 2) ∧ bitS v = afterS c s (bitS u) ∧ (m ≤ s → v = 0) := by
    intro s v hv
    simp only [stepW] at hv
    by_cases h5 : c.kd = 5
    · rw [if_pos h5, List.getElem?_set] at hv
      have ha5 := ha h5
      split at hv
      · rename_i e
        subst e
        split at hv
        · rename_i hlt
          refine ⟨_, List.getElem?_eq_getElem hlt, ?_, ?_, fun hm' => by omega⟩
          · simp at hv; omega
          · simp at hv; subst hv
            simp [bitS, afterS, h5]; intro hne; omega
        · simp at hv
      · rename_i e
        refine ⟨v, hv, h.val s v hv, ?_, fun hm' => h.hi s v hm' hv⟩
        rw [afterS, if_neg (by omega), if_neg (by omega)]
    · rw [if_neg h5] at hv
      by_cases h6 : c.kd = 6
      · rw [if_pos h6, List.getElem?_map] at hv
        rcases hu : x.sl[s]? with _ | u
        · rw [hu] at hv; simp at hv
        · rw [hu] at hv
          simp only [Option.map_some, Option.some.injEq] at hv
          have h3 := h.val s u hu
          refine ⟨u, rfl, ?_, ?_, fun hm' => ?_⟩
          · subst hv; split <;> omega
          · subst hv
            rcases h3 with rfl | rfl | rfl <;> simp [bitS, afterS, h6]
          · have := h.hi s u hm' hu
            subst this; subst hv; rfl
      · rw [if_neg h6] at hv
        exact ⟨v, hv, h.val s v hv, by rw [afterS, if_neg (by omega), if_neg (by omega)], fun hm' => h.hi s v hm' hv⟩
  refine ⟨?_, fun s v hv => (hsl s v hv).choose_spec.2.1, fun s v hm' hv => (hsl s v hv).choose_spec.2.2.2 hm', fun hov => ?_⟩
  · simp only [stepW]; split
    · simp [h.len]
    · split <;> simp [h.len]
  · have h9 : c.kd ≠ 9 := fun e => by simp [stepW, e] at hov
    have hn : (stepW f c turn x).at_ ∈ nextsS j c := by
      simp only [stepW, nextsS]
      by_cases h3 : c.kd = 3
      · rw [if_pos h3, if_pos h3]; simp
      · rw [if_neg h3, if_neg h3, if_neg h9]
        by_cases h4 : c.kd = 4
        · rw [if_pos h4]
          split
          · simp
          · rw [hj]; simp
        · rw [if_neg (show ¬ (c.kd = 4 ∧ turn = true) from fun e => h4 e.1), if_neg h4, hj]; simp
    have hr2 := next_range hS hc _ hn
    refine ⟨(stepW f c turn x).at_.toNat, by omega, by omega, fun s v hs hv => ?_⟩
    obtain ⟨u, hu, _, he, _⟩ := hsl s v hv
    refine Reach.step (hr s u hs hu) ?_
    unfold succs
    rw [hc]
    exact List.mem_map.2 ⟨_, hn, by rw [he]⟩
theorem flw_3 {f : Fn} {slot : Int} {i : Nat} (h : bitand (flw f slot i) 3 = 0) : ¬ Reach f slot (i, 1) ∧ ¬ Reach f slot (i, 2) := by
  unfold flw at h
  by_cases h1 : Reach f slot (i, (1 : Int)) <;> by_cases h2 : Reach f slot (i, (2 : Int)) <;> by_cases h4 : Reach f slot (i, (4 : Int)) <;> simp only [h1, h2, h4, if_true, if_false] at h ⊢ <;> first | (exfalso; revert h; decide) | exact ⟨fun e => e, fun e => e⟩
theorem WOk.clean {f : Fn} {m : Nat} {x : Wk} {i : Nat} {c : Ins} (hS : soundB f = true) (hm : f.slots = m) (hm8 : m ≤ 8) (h : WOk f m x) (hi : x.at_ = i) (hc : f.code[i]? = some c) (ho : x.over = false) (hf : rowFault c (rowL m (flwG f i)) = 0) : cleanB c x = true := by
  obtain ⟨j, hj, hjl, hr⟩ := h.pos ho
  have : j = i := by omega
  subst this
  obtain ⟨ha, hb⟩ := sound_at hS hc
  unfold cleanB
  unfold rowFault at hf
  by_cases h5 : c.kd = 5
  · rw [if_pos h5] at hf ⊢
    obtain ⟨k, hk⟩ : ∃ k : Nat, c.a = k := ⟨c.a.toNat, by have := ha h5; omega⟩
    have hkm : k < m := by have := ha h5; omega
    have hg := rowL_at (g := flwG f j) hkm
    rw [hk, Int.toNat_natCast, hg] at hf
    obtain ⟨y, hy⟩ : ∃ y, x.sl[k]? = some y := ⟨_, List.getElem?_eq_getElem (by rw [h.len]; omega)⟩
    rw [hk, Int.toNat_natCast, hy]
    have h0 : bitand (flwG f j k) 2 = 0 := by
      split at hf
      · simp at hf
      · rename_i hne
        have := Classical.not_not.1 hne
        simpa using this
    have hn := (flw_and (f := f) (slot := k) (i := j) (.inr (.inl rfl))).1 h0
    refine decide_eq_true fun e => hn ?_
    have := hr k y hkm hy
    simp only [Option.getD_some] at e
    rw [e] at this
    exact this
  · rw [if_neg h5] at hf ⊢
    by_cases h7 : c.kd = 7
    · rw [if_pos h7] at hf ⊢
      obtain ⟨k, hk⟩ : ∃ k : Nat, c.b = k := ⟨c.b.toNat, by have := hb h7; omega⟩
      have hkm : k < m := by have := hb h7; omega
      have hg := rowL_at (g := flwG f j) hkm
      rw [hk, Int.toNat_natCast, hg] at hf
      obtain ⟨y, hy⟩ : ∃ y, x.sl[k]? = some y := ⟨_, List.getElem?_eq_getElem (by rw [h.len]; omega)⟩
      rw [hk, Int.toNat_natCast, hy]
      have h0 : bitand (flwG f j k) 3 = 0 := by
        split at hf
        · simp at hf
        · rename_i hne
          have := Classical.not_not.1 hne
          simpa using this
      obtain ⟨h1, h2⟩ := flw_3 (f := f) (slot := k) (i := j) h0
      have hrk := hr k y hkm hy
      have hv := h.val k y hy
      simp only [Option.getD_some]
      refine decide_eq_true ?_
      rcases hv with rfl | rfl | rfl
      · exact absurd hrk h1
      · exact absurd hrk h2
      · rfl
    · rw [if_neg h7] at hf ⊢
      by_cases h9 : c.kd = 9
      · rw [if_pos h9] at hf ⊢
        have hany : (rowL m (flwG f j)).any (fun m => decide (bitand m 2 ≠ 0)) = false := by
          cases hb : (rowL m (flwG f j)).any (fun m => decide (bitand m 2 ≠ 0)) with
          | false => rfl
          | true => rw [hb] at hf; simp at hf
        rw [Bool.not_eq_true', List.any_eq_false]
        intro y hy he
        have he : y = 1 := by simpa using he
        subst he
        obtain ⟨k, hk⟩ := List.getElem?_of_mem hy
        by_cases hkm : k < m
        · have hrk := hr k 1 hkm hk
          have hg := rowL_at (g := flwG f j) hkm
          have := List.any_eq_false.1 hany _ (List.mem_of_getElem? hg)
          have h0 : bitand (flwG f j k) 2 = 0 := by simpa using this
          exact (flw_and (f := f) (slot := k) (i := j) (.inr (.inl rfl))).1 h0 hrk
        · have := h.hi k 1 (by omega) hk
          omega
      · rw [if_neg h9]
def bools (b : Bool) : List Value := [.bool b]
theorem progSafe_c (A : Option Addr) (l : List FE) (c : Nat) (fn : Int) (C : Option Addr) (ts : List Bool) (d : Nat) (w : World) (hA : RdP w A l) (hC : RdS bools 1 w C ts) (hG : RdG w) (htl : ts.length ≤ 9223372036854775807) :
    Cl Tryd.prog 6 #[pv A l.length c, .int .i64 fn, .slice C ts.length d] w (fun v w' => v = .bool true ∧ Ext w w') (fun _ _ => False) := by
  have hfl := fns_len l
  refine calls_ex (args := [pv A l.length c, .int .i64 fn, .slice C ts.length d]) T.ok Tryd.func6 rfl rfl rfl rfl ?_
  have H := Hp.begin nw w
  refine Sq.mk ?_
  ((conv => whnf); refine Al.hp H ?_; clear H; intro pp _ H _)
  repeat' (first | ((conv => whnf); first | (((with_reducible show Gd _ _ _); first | with_reducible refine Gd.t ?_ | with_reducible refine Gd.f ?_ | with_reducible refine Gd.dec (fun _ => ?_) (fun _ => ?_) | with_reducible refine Gd.beq (fun _ => ?_) (fun _ => ?_) | with_reducible refine Gd.bne (fun _ => ?_) (fun _ => ?_) | with_reducible refine Gd.not ?_ | refine Gd.t ?_ | refine Gd.f ?_ | with_reducible refine Gd.var (fun _ => ?_) (fun _ => ?_)) <;> first | (exfalso; omega) | skip) | with_reducible refine Sq.mk ?_ | ((with_reducible show Ld1 _ _ _); first | refine Ld1.h H ?_ | refine Ld1.rF ?_ | refine Ld1.r ?_) | ((with_reducible show Ld _ _ _ _); first | refine Ld.h H ?_ | refine Ld.r ?_) | ((with_reducible show Ix _ _ _ _ _); (first | refine Ix.h ?_ | refine Ix.ha ?_)) | (refine Al.hp H ?_; clear H; intro _ _ H _) | (refine St.h H ?_; clear H; intro _ H)) | (((conv => whnf); refine Cl.mk (head_c _ (RdS.from H.e hG)) ?_); rintro _ _ ⟨rfl, hx⟩; replace H := H.ext hx; clear hx))
  (((conv => whnf); refine Cl.mk (Check_c A l c _ (RdS.from H.e hG) (hA.ext H.e)) ?_); rintro _ _ ⟨rfl, hx⟩; replace H := H.ext hx; clear hx)
  ((conv => whnf); refine Al.hp H ?_; clear H; intro pr _ H _)
  repeat' ((conv => whnf); first | (((with_reducible show Gd _ _ _); first | with_reducible refine Gd.t ?_ | with_reducible refine Gd.f ?_ | with_reducible refine Gd.dec (fun _ => ?_) (fun _ => ?_) | with_reducible refine Gd.beq (fun _ => ?_) (fun _ => ?_) | with_reducible refine Gd.bne (fun _ => ?_) (fun _ => ?_) | with_reducible refine Gd.not ?_ | refine Gd.t ?_ | refine Gd.f ?_ | with_reducible refine Gd.var (fun _ => ?_) (fun _ => ?_)) <;> first | (exfalso; omega) | skip) | with_reducible refine Sq.mk ?_ | ((with_reducible show Ld1 _ _ _); first | refine Ld1.h H ?_ | refine Ld1.rF ?_ | refine Ld1.r ?_) | ((with_reducible show Ld _ _ _ _); first | refine Ld.h H ?_ | refine Ld.r ?_) | ((with_reducible show Ix _ _ _ _ _); (first | refine Ix.h ?_ | refine Ix.ha ?_)) | (refine Al.hp H ?_; clear H; intro _ _ H _) | (refine St.h H ?_; clear H; intro _ H))
  · exact ⟨rfl, H.e⟩
  · rename_i hz hle
    have hV := check_ok.1 hz
    have := hV.len
    omega
  rename_i hz hle
  have hV := check_ok.1 hz
  have hlen := hV.len
  have hml := modN_lt fn (show 0 < l.length by omega)
  generalize hk : modN fn l.length = k at hml
  obtain ⟨x, hx⟩ : ∃ x, l[k]? = some x := ⟨_, List.getElem?_eq_getElem hml⟩
  have hxm := List.mem_of_getElem? hx
  have hfm : x.1 ∈ fns l := List.mem_map.2 ⟨x, hxm, rfl⟩
  have hS := hV.sound hfm
  have hsh := hV.shaped x.1 hfm
  obtain ⟨hl1, hl2⟩ := shaped_len hsh
  obtain ⟨m, hm, hm8⟩ := slots_nat hsh
  have hreg : 1 ≤ x.1.regs ∧ x.1.regs ≤ 16 ∧ x.1.params ≤ x.1.regs := by simp only [shapedB, decide_eq_true_eq] at hsh; omega
  have hmt : x.1.slots.toNat = m := by omega
  have hmod : ∀ w', Cl Tryd.prog 34 #[.int .i64 fn, .int .i64 (l.length : Int)] w' (fun v w'' => v = .int .i64 (k : Int) ∧ Ext w' w'') (fun _ _ => False) := fun w' => by
    have := mod_c fn l.length w' (by omega) (by omega)
    rw [hk] at this
    exact this
  have hA5 := RdS.from H.e hA.top
  repeat' ((conv => whnf); first | (((with_reducible show Gd _ _ _); first | with_reducible refine Gd.t ?_ | with_reducible refine Gd.f ?_ | with_reducible refine Gd.dec (fun _ => ?_) (fun _ => ?_) | with_reducible refine Gd.beq (fun _ => ?_) (fun _ => ?_) | with_reducible refine Gd.bne (fun _ => ?_) (fun _ => ?_) | with_reducible refine Gd.not ?_ | refine Gd.t ?_ | refine Gd.f ?_ | with_reducible refine Gd.var (fun _ => ?_) (fun _ => ?_)) <;> first | (exfalso; omega) | skip) | with_reducible refine Sq.mk ?_ | ((with_reducible show Ld1 _ _ _); first | refine Ld1.h H ?_ | refine Ld1.rF ?_ | refine Ld1.r ?_) | ((with_reducible show Ld _ _ _ _); first | refine Ld.h H ?_ | refine Ld.r ?_) | ((with_reducible show Ix _ _ _ _ _); (first | refine Ix.h ?_ | refine Ix.ha ?_)) | (refine Al.hp H ?_; clear H; intro _ _ H _) | (refine St.h H ?_; clear H; intro _ H))
  ((conv => whnf); refine Dr.al T.ok mixed 9 (by kernel_rfl) rfl rfl rfl rfl rfl rfl rfl rfl (fun W hW => ?_))
  repeat' (first | ((conv => whnf); first | (((with_reducible show Gd _ _ _); first | with_reducible refine Gd.t ?_ | with_reducible refine Gd.f ?_ | with_reducible refine Gd.dec (fun _ => ?_) (fun _ => ?_) | with_reducible refine Gd.beq (fun _ => ?_) (fun _ => ?_) | with_reducible refine Gd.bne (fun _ => ?_) (fun _ => ?_) | with_reducible refine Gd.not ?_ | refine Gd.t ?_ | refine Gd.f ?_ | with_reducible refine Gd.var (fun _ => ?_) (fun _ => ?_)) <;> first | (exfalso; omega) | skip) | ((with_reducible show QLd1 _ _ _); first | refine QLd1.h hW H ?_ | refine QLd1.rF hW ?_ | refine QLd1.r hW ?_) | ((with_reducible show QLd _ _ _ _); first | refine QLd.h hW H ?_ | refine QLd.r hW ?_) | ((with_reducible show Ix _ _ _ _ _); (first | refine Ix.h ?_ | refine Ix.ha ?_))) | ((conv => whnf); refine QCl.mk hW (fun _ ee => Cl.mk (hmod _) (fun _ _ h => h)) ?_))
  clear hA5
  (intro pf _ hlo eT hbT; replace H := H.fr0 (Hp.one (Tch.of_ext eT) (bk_ok hbT) (fun k hk => .inr (by subst hk; exact hlo))) (.inl rfl); clear hbT eT hW)
  repeat' ((conv => whnf); first | (((with_reducible show Gd _ _ _); first | with_reducible refine Gd.t ?_ | with_reducible refine Gd.f ?_ | with_reducible refine Gd.dec (fun _ => ?_) (fun _ => ?_) | with_reducible refine Gd.beq (fun _ => ?_) (fun _ => ?_) | with_reducible refine Gd.bne (fun _ => ?_) (fun _ => ?_) | with_reducible refine Gd.not ?_ | refine Gd.t ?_ | refine Gd.f ?_ | with_reducible refine Gd.var (fun _ => ?_) (fun _ => ?_)) <;> first | (exfalso; omega) | skip) | with_reducible refine Sq.mk ?_ | ((with_reducible show Ld1 _ _ _); first | refine Ld1.h H ?_ | refine Ld1.rF ?_ | refine Ld1.r ?_) | ((with_reducible show Ld _ _ _ _); first | refine Ld.h H ?_ | refine Ld.r ?_) | ((with_reducible show Ix _ _ _ _ _); (first | refine Ix.h ?_ | refine Ix.ha ?_)) | (refine St.h H ?_; clear H; intro _ H))
  all_goals first | (exfalso; omega) | skip
  ((conv => whnf); refine Al.hp H ?_; clear H; intro pw _ H _)
  repeat' ((conv => whnf); first | (((with_reducible show Gd _ _ _); first | with_reducible refine Gd.t ?_ | with_reducible refine Gd.f ?_ | with_reducible refine Gd.dec (fun _ => ?_) (fun _ => ?_) | with_reducible refine Gd.beq (fun _ => ?_) (fun _ => ?_) | with_reducible refine Gd.bne (fun _ => ?_) (fun _ => ?_) | with_reducible refine Gd.not ?_ | refine Gd.t ?_ | refine Gd.f ?_ | with_reducible refine Gd.var (fun _ => ?_) (fun _ => ?_)) <;> first | (exfalso; omega) | skip) | with_reducible refine Sq.mk ?_ | ((with_reducible show Ld1 _ _ _); first | refine Ld1.h H ?_ | refine Ld1.rF ?_ | refine Ld1.r ?_) | ((with_reducible show Ld _ _ _ _); first | refine Ld.h H ?_ | refine Ld.r ?_) | ((with_reducible show Ix _ _ _ _ _); (first | refine Ix.h ?_ | refine Ix.ha ?_)) | (refine Al.hp H ?_; clear H; intro _ _ H _) | (refine St.h H ?_; clear H; intro _ H))
  refine Lp.g0 T.ok (σ := Nat × Wk) (fun s => [(11, .int .i64 (s.1 : Int)), (10, .pointer (some ⟨pw, 0, none⟩)), (9, .pointer (some ⟨pf, 0, none⟩)), (3, .pointer (some ⟨pp, 0, none⟩)), (2, .slice C ts.length d)])
    (fun s w' => s.1 ≤ ts.length ∧ WOk x.1 m s.2 ∧ Hp nw w w' [bk pw 61 s.2.cs, bk pf 24 (x.1.v x.2.1 x.2.2).cells.toList, bk pp 46 (pv A l.length c).cells.toList]) (fun s _ => ts.length - s.1) (0, wk0) rfl ⟨rfl, rfl, rfl, rfl, rfl, trivial⟩ ⟨Nat.zero_le _, WOk.start hl1, H.sel [0, 0, 1] rfl⟩ ?_
  clear H
  rintro ⟨i, x2⟩ w5 ⟨hi, hW2, H⟩
  simp only at hi hW2 H ⊢
  obtain ⟨at0, sl, over⟩ := x2
  cases over with
  | true =>
    have h8 := hW2.len
    simp only at h8
    obtain ⟨s0, s1, s2, s3, s4, s5, s6, s7, rfl⟩ : ∃ a b c d e f g h, sl = [a, b, c, d, e, f, g, h] := by
      match sl, h8 with
      | [a, b, c, d, e, f, g, h], _ => exact ⟨a, b, c, d, e, f, g, h, rfl⟩
    repeat' ((conv => whnf); first | (((with_reducible show Gd _ _ _); first | with_reducible refine Gd.t ?_ | with_reducible refine Gd.f ?_ | with_reducible refine Gd.dec (fun _ => ?_) (fun _ => ?_) | with_reducible refine Gd.beq (fun _ => ?_) (fun _ => ?_) | with_reducible refine Gd.bne (fun _ => ?_) (fun _ => ?_) | with_reducible refine Gd.not ?_ | refine Gd.t ?_ | refine Gd.f ?_ | with_reducible refine Gd.var (fun _ => ?_) (fun _ => ?_)) <;> first | (exfalso; omega) | skip) | with_reducible refine Sq.mk ?_ | ((with_reducible show Ld1 _ _ _); first | refine Ld1.h H ?_ | refine Ld1.rF ?_ | refine Ld1.r ?_) | ((with_reducible show Ld _ _ _ _); first | refine Ld.h H ?_ | refine Ld.r ?_) | ((with_reducible show Ix _ _ _ _ _); (first | refine Ix.h ?_ | refine Ix.ha ?_)) | (refine Al.hp H ?_; clear H; intro _ _ H _) | (refine St.h H ?_; clear H; intro _ H))
    all_goals exact ⟨rfl, H.e⟩
  | false =>
    obtain ⟨j, hj, hjl, hr⟩ := hW2.pos rfl
    simp only at hj
    subst hj
    obtain ⟨y, hy⟩ : ∃ y, x.1.code[j]? = some y := ⟨_, List.getElem?_eq_getElem hjl⟩
    have h8 := hW2.len
    simp only at h8
    have hins := hV.ins x.1 hfm y (List.mem_of_getElem? hy)
    have hrf := hV.slot x.1 hfm j y hy
    rw [hmt] at hrf
    have hcl := hW2.clean hS hm hm8 rfl hy rfl hrf
    obtain ⟨hsa, hsb⟩ := sound_at hS hy
    have hstep : ∀ turn, WOk x.1 m (stepW x.1 y turn ⟨j, sl, false⟩) := fun turn => hW2.step hS hm rfl hy rfl
    obtain ⟨s0, s1, s2, s3, s4, s5, s6, s7, rfl⟩ : ∃ a b c d e f g h, sl = [a, b, c, d, e, f, g, h] := by
      match sl, h8 with
      | [a, b, c, d, e, f, g, h], _ => exact ⟨a, b, c, d, e, f, g, h, rfl⟩
    have hrg : 1 ≤ x.1.regs ∧ x.1.regs ≤ 16 := ⟨hreg.1, hreg.2.1⟩
    replace H : Hp nw w w5 [bk pw 61 [.int .i64 (j : Int), .int .i64 s0, .int .i64 s1, .int .i64 s2, .int .i64 s3, .int .i64 s4, .int .i64 s5, .int .i64 s6, .int .i64 s7, .bool false], bk pf 24 (x.1.v x.2.1 x.2.2).cells.toList, bk pp 46 (pv A l.length c).cells.toList] := H
    by_cases hit : i < ts.length
    · obtain ⟨tn, htn⟩ : ∃ t, ts[i]? = some t := ⟨_, List.getElem?_eq_getElem hit⟩
      repeat' ((conv => whnf); first | (((with_reducible show Gd _ _ _); first | with_reducible refine Gd.t ?_ | with_reducible refine Gd.f ?_ | with_reducible refine Gd.dec (fun _ => ?_) (fun _ => ?_) | with_reducible refine Gd.beq (fun _ => ?_) (fun _ => ?_) | with_reducible refine Gd.bne (fun _ => ?_) (fun _ => ?_) | with_reducible refine Gd.not ?_ | refine Gd.t ?_ | refine Gd.f ?_ | with_reducible refine Gd.var (fun _ => ?_) (fun _ => ?_)) <;> first | (exfalso; omega) | skip) | with_reducible refine Sq.mk ?_ | ((with_reducible show Ld1 _ _ _); first | refine Ld1.h H ?_ | refine Ld1.rF ?_ | refine Ld1.r ?_) | ((with_reducible show Ld _ _ _ _); first | refine Ld.h H ?_ | refine Ld.r ?_) | ((with_reducible show Ix _ _ _ _ _); (first | refine Ix.h ?_ | refine Ix.ha ?_)) | (refine Al.hp H ?_; clear H; intro _ _ H _) | (refine St.h H ?_; clear H; intro _ H))
      ((conv => whnf); refine Dr.quiet T.ok mixed (by kernel_rfl) (fun W hW => ?_))
      repeat' ((conv => whnf); first | (((with_reducible show Gd _ _ _); first | with_reducible refine Gd.t ?_ | with_reducible refine Gd.f ?_ | with_reducible refine Gd.dec (fun _ => ?_) (fun _ => ?_) | with_reducible refine Gd.beq (fun _ => ?_) (fun _ => ?_) | with_reducible refine Gd.bne (fun _ => ?_) (fun _ => ?_) | with_reducible refine Gd.not ?_ | refine Gd.t ?_ | refine Gd.f ?_ | with_reducible refine Gd.var (fun _ => ?_) (fun _ => ?_)) <;> first | (exfalso; omega) | skip) | ((with_reducible show QLd1 _ _ _); first | refine QLd1.h hW H ?_ | refine QLd1.rF hW ?_ | refine QLd1.r hW ?_) | ((with_reducible show QLd _ _ _ _); first | refine QLd.h hW H ?_ | refine QLd.r hW ?_) | ((with_reducible show Ix _ _ _ _ _); (first | refine Ix.h ?_ | refine Ix.ha ?_)))
      (intro _ eT; replace H := H.ext eT; clear hW eT)
      have hAx := RdS.from H.e (hA.code x hxm)
      repeat' ((conv => whnf); first | (((with_reducible show Gd _ _ _); first | with_reducible refine Gd.t ?_ | with_reducible refine Gd.f ?_ | with_reducible refine Gd.dec (fun _ => ?_) (fun _ => ?_) | with_reducible refine Gd.beq (fun _ => ?_) (fun _ => ?_) | with_reducible refine Gd.bne (fun _ => ?_) (fun _ => ?_) | with_reducible refine Gd.not ?_ | refine Gd.t ?_ | refine Gd.f ?_ | with_reducible refine Gd.var (fun _ => ?_) (fun _ => ?_)) <;> first | (exfalso; omega) | skip) | with_reducible refine Sq.mk ?_ | ((with_reducible show Ld1 _ _ _); first | refine Ld1.h H ?_ | refine Ld1.rF ?_ | refine Ld1.r ?_) | ((with_reducible show Ld _ _ _ _); first | refine Ld.h H ?_ | refine Ld.r ?_) | ((with_reducible show Ix _ _ _ _ _); (first | refine Ix.h ?_ | refine Ix.ha ?_)) | (refine Al.hp H ?_; clear H; intro _ _ H _) | (refine St.h H ?_; clear H; intro _ H))
      ((conv => whnf); refine Dr.al T.ok mixed 8 (by kernel_rfl) rfl rfl rfl rfl rfl rfl rfl rfl (fun W hW => ?_))
      repeat' ((conv => whnf); first | (((with_reducible show Gd _ _ _); first | with_reducible refine Gd.t ?_ | with_reducible refine Gd.f ?_ | with_reducible refine Gd.dec (fun _ => ?_) (fun _ => ?_) | with_reducible refine Gd.beq (fun _ => ?_) (fun _ => ?_) | with_reducible refine Gd.bne (fun _ => ?_) (fun _ => ?_) | with_reducible refine Gd.not ?_ | refine Gd.t ?_ | refine Gd.f ?_ | with_reducible refine Gd.var (fun _ => ?_) (fun _ => ?_)) <;> first | (exfalso; omega) | skip) | ((with_reducible show QLd1 _ _ _); first | refine QLd1.h hW H ?_ | refine QLd1.rF hW ?_ | refine QLd1.r hW ?_) | ((with_reducible show QLd _ _ _ _); first | refine QLd.h hW H ?_ | refine QLd.r hW ?_) | ((with_reducible show Ix _ _ _ _ _); (first | refine Ix.h ?_ | refine Ix.ha ?_)))
      clear hAx
      (intro pc _ hlo eT hbT; replace H := H.fr0 (Hp.one (Tch.of_ext eT) (bk_ok hbT) (fun k hk => .inr (by subst hk; exact hlo))) (.inl rfl); clear hbT eT hW)
      repeat' (first | ((conv => whnf); first | (((with_reducible show Gd _ _ _); first | with_reducible refine Gd.t ?_ | with_reducible refine Gd.f ?_ | with_reducible refine Gd.dec (fun _ => ?_) (fun _ => ?_) | with_reducible refine Gd.beq (fun _ => ?_) (fun _ => ?_) | with_reducible refine Gd.bne (fun _ => ?_) (fun _ => ?_) | with_reducible refine Gd.not ?_ | refine Gd.t ?_ | refine Gd.f ?_ | with_reducible refine Gd.var (fun _ => ?_) (fun _ => ?_)) <;> first | (exfalso; omega) | skip) | with_reducible refine Sq.mk ?_ | ((with_reducible show Ld1 _ _ _); first | refine Ld1.h H ?_ | refine Ld1.rF ?_ | refine Ld1.r ?_) | ((with_reducible show Ld _ _ _ _); first | refine Ld.h H ?_ | refine Ld.r ?_) | ((with_reducible show Ix _ _ _ _ _); (first | refine Ix.h ?_ | refine Ix.ha ?_)) | (refine Al.hp H ?_; clear H; intro _ _ H _) | (refine St.h H ?_; clear H; intro _ H)) | (((conv => whnf); refine Cl.mk (fitsLaw_c x.1 x.2.1 x.2.2 y A l c _ (RdS.from H.e hA.top) hins.1 hins.2 hrg) ?_); rintro _ _ ⟨rfl, hx⟩; replace H := H.ext hx; clear hx) | (((conv => whnf); refine Cl.mk (clean_c pw ⟨j, [s0, s1, s2, s3, s4, s5, s6, s7], false⟩ y _ (H.blk 1 rfl) rfl (fun h => by have := hsa h; omega) (fun h => by have := hsb h; omega)) ?_); rintro _ _ ⟨rfl, hx⟩; replace H := H.ext hx; clear hx; rw [hcl]))
      have hts := RdS.from H.e hC
      ((conv => whnf); refine Dr.tail T.ok mixed 6 (by kernel_rfl) (fun W wT hW eT _ => ?_); (repeat' ((conv => whnf); first | (((with_reducible show Gd _ _ _); first | with_reducible refine Gd.t ?_ | with_reducible refine Gd.f ?_ | with_reducible refine Gd.dec (fun _ => ?_) (fun _ => ?_) | with_reducible refine Gd.beq (fun _ => ?_) (fun _ => ?_) | with_reducible refine Gd.bne (fun _ => ?_) (fun _ => ?_) | with_reducible refine Gd.not ?_ | refine Gd.t ?_ | refine Gd.f ?_ | with_reducible refine Gd.var (fun _ => ?_) (fun _ => ?_)) <;> first | (exfalso; omega) | skip) | ((with_reducible show QLd1 _ _ _); first | refine QLd1.h hW H ?_ | refine QLd1.rF hW ?_ | refine QLd1.r hW ?_) | ((with_reducible show QLd _ _ _ _); first | refine QLd.h hW H ?_ | refine QLd.r hW ?_) | ((with_reducible show Ix _ _ _ _ _); (first | refine Ix.h ?_ | refine Ix.ha ?_)))); replace H := H.ext eT; clear hW eT)
      clear hts
      ((conv => whnf); refine Cl.mk (steps_c x.1 x.2.1 x.2.2 tn pw j ⟨j, [s0, s1, s2, s3, s4, s5, s6, s7], false⟩ y w _ H.e (by have := H.dom _ (List.mem_of_getElem? (i := 1) rfl) (.inl rfl) pw rfl; omega) (hA.code x hxm) (H.blk 1 rfl) rfl rfl hy hl2 (fun h => by have := hsa h; omega)) ?_)
      rintro _ w8 H'
      replace H := H.updb H'
      clear H'
      repeat' ((conv => whnf); first | (((with_reducible show Gd _ _ _); first | with_reducible refine Gd.t ?_ | with_reducible refine Gd.f ?_ | with_reducible refine Gd.dec (fun _ => ?_) (fun _ => ?_) | with_reducible refine Gd.beq (fun _ => ?_) (fun _ => ?_) | with_reducible refine Gd.bne (fun _ => ?_) (fun _ => ?_) | with_reducible refine Gd.not ?_ | refine Gd.t ?_ | refine Gd.f ?_ | with_reducible refine Gd.var (fun _ => ?_) (fun _ => ?_)) <;> first | (exfalso; omega) | skip) | with_reducible refine Sq.mk ?_ | ((with_reducible show Ld1 _ _ _); first | refine Ld1.h H ?_ | refine Ld1.rF ?_ | refine Ld1.r ?_) | ((with_reducible show Ld _ _ _ _); first | refine Ld.h H ?_ | refine Ld.r ?_) | ((with_reducible show Ix _ _ _ _ _); (first | refine Ix.h ?_ | refine Ix.ha ?_)) | (refine Al.hp H ?_; clear H; intro _ _ H _) | (refine St.h H ?_; clear H; intro _ H))
      exact ⟨(i + 1, _), ⟨at_int (m := ((i + 1 : Nat) : Int)) rfl (w64 (by simp) (by omega) (by omega)), rfl, rfl, rfl, rfl, trivial⟩, rfl, ⟨by simp only; omega, hstep tn, H.d0⟩, by simp only; omega⟩
    · repeat' ((conv => whnf); first | (((with_reducible show Gd _ _ _); first | with_reducible refine Gd.t ?_ | with_reducible refine Gd.f ?_ | with_reducible refine Gd.dec (fun _ => ?_) (fun _ => ?_) | with_reducible refine Gd.beq (fun _ => ?_) (fun _ => ?_) | with_reducible refine Gd.bne (fun _ => ?_) (fun _ => ?_) | with_reducible refine Gd.not ?_ | refine Gd.t ?_ | refine Gd.f ?_ | with_reducible refine Gd.var (fun _ => ?_) (fun _ => ?_)) <;> first | (exfalso; omega) | skip) | with_reducible refine Sq.mk ?_ | ((with_reducible show Ld1 _ _ _); first | refine Ld1.h H ?_ | refine Ld1.rF ?_ | refine Ld1.r ?_) | ((with_reducible show Ld _ _ _ _); first | refine Ld.h H ?_ | refine Ld.r ?_) | ((with_reducible show Ix _ _ _ _ _); (first | refine Ix.h ?_ | refine Ix.ha ?_)) | (refine Al.hp H ?_; clear H; intro _ _ H _) | (refine St.h H ?_; clear H; intro _ H))
      exact ⟨rfl, H.e⟩
end Go.Proofs.YtbbadmlekagloaaDoor
namespace Go.Proofs.YtbbadmlekagloaaDoor
open Go Go.Sh
set_option linter.unusedVariables false
set_option linter.unusedSimpArgs false
attribute [local irreducible] Blk Ext RdS
theorem okS_bit (s : Int) : okS (bitS s) := by
  unfold bitS okS
  split
  · exact .inl rfl
  · split
    · exact .inr (.inl rfl)
    · exact .inr (.inr rfl)
theorem bits_c (s : Int) (w : World) : Cl Tryd.prog 38 #[.int .i64 s] w (fun v w' => v = .int .i64 (bitS s) ∧ Ext w w') (fun _ _ => False) := by
  refine calls_ex (args := [.int .i64 s]) T.ok Tryd.func38 rfl rfl rfl rfl ?_
  have H := Hp.begin nw w
  repeat' ((conv => whnf); first | (((with_reducible show Gd _ _ _); first | with_reducible refine Gd.t ?_ | with_reducible refine Gd.f ?_ | with_reducible refine Gd.dec (fun _ => ?_) (fun _ => ?_) | with_reducible refine Gd.beq (fun _ => ?_) (fun _ => ?_) | with_reducible refine Gd.bne (fun _ => ?_) (fun _ => ?_) | with_reducible refine Gd.not ?_ | refine Gd.t ?_ | refine Gd.f ?_ | with_reducible refine Gd.var (fun _ => ?_) (fun _ => ?_)) <;> first | (exfalso; omega) | skip) | with_reducible refine Sq.mk ?_ | ((with_reducible show Ld1 _ _ _); first | refine Ld1.h H ?_ | refine Ld1.rF ?_ | refine Ld1.r ?_) | ((with_reducible show Ld _ _ _ _); first | refine Ld.h H ?_ | refine Ld.r ?_) | ((with_reducible show Ix _ _ _ _ _); (first | refine Ix.h ?_ | refine Ix.ha ?_)) | (refine Al.hp H ?_; clear H; intro _ _ H _) | (refine St.h H ?_; clear H; intro _ H))
  all_goals (refine ⟨i_eq ?_, H.e⟩; simp_all [bitS])
set_option maxHeartbeats 1000000 in
theorem progPaths_c (A : Option Addr) (l : List FE) (c : Nat) (fn : Int) (C : Option Addr) (ts : List Bool) (d : Nat) (w : World) (hA : RdP w A l) (hC : RdS bools 1 w C ts) (hG : RdG w) (htl : ts.length ≤ 9223372036854775000) :
    Cl Tryd.prog 7 #[pv A l.length c, .int .i64 fn, .slice C ts.length d] w (fun v w' => v = .bool true ∧ Ext w w') (fun _ _ => False) := by
  have hfl := fns_len l
  refine calls_ex (args := [pv A l.length c, .int .i64 fn, .slice C ts.length d]) T.ok Tryd.func7 rfl rfl rfl rfl ?_
  have H := Hp.begin nw w
  refine Sq.mk ?_
  ((conv => whnf); refine Al.hp H ?_; clear H; intro pp _ H _)
  repeat' ((conv => whnf); first | (((with_reducible show Gd _ _ _); first | with_reducible refine Gd.t ?_ | with_reducible refine Gd.f ?_ | with_reducible refine Gd.dec (fun _ => ?_) (fun _ => ?_) | with_reducible refine Gd.beq (fun _ => ?_) (fun _ => ?_) | with_reducible refine Gd.bne (fun _ => ?_) (fun _ => ?_) | with_reducible refine Gd.not ?_ | refine Gd.t ?_ | refine Gd.f ?_ | with_reducible refine Gd.var (fun _ => ?_) (fun _ => ?_)) <;> first | (exfalso; omega) | skip) | with_reducible refine Sq.mk ?_ | ((with_reducible show Ld1 _ _ _); first | refine Ld1.h H ?_ | refine Ld1.rF ?_ | refine Ld1.r ?_) | ((with_reducible show Ld _ _ _ _); first | refine Ld.h H ?_ | refine Ld.r ?_) | ((with_reducible show Ix _ _ _ _ _); (first | refine Ix.h ?_ | refine Ix.ha ?_)) | (refine Al.hp H ?_; clear H; intro _ _ H _) | (refine St.h H ?_; clear H; intro _ H))
  (((conv => whnf); refine Cl.mk (Check_c A l c _ (RdS.from H.e hG) (hA.ext H.e)) ?_); rintro _ _ ⟨rfl, hx⟩; replace H := H.ext hx; clear hx)
  ((conv => whnf); refine Al.hp H ?_; clear H; intro pr _ H _)
  repeat' (first | ((conv => whnf); first | (((with_reducible show Gd _ _ _); first | with_reducible refine Gd.t ?_ | with_reducible refine Gd.f ?_ | with_reducible refine Gd.dec (fun _ => ?_) (fun _ => ?_) | with_reducible refine Gd.beq (fun _ => ?_) (fun _ => ?_) | with_reducible refine Gd.bne (fun _ => ?_) (fun _ => ?_) | with_reducible refine Gd.not ?_ | refine Gd.t ?_ | refine Gd.f ?_ | with_reducible refine Gd.var (fun _ => ?_) (fun _ => ?_)) <;> first | (exfalso; omega) | skip) | with_reducible refine Sq.mk ?_ | ((with_reducible show Ld1 _ _ _); first | refine Ld1.h H ?_ | refine Ld1.rF ?_ | refine Ld1.r ?_) | ((with_reducible show Ld _ _ _ _); first | refine Ld.h H ?_ | refine Ld.r ?_) | ((with_reducible show Ix _ _ _ _ _); (first | refine Ix.h ?_ | refine Ix.ha ?_)) | (refine Al.hp H ?_; clear H; intro _ _ H _) | (refine St.h H ?_; clear H; intro _ H)) | (((conv => whnf); refine Cl.mk (head_c _ (RdS.from H.e hG)) ?_); rintro _ _ ⟨rfl, hx⟩; replace H := H.ext hx; clear hx))
  · exact ⟨rfl, H.e⟩
  · exact ⟨rfl, H.e⟩
  rename_i hz hle
  have hz : (checkL (fns l)).1 = 0 := by first | exact Classical.not_not.1 hz | exact hz
  have hV := check_ok.1 hz
  have hlen := hV.len
  have hml := modN_lt fn (show 0 < l.length by omega)
  generalize hk : modN fn l.length = k at hml
  obtain ⟨x, hx⟩ : ∃ x, l[k]? = some x := ⟨_, List.getElem?_eq_getElem hml⟩
  have hxm := List.mem_of_getElem? hx
  have hfm : x.1 ∈ fns l := List.mem_map.2 ⟨x, hxm, rfl⟩
  have hS := hV.sound hfm
  have hsh := hV.shaped x.1 hfm
  obtain ⟨hl1, hl2⟩ := shaped_len hsh
  obtain ⟨m, hm, hm8⟩ := slots_nat hsh
  have hrg : 1 ≤ x.1.regs ∧ x.1.regs ≤ 16 := by simp only [shapedB, decide_eq_true_eq] at hsh; omega
  have hmod : ∀ w', Cl Tryd.prog 34 #[.int .i64 fn, .int .i64 (l.length : Int)] w' (fun v w'' => v = .int .i64 (k : Int) ∧ Ext w' w'') (fun _ _ => False) := fun w' => by
    have := mod_c fn l.length w' (by omega) (by omega)
    rw [hk] at this
    exact this
  have hA5 := RdS.from H.e hA.top
  repeat' ((conv => whnf); first | (((with_reducible show Gd _ _ _); first | with_reducible refine Gd.t ?_ | with_reducible refine Gd.f ?_ | with_reducible refine Gd.dec (fun _ => ?_) (fun _ => ?_) | with_reducible refine Gd.beq (fun _ => ?_) (fun _ => ?_) | with_reducible refine Gd.bne (fun _ => ?_) (fun _ => ?_) | with_reducible refine Gd.not ?_ | refine Gd.t ?_ | refine Gd.f ?_ | with_reducible refine Gd.var (fun _ => ?_) (fun _ => ?_)) <;> first | (exfalso; omega) | skip) | with_reducible refine Sq.mk ?_ | ((with_reducible show Ld1 _ _ _); first | refine Ld1.h H ?_ | refine Ld1.rF ?_ | refine Ld1.r ?_) | ((with_reducible show Ld _ _ _ _); first | refine Ld.h H ?_ | refine Ld.r ?_) | ((with_reducible show Ix _ _ _ _ _); (first | refine Ix.h ?_ | refine Ix.ha ?_)) | (refine Al.hp H ?_; clear H; intro _ _ H _) | (refine St.h H ?_; clear H; intro _ H))
  ((conv => whnf); refine Dr.al T.ok mixed 9 (by kernel_rfl) rfl rfl rfl rfl rfl rfl rfl rfl (fun W hW => ?_))
  repeat' (first | ((conv => whnf); first | (((with_reducible show Gd _ _ _); first | with_reducible refine Gd.t ?_ | with_reducible refine Gd.f ?_ | with_reducible refine Gd.dec (fun _ => ?_) (fun _ => ?_) | with_reducible refine Gd.beq (fun _ => ?_) (fun _ => ?_) | with_reducible refine Gd.bne (fun _ => ?_) (fun _ => ?_) | with_reducible refine Gd.not ?_ | refine Gd.t ?_ | refine Gd.f ?_ | with_reducible refine Gd.var (fun _ => ?_) (fun _ => ?_)) <;> first | (exfalso; omega) | skip) | ((with_reducible show QLd1 _ _ _); first | refine QLd1.h hW H ?_ | refine QLd1.rF hW ?_ | refine QLd1.r hW ?_) | ((with_reducible show QLd _ _ _ _); first | refine QLd.h hW H ?_ | refine QLd.r hW ?_) | ((with_reducible show Ix _ _ _ _ _); (first | refine Ix.h ?_ | refine Ix.ha ?_))) | ((conv => whnf); refine QCl.mk hW (fun _ ee => Cl.mk (hmod _) (fun _ _ h => h)) ?_))
  clear hA5
  (intro pf _ hlo eT hbT; replace H := H.fr0 (Hp.one (Tch.of_ext eT) (bk_ok hbT) (fun k hk => .inr (by subst hk; exact hlo))) (.inl rfl); clear hbT eT hW)
  repeat' ((conv => whnf); first | (((with_reducible show Gd _ _ _); first | with_reducible refine Gd.t ?_ | with_reducible refine Gd.f ?_ | with_reducible refine Gd.dec (fun _ => ?_) (fun _ => ?_) | with_reducible refine Gd.beq (fun _ => ?_) (fun _ => ?_) | with_reducible refine Gd.bne (fun _ => ?_) (fun _ => ?_) | with_reducible refine Gd.not ?_ | refine Gd.t ?_ | refine Gd.f ?_ | with_reducible refine Gd.var (fun _ => ?_) (fun _ => ?_)) <;> first | (exfalso; omega) | skip) | with_reducible refine Sq.mk ?_ | ((with_reducible show Ld1 _ _ _); first | refine Ld1.h H ?_ | refine Ld1.rF ?_ | refine Ld1.r ?_) | ((with_reducible show Ld _ _ _ _); first | refine Ld.h H ?_ | refine Ld.r ?_) | ((with_reducible show Ix _ _ _ _ _); (first | refine Ix.h ?_ | refine Ix.ha ?_)) | (refine Al.hp H ?_; clear H; intro _ _ H _) | (refine St.h H ?_; clear H; intro _ H))
  ((conv => whnf); refine Cl.mk (pFlow_yes x.1 x.2.1 x.2.2 m _ (RdS.from H.e (hA.code x hxm)) (RdS.from H.e hG) hS hm hm8) ?_)
  rintro _ w2 ⟨p, ps, rfl, hpl2, hM, e⟩
  replace H := H.fr0 (mx_new hM e) (.inl rfl)
  clear hM e
  repeat' ((conv => whnf); first | (((with_reducible show Gd _ _ _); first | with_reducible refine Gd.t ?_ | with_reducible refine Gd.f ?_ | with_reducible refine Gd.dec (fun _ => ?_) (fun _ => ?_) | with_reducible refine Gd.beq (fun _ => ?_) (fun _ => ?_) | with_reducible refine Gd.bne (fun _ => ?_) (fun _ => ?_) | with_reducible refine Gd.not ?_ | refine Gd.t ?_ | refine Gd.f ?_ | with_reducible refine Gd.var (fun _ => ?_) (fun _ => ?_)) <;> first | (exfalso; omega) | skip) | with_reducible refine Sq.mk ?_ | ((with_reducible show Ld1 _ _ _); first | refine Ld1.h H ?_ | refine Ld1.rF ?_ | refine Ld1.r ?_) | ((with_reducible show Ld _ _ _ _); first | refine Ld.h H ?_ | refine Ld.r ?_) | ((with_reducible show Ix _ _ _ _ _); (first | refine Ix.h ?_ | refine Ix.ha ?_)) | (refine St.h H ?_; clear H; intro _ H))
  all_goals first | (exfalso; omega) | skip
  ((conv => whnf); refine Al.hp H ?_; clear H; intro pw _ H _)
  repeat' ((conv => whnf); first | (((with_reducible show Gd _ _ _); first | with_reducible refine Gd.t ?_ | with_reducible refine Gd.f ?_ | with_reducible refine Gd.dec (fun _ => ?_) (fun _ => ?_) | with_reducible refine Gd.beq (fun _ => ?_) (fun _ => ?_) | with_reducible refine Gd.bne (fun _ => ?_) (fun _ => ?_) | with_reducible refine Gd.not ?_ | refine Gd.t ?_ | refine Gd.f ?_ | with_reducible refine Gd.var (fun _ => ?_) (fun _ => ?_)) <;> first | (exfalso; omega) | skip) | with_reducible refine Sq.mk ?_ | ((with_reducible show Ld1 _ _ _); first | refine Ld1.h H ?_ | refine Ld1.rF ?_ | refine Ld1.r ?_) | ((with_reducible show Ld _ _ _ _); first | refine Ld.h H ?_ | refine Ld.r ?_) | ((with_reducible show Ix _ _ _ _ _); (first | refine Ix.h ?_ | refine Ix.ha ?_)) | (refine Al.hp H ?_; clear H; intro _ _ H _) | (refine St.h H ?_; clear H; intro _ H))
  replace H := H.sel [0, 0, 0, 1] rfl
  obtain ⟨bb, H⟩ : ∃ bb, Hp nw w _ [bk pw 61 wk0.cs, mxk bb p x.1.code.length m ps (flwG x.1), bk pf 24 (x.1.v x.2.1 x.2.2).cells.toList, bk pp 46 (pv A l.length c).cells.toList] := ⟨_, H⟩
  refine Lp.g0 T.ok (σ := Nat × Wk) (fun s => [(11, .int .i64 (s.1 : Int)), (10, .pointer (some ⟨pw, 0, none⟩)), (9, .slice (some ⟨p, 0, none⟩) x.1.code.length x.1.code.length), (8, .pointer (some ⟨pf, 0, none⟩)), (3, .pointer (some ⟨pp, 0, none⟩)), (2, .slice C ts.length d)])
    (fun s w' => s.1 ≤ ts.length + 1 ∧ WOk x.1 m s.2 ∧ Hp nw w w' [bk pw 61 s.2.cs, mxk bb p x.1.code.length m ps (flwG x.1), bk pf 24 (x.1.v x.2.1 x.2.2).cells.toList, bk pp 46 (pv A l.length c).cells.toList]) (fun s _ => ts.length + 1 - s.1) (0, wk0) rfl ⟨rfl, rfl, rfl, rfl, rfl, rfl, trivial⟩ ⟨Nat.zero_le _, WOk.start hl1, H⟩ ?_
  clear H
  rintro ⟨i, x2⟩ w5 ⟨hi, hW2, H⟩
  simp only at hi hW2 H ⊢
  obtain ⟨at0, sl, over⟩ := x2
  cases over with
  | true =>
    have h8 := hW2.len
    simp only at h8
    obtain ⟨s0, s1, s2, s3, s4, s5, s6, s7, rfl⟩ : ∃ a b c d e f g h, sl = [a, b, c, d, e, f, g, h] := by
      match sl, h8 with
      | [a, b, c, d, e, f, g, h], _ => exact ⟨a, b, c, d, e, f, g, h, rfl⟩
    repeat' ((conv => whnf); first | (((with_reducible show Gd _ _ _); first | with_reducible refine Gd.t ?_ | with_reducible refine Gd.f ?_ | with_reducible refine Gd.dec (fun _ => ?_) (fun _ => ?_) | with_reducible refine Gd.beq (fun _ => ?_) (fun _ => ?_) | with_reducible refine Gd.bne (fun _ => ?_) (fun _ => ?_) | with_reducible refine Gd.not ?_ | refine Gd.t ?_ | refine Gd.f ?_ | with_reducible refine Gd.var (fun _ => ?_) (fun _ => ?_)) <;> first | (exfalso; omega) | skip) | with_reducible refine Sq.mk ?_ | ((with_reducible show Ld1 _ _ _); first | refine Ld1.h H ?_ | refine Ld1.rF ?_ | refine Ld1.r ?_) | ((with_reducible show Ld _ _ _ _); first | refine Ld.h H ?_ | refine Ld.r ?_) | ((with_reducible show Ix _ _ _ _ _); (first | refine Ix.h ?_ | refine Ix.ha ?_)) | (refine Al.hp H ?_; clear H; intro _ _ H _) | (refine St.h H ?_; clear H; intro _ H))
    all_goals exact ⟨rfl, H.e⟩
  | false =>
    obtain ⟨j, hj, hjl, hr⟩ := hW2.pos rfl
    simp only at hj
    subst hj
    obtain ⟨y, hy⟩ : ∃ y, x.1.code[j]? = some y := ⟨_, List.getElem?_eq_getElem hjl⟩
    obtain ⟨q, hq⟩ : ∃ q, ps[j]? = some q := ⟨_, List.getElem?_eq_getElem (by omega)⟩
    have h8 := hW2.len
    simp only at h8
    have hins := hV.ins x.1 hfm y (List.mem_of_getElem? hy)
    obtain ⟨hsa, hsb⟩ := sound_at hS hy
    have hstep : ∀ turn, WOk x.1 m (stepW x.1 y turn ⟨j, sl, false⟩) := fun turn => hW2.step hS hm rfl hy rfl
    obtain ⟨s0, s1, s2, s3, s4, s5, s6, s7, rfl⟩ : ∃ a b c d e f g h, sl = [a, b, c, d, e, f, g, h] := by
      match sl, h8 with
      | [a, b, c, d, e, f, g, h], _ => exact ⟨a, b, c, d, e, f, g, h, rfl⟩
    replace H : Hp nw w w5 [bk pw 61 [.int .i64 (j : Int), .int .i64 s0, .int .i64 s1, .int .i64 s2, .int .i64 s3, .int .i64 s4, .int .i64 s5, .int .i64 s6, .int .i64 s7, .bool false], mxk bb p x.1.code.length m ps (flwG x.1), bk pf 24 (x.1.v x.2.1 x.2.2).cells.toList, bk pp 46 (pv A l.length c).cells.toList] := H
    by_cases hit : i ≤ ts.length
    · have hM : Mx _ bb p x.1.code.length m ps (flwG x.1) := H.atC 1 rfl
      have hrr := hM.rd (by omega)
      have hat := hM.at hq
      have hlm := hM.len
      repeat' ((conv => whnf); first | (((with_reducible show Gd _ _ _); first | with_reducible refine Gd.t ?_ | with_reducible refine Gd.f ?_ | with_reducible refine Gd.dec (fun _ => ?_) (fun _ => ?_) | with_reducible refine Gd.beq (fun _ => ?_) (fun _ => ?_) | with_reducible refine Gd.bne (fun _ => ?_) (fun _ => ?_) | with_reducible refine Gd.not ?_ | refine Gd.t ?_ | refine Gd.f ?_ | with_reducible refine Gd.var (fun _ => ?_) (fun _ => ?_)) <;> first | (exfalso; omega) | skip) | with_reducible refine Sq.mk ?_ | ((with_reducible show Ld1 _ _ _); first | refine Ld1.h H ?_ | refine Ld1.rF ?_ | refine Ld1.r ?_) | ((with_reducible show Ld _ _ _ _); first | refine Ld.h H ?_ | refine Ld.r ?_) | ((with_reducible show Ix _ _ _ _ _); (first | refine Ix.h ?_ | refine Ix.ha ?_)) | (refine Al.hp H ?_; clear H; intro _ _ H _) | (refine St.h H ?_; clear H; intro _ H))
      ((conv => whnf); refine Dr.quiet T.ok mixed (by kernel_rfl) (fun W hW => ?_))
      repeat' ((conv => whnf); first | (((with_reducible show Gd _ _ _); first | with_reducible refine Gd.t ?_ | with_reducible refine Gd.f ?_ | with_reducible refine Gd.dec (fun _ => ?_) (fun _ => ?_) | with_reducible refine Gd.beq (fun _ => ?_) (fun _ => ?_) | with_reducible refine Gd.bne (fun _ => ?_) (fun _ => ?_) | with_reducible refine Gd.not ?_ | refine Gd.t ?_ | refine Gd.f ?_ | with_reducible refine Gd.var (fun _ => ?_) (fun _ => ?_)) <;> first | (exfalso; omega) | skip) | ((with_reducible show QLd1 _ _ _); first | refine QLd1.h hW H ?_ | refine QLd1.rF hW ?_ | refine QLd1.r hW ?_) | ((with_reducible show QLd _ _ _ _); first | refine QLd.h hW H ?_ | refine QLd.r hW ?_) | ((with_reducible show Ix _ _ _ _ _); (first | refine Ix.h ?_ | refine Ix.ha ?_)))
      all_goals first | (exfalso; omega) | skip
      (intro _ eT; replace H := H.ext eT; clear hW eT)
      clear hrr hM
      repeat' ((conv => whnf); first | (((with_reducible show Gd _ _ _); first | with_reducible refine Gd.t ?_ | with_reducible refine Gd.f ?_ | with_reducible refine Gd.dec (fun _ => ?_) (fun _ => ?_) | with_reducible refine Gd.beq (fun _ => ?_) (fun _ => ?_) | with_reducible refine Gd.bne (fun _ => ?_) (fun _ => ?_) | with_reducible refine Gd.not ?_ | refine Gd.t ?_ | refine Gd.f ?_ | with_reducible refine Gd.var (fun _ => ?_) (fun _ => ?_)) <;> first | (exfalso; omega) | skip) | with_reducible refine Sq.mk ?_ | ((with_reducible show Ld1 _ _ _); first | refine Ld1.h H ?_ | refine Ld1.rF ?_ | refine Ld1.r ?_) | ((with_reducible show Ld _ _ _ _); first | refine Ld.h H ?_ | refine Ld.r ?_) | ((with_reducible show Ix _ _ _ _ _); (first | refine Ix.h ?_ | refine Ix.ha ?_)) | (refine Al.hp H ?_; clear H; intro _ _ H _) | (refine St.h H ?_; clear H; intro _ H))
      -- the slots
      refine Lp.g0 T.ok (σ := Nat) (fun s => [(12, .int .i64 (s : Int)), (11, .int .i64 (i : Int)), (10, .pointer (some ⟨pw, 0, none⟩)), (9, .slice (some ⟨p, 0, none⟩) x.1.code.length x.1.code.length), (8, .pointer (some ⟨pf, 0, none⟩)), (3, .pointer (some ⟨pp, 0, none⟩)), (2, .slice C ts.length d)])
        (fun s w' => s ≤ m ∧ Hp nw w w' [bk pw 61 [.int .i64 (j : Int), .int .i64 s0, .int .i64 s1, .int .i64 s2, .int .i64 s3, .int .i64 s4, .int .i64 s5, .int .i64 s6, .int .i64 s7, .bool false], mxk bb p x.1.code.length m ps (flwG x.1), bk pf 24 (x.1.v x.2.1 x.2.2).cells.toList, bk pp 46 (pv A l.length c).cells.toList]) (fun s _ => m - s) 0 rfl ⟨rfl, rfl, rfl, rfl, rfl, rfl, rfl, trivial⟩ ⟨Nat.zero_le _, H⟩ ?_
      clear H
      rintro s w6 ⟨hs, H⟩
      by_cases hsm : s < m
      · have hM : Mx _ bb p x.1.code.length m ps (flwG x.1) := H.atC 1 rfl
        have hrr := hM.rd (by omega)
        have hlm := hM.len
        have hrow := rd_full (hM.row j q hq) (fun _ _ => rfl)
        have hg := rowL_at (g := flwG x.1 j) hsm
        have hlen2 := rowL_len m (flwG x.1 j)
        obtain ⟨v, hv⟩ : ∃ v, [s0, s1, s2, s3, s4, s5, s6, s7][s]? = some v := ⟨_, List.getElem?_eq_getElem (by simp; omega)⟩
        have hreach := hr s v hsm hv
        have hbit : ¬ bitand (flwG x.1 j s) (bitS v) = 0 := fun e => (flw_and (f := x.1) (slot := s) (i := j) (okS_bit v)).1 e hreach
        have hsl : RdS ints 1 _ (some ⟨pw, 1, none⟩) [s0, s1, s2, s3, s4, s5, s6, s7] := rd_wk (x := ⟨j, [s0, s1, s2, s3, s4, s5, s6, s7], false⟩) (H.blk 0 rfl)
        have hsl8 : [s0, s1, s2, s3, s4, s5, s6, s7].length = 8 := rfl
        repeat' ((conv => whnf); first | (((with_reducible show Gd _ _ _); first | with_reducible refine Gd.t ?_ | with_reducible refine Gd.f ?_ | with_reducible refine Gd.dec (fun _ => ?_) (fun _ => ?_) | with_reducible refine Gd.beq (fun _ => ?_) (fun _ => ?_) | with_reducible refine Gd.bne (fun _ => ?_) (fun _ => ?_) | with_reducible refine Gd.not ?_ | refine Gd.t ?_ | refine Gd.f ?_ | with_reducible refine Gd.var (fun _ => ?_) (fun _ => ?_)) <;> first | (exfalso; omega) | skip) | with_reducible refine Sq.mk ?_ | ((with_reducible show Ld1 _ _ _); first | refine Ld1.h H ?_ | refine Ld1.rF ?_ | refine Ld1.r ?_) | ((with_reducible show Ld _ _ _ _); first | refine Ld.h H ?_ | refine Ld.r ?_) | ((with_reducible show Ix _ _ _ _ _); (first | refine Ix.h ?_ | refine Ix.ha ?_)) | (refine Al.hp H ?_; clear H; intro _ _ H _) | (refine St.h H ?_; clear H; intro _ H))
        ((conv => whnf); refine Dr.quiet T.ok mixed (by kernel_rfl) (fun W hW => ?_))
        repeat' (first | ((conv => whnf); first | (((with_reducible show Gd _ _ _); first | with_reducible refine Gd.t ?_ | with_reducible refine Gd.f ?_ | with_reducible refine Gd.dec (fun _ => ?_) (fun _ => ?_) | with_reducible refine Gd.beq (fun _ => ?_) (fun _ => ?_) | with_reducible refine Gd.bne (fun _ => ?_) (fun _ => ?_) | with_reducible refine Gd.not ?_ | refine Gd.t ?_ | refine Gd.f ?_ | with_reducible refine Gd.var (fun _ => ?_) (fun _ => ?_)) <;> first | (exfalso; omega) | skip) | ((with_reducible show QLd1 _ _ _); first | refine QLd1.h hW H ?_ | refine QLd1.rF hW ?_ | refine QLd1.r hW ?_) | ((with_reducible show QLd _ _ _ _); first | refine QLd.h hW H ?_ | refine QLd.r hW ?_) | ((with_reducible show Ix _ _ _ _ _); (first | refine Ix.h ?_ | refine Ix.ha ?_))) | ((conv => whnf); refine QCl.mk hW (fun _ ee => Cl.mk (bits_c v _) (fun _ _ h => h)) ?_))
        (intro _ eT; replace H := H.ext eT; clear hW eT)
        clear hrr hM hrow hsl
        repeat' ((conv => whnf); first | (((with_reducible show Gd _ _ _); first | with_reducible refine Gd.t ?_ | with_reducible refine Gd.f ?_ | with_reducible refine Gd.dec (fun _ => ?_) (fun _ => ?_) | with_reducible refine Gd.beq (fun _ => ?_) (fun _ => ?_) | with_reducible refine Gd.bne (fun _ => ?_) (fun _ => ?_) | with_reducible refine Gd.not ?_ | refine Gd.t ?_ | refine Gd.f ?_ | with_reducible refine Gd.var (fun _ => ?_) (fun _ => ?_)) <;> first | (exfalso; omega) | skip) | with_reducible refine Sq.mk ?_ | ((with_reducible show Ld1 _ _ _); first | refine Ld1.h H ?_ | refine Ld1.rF ?_ | refine Ld1.r ?_) | ((with_reducible show Ld _ _ _ _); first | refine Ld.h H ?_ | refine Ld.r ?_) | ((with_reducible show Ix _ _ _ _ _); (first | refine Ix.h ?_ | refine Ix.ha ?_)) | (refine Al.hp H ?_; clear H; intro _ _ H _) | (refine St.h H ?_; clear H; intro _ H))
        all_goals first | (exfalso; exact hbit (by assumption)) | skip
        exact ⟨s + 1, ⟨at_int rfl (w64 (by simp) (by omega) (by omega)), rfl, rfl, rfl, rfl, rfl, rfl, trivial⟩, rfl, ⟨by omega, H⟩, by omega⟩
      · repeat' ((conv => whnf); first | (((with_reducible show Gd _ _ _); first | with_reducible refine Gd.t ?_ | with_reducible refine Gd.f ?_ | with_reducible refine Gd.dec (fun _ => ?_) (fun _ => ?_) | with_reducible refine Gd.beq (fun _ => ?_) (fun _ => ?_) | with_reducible refine Gd.bne (fun _ => ?_) (fun _ => ?_) | with_reducible refine Gd.not ?_ | refine Gd.t ?_ | refine Gd.f ?_ | with_reducible refine Gd.var (fun _ => ?_) (fun _ => ?_)) <;> first | (exfalso; omega) | skip) | with_reducible refine Sq.mk ?_ | ((with_reducible show Ld1 _ _ _); first | refine Ld1.h H ?_ | refine Ld1.rF ?_ | refine Ld1.r ?_) | ((with_reducible show Ld _ _ _ _); first | refine Ld.h H ?_ | refine Ld.r ?_) | ((with_reducible show Ix _ _ _ _ _); (first | refine Ix.h ?_ | refine Ix.ha ?_)) | (refine Al.hp H ?_; clear H; intro _ _ H _) | (refine St.h H ?_; clear H; intro _ H))
        have hAx := RdS.from H.e (hA.code x hxm)
        ((conv => whnf); refine Dr.al T.ok mixed 8 (by kernel_rfl) rfl rfl rfl rfl rfl rfl rfl rfl (fun W hW => ?_))
        repeat' ((conv => whnf); first | (((with_reducible show Gd _ _ _); first | with_reducible refine Gd.t ?_ | with_reducible refine Gd.f ?_ | with_reducible refine Gd.dec (fun _ => ?_) (fun _ => ?_) | with_reducible refine Gd.beq (fun _ => ?_) (fun _ => ?_) | with_reducible refine Gd.bne (fun _ => ?_) (fun _ => ?_) | with_reducible refine Gd.not ?_ | refine Gd.t ?_ | refine Gd.f ?_ | with_reducible refine Gd.var (fun _ => ?_) (fun _ => ?_)) <;> first | (exfalso; omega) | skip) | ((with_reducible show QLd1 _ _ _); first | refine QLd1.h hW H ?_ | refine QLd1.rF hW ?_ | refine QLd1.r hW ?_) | ((with_reducible show QLd _ _ _ _); first | refine QLd.h hW H ?_ | refine QLd.r hW ?_) | ((with_reducible show Ix _ _ _ _ _); (first | refine Ix.h ?_ | refine Ix.ha ?_)))
        clear hAx
        (intro pc _ hlo eT hbT; replace H := H.fr0 (Hp.one (Tch.of_ext eT) (bk_ok hbT) (fun k hk => .inr (by subst hk; exact hlo))) (.inl rfl); clear hbT eT hW)
        repeat' (first | ((conv => whnf); first | (((with_reducible show Gd _ _ _); first | with_reducible refine Gd.t ?_ | with_reducible refine Gd.f ?_ | with_reducible refine Gd.dec (fun _ => ?_) (fun _ => ?_) | with_reducible refine Gd.beq (fun _ => ?_) (fun _ => ?_) | with_reducible refine Gd.bne (fun _ => ?_) (fun _ => ?_) | with_reducible refine Gd.not ?_ | refine Gd.t ?_ | refine Gd.f ?_ | with_reducible refine Gd.var (fun _ => ?_) (fun _ => ?_)) <;> first | (exfalso; omega) | skip) | with_reducible refine Sq.mk ?_ | ((with_reducible show Ld1 _ _ _); first | refine Ld1.h H ?_ | refine Ld1.rF ?_ | refine Ld1.r ?_) | ((with_reducible show Ld _ _ _ _); first | refine Ld.h H ?_ | refine Ld.r ?_) | ((with_reducible show Ix _ _ _ _ _); (first | refine Ix.h ?_ | refine Ix.ha ?_)) | (refine Al.hp H ?_; clear H; intro _ _ H _) | (refine St.h H ?_; clear H; intro _ H)) | (((conv => whnf); refine Cl.mk (fitsLaw_c x.1 x.2.1 x.2.2 y A l c _ (RdS.from H.e hA.top) hins.1 hins.2 hrg) ?_); rintro _ _ ⟨rfl, hx⟩; replace H := H.ext hx; clear hx))
        · obtain ⟨tn, htn⟩ : ∃ t, ts[i]? = some t := ⟨_, List.getElem?_eq_getElem (by omega)⟩
          have hts := RdS.from H.e hC
          ((conv => whnf); refine Dr.tail T.ok mixed 6 (by kernel_rfl) (fun W wT hW eT _ => ?_); (repeat' ((conv => whnf); first | (((with_reducible show Gd _ _ _); first | with_reducible refine Gd.t ?_ | with_reducible refine Gd.f ?_ | with_reducible refine Gd.dec (fun _ => ?_) (fun _ => ?_) | with_reducible refine Gd.beq (fun _ => ?_) (fun _ => ?_) | with_reducible refine Gd.bne (fun _ => ?_) (fun _ => ?_) | with_reducible refine Gd.not ?_ | refine Gd.t ?_ | refine Gd.f ?_ | with_reducible refine Gd.var (fun _ => ?_) (fun _ => ?_)) <;> first | (exfalso; omega) | skip) | ((with_reducible show QLd1 _ _ _); first | refine QLd1.h hW H ?_ | refine QLd1.rF hW ?_ | refine QLd1.r hW ?_) | ((with_reducible show QLd _ _ _ _); first | refine QLd.h hW H ?_ | refine QLd.r hW ?_) | ((with_reducible show Ix _ _ _ _ _); (first | refine Ix.h ?_ | refine Ix.ha ?_)))); replace H := H.ext eT; clear hW eT)
          clear hts
          ((conv => whnf); refine Cl.mk (steps_c x.1 x.2.1 x.2.2 tn pw j ⟨j, [s0, s1, s2, s3, s4, s5, s6, s7], false⟩ y w _ H.e (by have := H.dom _ (List.mem_of_getElem? (i := 1) rfl) (.inl rfl) pw rfl; omega) (hA.code x hxm) (H.blk 1 rfl) rfl rfl hy hl2 (fun h => by have := hsa h; omega)) ?_)
          rintro _ w8 H'
          replace H := H.updb H'
          clear H'
          repeat' ((conv => whnf); first | (((with_reducible show Gd _ _ _); first | with_reducible refine Gd.t ?_ | with_reducible refine Gd.f ?_ | with_reducible refine Gd.dec (fun _ => ?_) (fun _ => ?_) | with_reducible refine Gd.beq (fun _ => ?_) (fun _ => ?_) | with_reducible refine Gd.bne (fun _ => ?_) (fun _ => ?_) | with_reducible refine Gd.not ?_ | refine Gd.t ?_ | refine Gd.f ?_ | with_reducible refine Gd.var (fun _ => ?_) (fun _ => ?_)) <;> first | (exfalso; omega) | skip) | with_reducible refine Sq.mk ?_ | ((with_reducible show Ld1 _ _ _); first | refine Ld1.h H ?_ | refine Ld1.rF ?_ | refine Ld1.r ?_) | ((with_reducible show Ld _ _ _ _); first | refine Ld.h H ?_ | refine Ld.r ?_) | ((with_reducible show Ix _ _ _ _ _); (first | refine Ix.h ?_ | refine Ix.ha ?_)) | (refine Al.hp H ?_; clear H; intro _ _ H _) | (refine St.h H ?_; clear H; intro _ H))
          exact ⟨(i + 1, _), ⟨at_int (m := ((i + 1 : Nat) : Int)) rfl (w64 (by simp) (by omega) (by omega)), rfl, rfl, rfl, rfl, rfl, trivial⟩, rfl, ⟨by simp only; omega, hstep tn, H.d0⟩, by simp only; omega⟩
        · exact ⟨(i + 1, _), ⟨at_int (m := ((i + 1 : Nat) : Int)) rfl (w64 (by simp) (by omega) (by omega)), rfl, rfl, rfl, rfl, rfl, trivial⟩, rfl, ⟨by simp only; omega, hW2, H.d0⟩, by simp only; omega⟩
    · repeat' ((conv => whnf); first | (((with_reducible show Gd _ _ _); first | with_reducible refine Gd.t ?_ | with_reducible refine Gd.f ?_ | with_reducible refine Gd.dec (fun _ => ?_) (fun _ => ?_) | with_reducible refine Gd.beq (fun _ => ?_) (fun _ => ?_) | with_reducible refine Gd.bne (fun _ => ?_) (fun _ => ?_) | with_reducible refine Gd.not ?_ | refine Gd.t ?_ | refine Gd.f ?_ | with_reducible refine Gd.var (fun _ => ?_) (fun _ => ?_)) <;> first | (exfalso; omega) | skip) | with_reducible refine Sq.mk ?_ | ((with_reducible show Ld1 _ _ _); first | refine Ld1.h H ?_ | refine Ld1.rF ?_ | refine Ld1.r ?_) | ((with_reducible show Ld _ _ _ _); first | refine Ld.h H ?_ | refine Ld.r ?_) | ((with_reducible show Ix _ _ _ _ _); (first | refine Ix.h ?_ | refine Ix.ha ?_)) | (refine Al.hp H ?_; clear H; intro _ _ H _) | (refine St.h H ?_; clear H; intro _ H))
      exact ⟨rfl, H.e⟩
end Go.Proofs.YtbbadmlekagloaaDoor
namespace Go.Proofs.YtbbadmlekagloaaDoor
open Go Go.Sh
set_option linter.unusedVariables false
set_option linter.unusedSimpArgs false
attribute [local irreducible] Blk Ext RdS
theorem fs1_some {α β : Type} {g : Nat → α → Option β} : ∀ {l : List α} {j i : Nat} {b : β}, fs1 g l j = some (i, b) → ∃ k x, i = j + k ∧ l[k]? = some x ∧ g i x = some b
  | [], _, _, _, h => by simp [fs1] at h
  | y :: r, j, i, b, h => by
    cases hg : g j y with
    | some b' =>
      simp only [fs1, hg, Option.some.injEq, Prod.mk.injEq] at h
      obtain ⟨rfl, rfl⟩ := h
      exact ⟨0, y, rfl, rfl, hg⟩
    | none =>
      simp only [fs1, hg] at h
      obtain ⟨k, x, h1, h2, h3⟩ := fs1_some h
      exact ⟨k + 1, x, by omega, by simpa using h2, h3⟩
/-- what a refusal for the slots says -/
structure Told (fs : List Fn) (x : Int × Nat × Nat) (f : Fn) (c : Ins) : Prop where
  hf : fs[x.2.1]? = some f
  hc : f.code[x.2.2]? = some c
  len : 1 ≤ fs.length ∧ fs.length ≤ 32
  shaped : ∀ f ∈ fs, shapedB f = true
  ins : ∀ f ∈ fs, ∀ c ∈ f.code, aloneB f c = true ∧ calledB fs f c = true
  ends : ∀ f ∈ fs, endsB f = true
  fault : rowFault c (rowL f.slots.toNat (flwG f x.2.2)) = x.1
theorem check_told {fs : List Fn} (h : (checkL fs).1 = 54 ∨ (checkL fs).1 = 55 ∨ (checkL fs).1 = 56) : ∃ f c, Told fs (checkL fs) f c := by
  generalize hx : checkL fs = x at h ⊢
  unfold checkL at hx
  split at hx
  · subst hx; simp at h
  rename_i hlen
  split at hx
  · subst hx; simp at h
  rename_i h1
  have hsh : ∀ f ∈ fs, shapedB f = true := fun f hf => by
    obtain ⟨k, hk⟩ := List.getElem?_of_mem hf
    have := fs1_all h1 k f hk
    cases hb : shapedB f with
    | true => rfl
    | false => simp [hb] at this
  split at hx
  · rename_i i e k h2
    exfalso
    obtain ⟨_, f, _, _, hg⟩ := fs1_some h2
    have : e = 52 ∨ e = 53 := by
      unfold ins1 at hg
      split at hg
      · simp at hg; omega
      · split at hg
        · simp at hg
        · simp at hg; omega
    subst hx
    simp only at h
    omega
  rename_i h2
  have hin : ∀ f ∈ fs, fs1 (insG fs f) f.code 0 = none ∧ endsB f = true := fun f hf => by
    obtain ⟨k, hk⟩ := List.getElem?_of_mem hf
    have h3 : ins1 fs f = none := fs1_all h2 k f hk
    unfold ins1 at h3
    split at h3
    · simp at h3
    · rename_i hn
      split at h3
      · exact ⟨hn, by assumption⟩
      · simp at h3
  split at hx
  · rename_i i e k h3
    subst hx
    obtain ⟨j, f, hj, hf, hg⟩ := fs1_some h3
    simp only [slot1, Option.map_eq_some_iff] at hg
    obtain ⟨⟨k', e'⟩, hg1, hg2⟩ := hg
    simp only [Prod.mk.injEq] at hg2
    obtain ⟨rfl, rfl⟩ := hg2
    obtain ⟨j2, c, hj2, hc, hg3⟩ := fs1_some hg1
    have hii : i = j := by omega
    have hkk : k' = j2 := by omega
    subst hii; subst hkk
    refine ⟨f, c, hf, hc, by omega, hsh, fun f' hf' c' hc' => ?_, fun f' hf' => (hin f' hf').2, ?_⟩
    · obtain ⟨k, hk⟩ := List.getElem?_of_mem hc'
      have := fs1_all (hin f' hf').1 k c' hk
      simp only [insG] at this
      split at this
      · rename_i hb
        simpa using hb
      · simp at this
    · simp only [slotG] at hg3
      split at hg3
      · simp at hg3
      · simpa using hg3
  · subst hx; simp at h
theorem Told.sound {fs : List Fn} {x : Int × Nat × Nat} {f0 : Fn} {c0 : Ins} (h : Told fs x f0 c0) {f : Fn} (hf : f ∈ fs) : soundB f = true := by
  simp only [soundB, h.shaped f hf, h.ends f hf, Bool.and_true, Bool.true_and, List.all_eq_true]
  exact fun c hc => (h.ins f hf c hc).1
/-- where the law's walk stands at the i-th point of a path -/
structure LW (f : Fn) (slot : Nat) (y : Pt) (x : Wk) : Prop where
  len : x.sl.length = 8
  ov : x.over = false
  pos : x.at_ = (y.1 : Int)
  val : ∃ v, x.sl[slot]? = some v ∧ (v = 0 ∨ v = 1 ∨ v = 2) ∧ bitS v = y.2
theorem LW.start {f : Fn} {slot : Nat} (h : slot < 8) : LW f slot (0, 1) wk0 := by
  obtain ⟨v, hv⟩ : ∃ v, wk0.sl[slot]? = some v := ⟨_, List.getElem?_eq_getElem (by show slot < 8; exact h)⟩
  have := wk0_at hv
  subst this
  exact ⟨rfl, rfl, rfl, 0, hv, .inl rfl, rfl⟩
theorem LW.step {f : Fn} {slot : Nat} {y z : Pt} {x : Wk} {c : Ins} (hS : soundB f = true) (h : LW f slot y x) (hc : f.code[y.1]? = some c) (hz : z ∈ succs f slot y) : LW f slot z (stepW f c (decide (c.kd = 4) && decide (c.b = (z.1 : Int))) x) := by
  obtain ⟨hn, ha⟩ := succ_mem hS hc hz
  obtain ⟨v, hv, h3, hb⟩ := h.val
  obtain ⟨hsa, hsb⟩ := sound_at hS hc
  have hlt := (List.getElem?_eq_some_iff.1 hv).1
  refine ⟨?_, ?_, ?_, ?_⟩
  · simp only [stepW]; split
    · simp [h.len]
    · split <;> simp [h.len]
  · simp only [stepW]
    split
    · rename_i h9
      simp [nextsS, h9] at hn
    · exact h.ov
  · have hp := h.pos
    simp only [nextsS] at hn
    simp only [stepW]
    by_cases k3 : c.kd = 3
    · rw [if_pos k3] at hn ⊢
      simp only [List.mem_cons, List.not_mem_nil, or_false] at hn
      exact hn.symm
    · rw [if_neg k3] at hn ⊢
      by_cases k9 : c.kd = 9
      · rw [if_pos k9] at hn; simp at hn
      · rw [if_neg k9] at hn
        by_cases k4 : c.kd = 4
        · rw [if_pos k4] at hn
          simp only [List.mem_cons, List.not_mem_nil, or_false] at hn
          by_cases hbb : c.b = (z.1 : Int)
          · rw [if_pos ⟨k4, by simp [k4, hbb]⟩]; exact hbb
          · rw [if_neg (by simp [hbb])]
            omega
        · rw [if_neg k4] at hn
          simp only [List.mem_cons, List.not_mem_nil, or_false] at hn
          rw [if_neg (fun e => k4 e.1)]
          omega
  · simp only [stepW]
    by_cases h5 : c.kd = 5
    · rw [if_pos h5, List.getElem?_set]
      have ha5 := hsa h5
      by_cases hcs : c.a.toNat = slot
      · rw [if_pos hcs, if_pos (by omega)]
        refine ⟨1, rfl, by omega, ?_⟩
        rw [← ha, afterS, if_pos ⟨h5, by omega⟩]; rfl
      · rw [if_neg hcs]
        refine ⟨v, hv, h3, ?_⟩
        rw [← ha, afterS, if_neg (by omega), if_neg (by omega), hb]
    · rw [if_neg h5]
      by_cases h6 : c.kd = 6
      · rw [if_pos h6, List.getElem?_map, hv]
        refine ⟨_, rfl, ?_, ?_⟩
        · show (if v = 1 then (2 : Int) else v) = 0 ∨ (if v = 1 then (2 : Int) else v) = 1 ∨ (if v = 1 then (2 : Int) else v) = 2
          split <;> omega
        · rw [← ha, afterS, if_neg (by omega), ← hb]
          rcases h3 with rfl | rfl | rfl <;> simp [bitS, h6]
      · rw [if_neg h6]
        refine ⟨v, hv, h3, ?_⟩
        rw [← ha, afterS, if_neg (by omega), if_neg (by omega), hb]
set_option maxHeartbeats 1000000 in
theorem leads_c (x : FE) (A : Option Addr) (l : List FE) (c : Nat) (p : List Int) (C : Option Addr) (d i s : Nat) (st : Int) (w : World) (hA : RdP w A l) (hxm : x ∈ l) (hC : RdS ints 1 w C p) (hS : soundB x.1 = true)
    (hins : ∀ y ∈ x.1.code, aloneB x.1 y = true ∧ calledB (fns l) x.1 y = true) (hs8 : s < 8) (hg : GoodPath x.1 s (i, st) p) :
    Cl Tryd.prog 43 #[pv A l.length c, x.1.v x.2.1 x.2.2, .slice C p.length d, .int .i64 (i : Int), .int .i64 (s : Int), .int .i64 st] w (fun v w' => v = .bool true ∧ Ext w w') (fun _ _ => False) := by
  obtain ⟨pts, rfl, h0, hlast, hsteps, hl3, hin⟩ := hg
  have hsh : shapedB x.1 = true := by simp only [soundB, Bool.and_eq_true] at hS; exact hS.1.1
  obtain ⟨hl1, hl2⟩ := shaped_len hsh
  have hrg : 1 ≤ x.1.regs ∧ x.1.regs ≤ 16 := by simp only [shapedB, decide_eq_true_eq] at hsh; omega
  obtain ⟨m8, hm8, hm88⟩ := slots_nat hsh
  have hpl := pl_len pts
  have hp0 := (List.getElem?_eq_some_iff.1 h0).1
  have hw3 : IntKind.i64.wrap (3 * (x.1.code.length : Int)) = 3 * (x.1.code.length : Int) := w64 rfl (by omega) (by omega)
  have hwl : IntKind.i64.wrap (((pl pts).length : Int) - 1) = ((pts.length - 1 : Nat) : Int) := w64 (by omega) (by omega) (by omega)
  have hq0 : (pl pts)[0]? = some 0 := by simp [pl, h0]
  have hql : (pl pts)[pts.length - 1]? = some (i : Int) := by
    rw [List.getLast?_eq_getElem?] at hlast
    simp [pl, hlast]
  have hc0 : ((pl pts).length : Int) ≠ 0 := by omega
  refine calls_ex (args := [pv A l.length c, x.1.v x.2.1 x.2.2, .slice C (pl pts).length d, .int .i64 (i : Int), .int .i64 (s : Int), .int .i64 st]) T.ok Tryd.func43 rfl rfl rfl rfl ?_
  have H := Hp.begin nw w
  refine Sq.mk ?_
  ((conv => whnf); refine Al.hp H ?_; clear H; intro pp _ H _)
  ((conv => whnf); refine Al.hp H ?_; clear H; intro pf _ H _)
  repeat' ((conv => whnf); first | (((with_reducible show Gd _ _ _); first | with_reducible refine Gd.t ?_ | with_reducible refine Gd.f ?_ | with_reducible refine Gd.dec (fun _ => ?_) (fun _ => ?_) | with_reducible refine Gd.beq (fun _ => ?_) (fun _ => ?_) | with_reducible refine Gd.bne (fun _ => ?_) (fun _ => ?_) | with_reducible refine Gd.not ?_ | refine Gd.t ?_ | refine Gd.f ?_ | with_reducible refine Gd.var (fun _ => ?_) (fun _ => ?_)) <;> first | (exfalso; omega) | skip) | with_reducible refine Sq.mk ?_ | ((with_reducible show Ld1 _ _ _); first | refine Ld1.h H ?_ | refine Ld1.rF ?_ | refine Ld1.r ?_) | ((with_reducible show Ld _ _ _ _); first | refine Ld.h H ?_ | refine Ld.r ?_) | ((with_reducible show Ix _ _ _ _ _); (first | refine Ix.h ?_ | refine Ix.ha ?_)) | (refine St.h H ?_; clear H; intro _ H))
  all_goals first | (exfalso; omega) | skip
  ((conv => whnf); refine Al.hp H ?_; clear H; intro pw _ H _)
  repeat' ((conv => whnf); first | (((with_reducible show Gd _ _ _); first | with_reducible refine Gd.t ?_ | with_reducible refine Gd.f ?_ | with_reducible refine Gd.dec (fun _ => ?_) (fun _ => ?_) | with_reducible refine Gd.beq (fun _ => ?_) (fun _ => ?_) | with_reducible refine Gd.bne (fun _ => ?_) (fun _ => ?_) | with_reducible refine Gd.not ?_ | refine Gd.t ?_ | refine Gd.f ?_ | with_reducible refine Gd.var (fun _ => ?_) (fun _ => ?_)) <;> first | (exfalso; omega) | skip) | with_reducible refine Sq.mk ?_ | ((with_reducible show Ld1 _ _ _); first | refine Ld1.h H ?_ | refine Ld1.rF ?_ | refine Ld1.r ?_) | ((with_reducible show Ld _ _ _ _); first | refine Ld.h H ?_ | refine Ld.r ?_) | ((with_reducible show Ix _ _ _ _ _); (first | refine Ix.h ?_ | refine Ix.ha ?_)) | (refine Al.hp H ?_; clear H; intro _ _ H _) | (refine St.h H ?_; clear H; intro _ H))
  refine Lp.g0 T.ok (σ := Nat × Wk) (fun q => [(14, .int .i64 (q.1 : Int)), (13, .pointer (some ⟨pw, 0, none⟩)), (7, .pointer (some ⟨pf, 0, none⟩)), (6, .pointer (some ⟨pp, 0, none⟩)), (5, .int .i64 st), (4, .int .i64 (s : Int)), (3, .int .i64 (i : Int)), (2, .slice C (pl pts).length d)])
    (fun q w' => (∃ y, pts[q.1]? = some y ∧ LW x.1 s y q.2) ∧ Hp nw w w' [bk pw 61 q.2.cs, bk pf 24 (x.1.v x.2.1 x.2.2).cells.toList, bk pp 46 (pv A l.length c).cells.toList]) (fun q _ => pts.length - q.1) (0, wk0) rfl ⟨rfl, rfl, rfl, rfl, rfl, rfl, rfl, rfl, trivial⟩ ⟨⟨_, h0, LW.start hs8⟩, H⟩ ?_
  clear H
  rintro ⟨k, x2⟩ w5 ⟨⟨y, hy, hLW⟩, H⟩
  simp only at hy hLW H ⊢
  obtain ⟨at0, sl, over⟩ := x2
  have hLW2 := hLW
  obtain ⟨h8, hov, hpos, v, hv, hv3, hvb⟩ := hLW2
  simp only at h8 hov hpos hv
  subst hov
  subst hpos
  obtain ⟨hk1, hk2⟩ := List.getElem?_eq_some_iff.1 hy
  obtain ⟨hyl, hyo⟩ := hin y (List.mem_of_getElem? hy)
  obtain ⟨cc, hcc⟩ : ∃ cc, x.1.code[y.1]? = some cc := ⟨_, List.getElem?_eq_getElem hyl⟩
  obtain ⟨hi1, hi2⟩ := hins cc (List.mem_of_getElem? hcc)
  obtain ⟨hsa, hsb⟩ := sound_at hS hcc
  obtain ⟨s0, s1, s2, s3, s4, s5, s6, s7, rfl⟩ : ∃ a b c d e f g h, sl = [a, b, c, d, e, f, g, h] := by
    match sl, h8 with
    | [a, b, c, d, e, f, g, h], _ => exact ⟨a, b, c, d, e, f, g, h, rfl⟩
  replace H : Hp nw w w5 [bk pw 61 [.int .i64 (y.1 : Int), .int .i64 s0, .int .i64 s1, .int .i64 s2, .int .i64 s3, .int .i64 s4, .int .i64 s5, .int .i64 s6, .int .i64 s7, .bool false], bk pf 24 (x.1.v x.2.1 x.2.2).cells.toList, bk pp 46 (pv A l.length c).cells.toList] := H
  have hwk : IntKind.i64.wrap ((k : Int) + 1) = ((k + 1 : Nat) : Int) := w64 (by omega) (by omega) (by omega)
  by_cases hlt : k + 1 < pts.length
  · obtain ⟨z, hz⟩ : ∃ z, pts[k + 1]? = some z := ⟨_, List.getElem?_eq_getElem hlt⟩
    have hzs := hsteps k y z hy hz
    have hLz := LW.step hS hLW hcc hzs
    have hqz : (pl pts)[k + 1]? = some (z.1 : Int) := by simp [pl, hz]
    have hlt2 : ((k + 1 : Nat) : Int) < ((pl pts).length : Int) := by omega
    have hAx := RdS.from H.e (hA.code x hxm)
    have hAt := RdS.from H.e hA.top
    repeat' ((conv => whnf); first | (((with_reducible show Gd _ _ _); first | with_reducible refine Gd.t ?_ | with_reducible refine Gd.f ?_ | with_reducible refine Gd.dec (fun _ => ?_) (fun _ => ?_) | with_reducible refine Gd.beq (fun _ => ?_) (fun _ => ?_) | with_reducible refine Gd.bne (fun _ => ?_) (fun _ => ?_) | with_reducible refine Gd.not ?_ | refine Gd.t ?_ | refine Gd.f ?_ | with_reducible refine Gd.var (fun _ => ?_) (fun _ => ?_)) <;> first | (exfalso; omega) | skip) | with_reducible refine Sq.mk ?_ | ((with_reducible show Ld1 _ _ _); first | refine Ld1.h H ?_ | refine Ld1.rF ?_ | refine Ld1.r ?_) | ((with_reducible show Ld _ _ _ _); first | refine Ld.h H ?_ | refine Ld.r ?_) | ((with_reducible show Ix _ _ _ _ _); (first | refine Ix.h ?_ | refine Ix.ha ?_)) | (refine Al.hp H ?_; clear H; intro _ _ H _) | (refine St.h H ?_; clear H; intro _ H))
    all_goals first | (exfalso; omega) | skip
    ((conv => whnf); refine Dr.quiet T.ok mixed (by kernel_rfl) (fun W hW => ?_))
    repeat' (first | ((conv => whnf); first | (((with_reducible show Gd _ _ _); first | with_reducible refine Gd.t ?_ | with_reducible refine Gd.f ?_ | with_reducible refine Gd.dec (fun _ => ?_) (fun _ => ?_) | with_reducible refine Gd.beq (fun _ => ?_) (fun _ => ?_) | with_reducible refine Gd.bne (fun _ => ?_) (fun _ => ?_) | with_reducible refine Gd.not ?_ | refine Gd.t ?_ | refine Gd.f ?_ | with_reducible refine Gd.var (fun _ => ?_) (fun _ => ?_)) <;> first | (exfalso; omega) | skip) | ((with_reducible show QLd1 _ _ _); first | refine QLd1.h hW H ?_ | refine QLd1.rF hW ?_ | refine QLd1.r hW ?_) | ((with_reducible show QLd _ _ _ _); first | refine QLd.h hW H ?_ | refine QLd.r hW ?_) | ((with_reducible show Ix _ _ _ _ _); (first | refine Ix.h ?_ | refine Ix.ha ?_))) | ((conv => whnf); refine QCl.mk hW (fun _ ee => Cl.mk (fitsLaw_c x.1 x.2.1 x.2.2 cc A l c _ (RdS.from ee hAt) hi1 hi2 hrg) (fun _ _ h => h)) ?_))
    all_goals first | (exfalso; omega) | skip
    (intro _ eT; replace H := H.ext eT; clear hW eT)
    repeat' ((conv => whnf); first | (((with_reducible show Gd _ _ _); first | with_reducible refine Gd.t ?_ | with_reducible refine Gd.f ?_ | with_reducible refine Gd.dec (fun _ => ?_) (fun _ => ?_) | with_reducible refine Gd.beq (fun _ => ?_) (fun _ => ?_) | with_reducible refine Gd.bne (fun _ => ?_) (fun _ => ?_) | with_reducible refine Gd.not ?_ | refine Gd.t ?_ | refine Gd.f ?_ | with_reducible refine Gd.var (fun _ => ?_) (fun _ => ?_)) <;> first | (exfalso; omega) | skip) | with_reducible refine Sq.mk ?_ | ((with_reducible show Ld1 _ _ _); first | refine Ld1.h H ?_ | refine Ld1.rF ?_ | refine Ld1.r ?_) | ((with_reducible show Ld _ _ _ _); first | refine Ld.h H ?_ | refine Ld.r ?_) | ((with_reducible show Ix _ _ _ _ _); (first | refine Ix.h ?_ | refine Ix.ha ?_)) | (refine Al.hp H ?_; clear H; intro _ _ H _) | (refine St.h H ?_; clear H; intro _ H))
    have hst : ∀ w', Hp nw w w' [bk pw 61 [.int .i64 (y.1 : Int), .int .i64 s0, .int .i64 s1, .int .i64 s2, .int .i64 s3, .int .i64 s4, .int .i64 s5, .int .i64 s6, .int .i64 s7, .bool false], bk pf 24 (x.1.v x.2.1 x.2.2).cells.toList, bk pp 46 (pv A l.length c).cells.toList] → ∀ t : Bool, Cl Tryd.prog 37 #[.pointer (some ⟨pw, 0, none⟩), x.1.v x.2.1 x.2.2, .bool t] w' (fun _ w'' => Hp (· = pw) w' w'' [bk pw 61 (stepW x.1 cc t ⟨y.1, [s0, s1, s2, s3, s4, s5, s6, s7], false⟩).cs]) (fun _ _ => False) := fun w' H t =>
      steps_c x.1 x.2.1 x.2.2 t pw y.1 ⟨y.1, [s0, s1, s2, s3, s4, s5, s6, s7], false⟩ cc w _ H.e ((H.dom _ (List.mem_of_getElem? (i := 0) rfl) (.inl rfl) pw rfl).resolve_left (fun h => h)) (hA.code x hxm) (H.blk 0 rfl) rfl rfl hcc hl2 (fun h => by have := hsa h; omega)
    have hcont : ∀ t : Bool, t = (decide (cc.kd = 4) && decide (cc.b = (z.1 : Int))) → LW x.1 s z (stepW x.1 cc t ⟨y.1, [s0, s1, s2, s3, s4, s5, s6, s7], false⟩) := fun t ht => by rw [ht]; exact hLz
    by_cases h4 : cc.kd = 4
    · have hAx := RdS.from H.e (hA.code x hxm)
      refine Dr.tail T.ok mixed 25 (by kernel_rfl) (fun W wT hW eT _ => ?_)
      repeat' ((conv => whnf); first | (((with_reducible show Gd _ _ _); first | with_reducible refine Gd.t ?_ | with_reducible refine Gd.f ?_ | with_reducible refine Gd.dec (fun _ => ?_) (fun _ => ?_) | with_reducible refine Gd.beq (fun _ => ?_) (fun _ => ?_) | with_reducible refine Gd.bne (fun _ => ?_) (fun _ => ?_) | with_reducible refine Gd.not ?_ | refine Gd.t ?_ | refine Gd.f ?_ | with_reducible refine Gd.var (fun _ => ?_) (fun _ => ?_)) <;> first | (exfalso; omega) | skip) | ((with_reducible show QLd1 _ _ _); first | refine QLd1.h hW H ?_ | refine QLd1.rF hW ?_ | refine QLd1.r hW ?_) | ((with_reducible show QLd _ _ _ _); first | refine QLd.h hW H ?_ | refine QLd.r hW ?_) | ((with_reducible show Ix _ _ _ _ _); (first | refine Ix.h ?_ | refine Ix.ha ?_)))
      (conv => whnf)
      replace H := H.ext eT
      clear hW eT
      refine Cl.mk (hst _ H (cc.b == (z.1 : Int))) ?_
      rintro _ w8 H'
      replace H := H.updb H'
      clear H'
      have hf := hcont (cc.b == (z.1 : Int)) (by simp [h4]; rfl)
      generalize stepW x.1 cc (cc.b == (z.1 : Int)) ⟨y.1, [s0, s1, s2, s3, s4, s5, s6, s7], false⟩ = x3 at H hf
      obtain ⟨at3, sl3, ov3⟩ := x3
      have hf2 := hf
      obtain ⟨g1, g2, g3, g4⟩ := hf2
      simp only at g1 g2 g3
      subst g2
      subst g3
      replace H : Hp nw w w8 [bk pw 61 (.int .i64 (z.1 : Int) :: (sl3.flatMap ints ++ [.bool false])), bk pf 24 (x.1.v x.2.1 x.2.2).cells.toList, bk pp 46 (pv A l.length c).cells.toList] := H
      repeat' ((conv => whnf); first | (((with_reducible show Gd _ _ _); first | with_reducible refine Gd.t ?_ | with_reducible refine Gd.f ?_ | with_reducible refine Gd.dec (fun _ => ?_) (fun _ => ?_) | with_reducible refine Gd.beq (fun _ => ?_) (fun _ => ?_) | with_reducible refine Gd.bne (fun _ => ?_) (fun _ => ?_) | with_reducible refine Gd.not ?_ | refine Gd.t ?_ | refine Gd.f ?_ | with_reducible refine Gd.var (fun _ => ?_) (fun _ => ?_)) <;> first | (exfalso; omega) | skip) | with_reducible refine Sq.mk ?_ | ((with_reducible show Ld1 _ _ _); first | refine Ld1.h H ?_ | refine Ld1.rF ?_ | refine Ld1.r ?_) | ((with_reducible show Ld _ _ _ _); first | refine Ld.h H ?_ | refine Ld.r ?_) | ((with_reducible show Ix _ _ _ _ _); (first | refine Ix.h ?_ | refine Ix.ha ?_)) | (refine Al.hp H ?_; clear H; intro _ _ H _) | (refine St.h H ?_; clear H; intro _ H))
      all_goals first | (exfalso; omega) | skip
      exact ⟨(k + 1, ⟨z.1, sl3, false⟩), ⟨at_int rfl hwk, rfl, rfl, rfl, rfl, rfl, rfl, rfl, trivial⟩, rfl, ⟨⟨z, hz, hf⟩, H⟩, by simp only; omega⟩
    · have hAx := RdS.from H.e (hA.code x hxm)
      refine Dr.tail T.ok mixed 25 (by kernel_rfl) (fun W wT hW eT _ => ?_)
      repeat' ((conv => whnf); first | (((with_reducible show Gd _ _ _); first | with_reducible refine Gd.t ?_ | with_reducible refine Gd.f ?_ | with_reducible refine Gd.dec (fun _ => ?_) (fun _ => ?_) | with_reducible refine Gd.beq (fun _ => ?_) (fun _ => ?_) | with_reducible refine Gd.bne (fun _ => ?_) (fun _ => ?_) | with_reducible refine Gd.not ?_ | refine Gd.t ?_ | refine Gd.f ?_ | with_reducible refine Gd.var (fun _ => ?_) (fun _ => ?_)) <;> first | (exfalso; omega) | skip) | ((with_reducible show QLd1 _ _ _); first | refine QLd1.h hW H ?_ | refine QLd1.rF hW ?_ | refine QLd1.r hW ?_) | ((with_reducible show QLd _ _ _ _); first | refine QLd.h hW H ?_ | refine QLd.r hW ?_) | ((with_reducible show Ix _ _ _ _ _); (first | refine Ix.h ?_ | refine Ix.ha ?_)))
      (conv => whnf)
      replace H := H.ext eT
      clear hW eT
      refine Cl.mk (hst _ H false) ?_
      rintro _ w8 H'
      replace H := H.updb H'
      clear H'
      have hf := hcont false (by simp [h4])
      generalize stepW x.1 cc false ⟨y.1, [s0, s1, s2, s3, s4, s5, s6, s7], false⟩ = x3 at H hf
      obtain ⟨at3, sl3, ov3⟩ := x3
      have hf2 := hf
      obtain ⟨g1, g2, g3, g4⟩ := hf2
      simp only at g1 g2 g3
      subst g2
      subst g3
      replace H : Hp nw w w8 [bk pw 61 (.int .i64 (z.1 : Int) :: (sl3.flatMap ints ++ [.bool false])), bk pf 24 (x.1.v x.2.1 x.2.2).cells.toList, bk pp 46 (pv A l.length c).cells.toList] := H
      repeat' ((conv => whnf); first | (((with_reducible show Gd _ _ _); first | with_reducible refine Gd.t ?_ | with_reducible refine Gd.f ?_ | with_reducible refine Gd.dec (fun _ => ?_) (fun _ => ?_) | with_reducible refine Gd.beq (fun _ => ?_) (fun _ => ?_) | with_reducible refine Gd.bne (fun _ => ?_) (fun _ => ?_) | with_reducible refine Gd.not ?_ | refine Gd.t ?_ | refine Gd.f ?_ | with_reducible refine Gd.var (fun _ => ?_) (fun _ => ?_)) <;> first | (exfalso; omega) | skip) | with_reducible refine Sq.mk ?_ | ((with_reducible show Ld1 _ _ _); first | refine Ld1.h H ?_ | refine Ld1.rF ?_ | refine Ld1.r ?_) | ((with_reducible show Ld _ _ _ _); first | refine Ld.h H ?_ | refine Ld.r ?_) | ((with_reducible show Ix _ _ _ _ _); (first | refine Ix.h ?_ | refine Ix.ha ?_)) | (refine Al.hp H ?_; clear H; intro _ _ H _) | (refine St.h H ?_; clear H; intro _ H))
      all_goals first | (exfalso; omega) | skip
      exact ⟨(k + 1, ⟨z.1, sl3, false⟩), ⟨at_int rfl hwk, rfl, rfl, rfl, rfl, rfl, rfl, rfl, trivial⟩, rfl, ⟨⟨z, hz, hf⟩, H⟩, by simp only; omega⟩
  · have hke : k = pts.length - 1 := by omega
    subst hke
    have hyi : y = (i, st) := by
      rw [List.getLast?_eq_getElem?, hy] at hlast
      simpa using hlast
    subst hyi
    simp only at hvb
    have hsl : RdS ints 1 _ (some ⟨pw, 1, none⟩) [s0, s1, s2, s3, s4, s5, s6, s7] := rd_wk (x := ⟨i, [s0, s1, s2, s3, s4, s5, s6, s7], false⟩) (H.blk 0 rfl)
    have hsl8 : [s0, s1, s2, s3, s4, s5, s6, s7].length = 8 := rfl
    have hlt2 : ¬ ((pts.length - 1 + 1 : Nat) : Int) < ((pl pts).length : Int) := by omega
    repeat' (first | ((conv => whnf); first | (((with_reducible show Gd _ _ _); first | with_reducible refine Gd.t ?_ | with_reducible refine Gd.f ?_ | with_reducible refine Gd.dec (fun _ => ?_) (fun _ => ?_) | with_reducible refine Gd.beq (fun _ => ?_) (fun _ => ?_) | with_reducible refine Gd.bne (fun _ => ?_) (fun _ => ?_) | with_reducible refine Gd.not ?_ | refine Gd.t ?_ | refine Gd.f ?_ | with_reducible refine Gd.var (fun _ => ?_) (fun _ => ?_)) <;> first | (exfalso; omega) | skip) | with_reducible refine Sq.mk ?_ | ((with_reducible show Ld1 _ _ _); first | refine Ld1.h H ?_ | refine Ld1.rF ?_ | refine Ld1.r ?_) | ((with_reducible show Ld _ _ _ _); first | refine Ld.h H ?_ | refine Ld.r ?_) | ((with_reducible show Ix _ _ _ _ _); (first | refine Ix.h ?_ | refine Ix.ha ?_)) | (refine Al.hp H ?_; clear H; intro _ _ H _) | (refine St.h H ?_; clear H; intro _ H)) | (((conv => whnf); refine Cl.mk (bits_c v _) ?_); rintro _ _ ⟨rfl, hx⟩; replace H := H.ext hx; clear hx))
    (conv => whnf)
    exact ⟨by rw [hvb, beq_self_eq_true]; rfl, H.e⟩
end Go.Proofs.YtbbadmlekagloaaDoor
namespace Go.Proofs.YtbbadmlekagloaaDoor
open Go Go.Sh
set_option linter.unusedVariables false
set_option linter.unusedSimpArgs false
attribute [local irreducible] Blk Ext RdS
theorem flw_3y {f : Fn} {slot : Int} {i : Nat} (h : bitand (flw f slot i) 3 ≠ 0) : Reach f slot (i, 2) ∨ Reach f slot (i, 1) := by
  by_cases h1 : Reach f slot (i, (1 : Int))
  · exact .inr h1
  by_cases h2 : Reach f slot (i, (2 : Int))
  · exact .inl h2
  exfalso
  refine h ?_
  unfold flw
  rw [if_neg h1, if_neg h2]
  split <;> decide
/-- a slot along which it goes wrong -/
def Wit (f : Fn) (c : Ins) (i : Nat) (e : Int) (s : Nat) : Prop :=
  (e = 54 ∧ c.kd = 5 ∧ c.a = s ∧ Reach f s (i, 2)) ∨ (e = 55 ∧ c.kd = 7 ∧ c.b = s ∧ (Reach f s (i, 2) ∨ Reach f s (i, 1))) ∨ (e = 56 ∧ c.kd = 9 ∧ Reach f s (i, 2))
theorem Told.wit {fs : List Fn} {x : Int × Nat × Nat} {f : Fn} {c : Ins} {m : Nat} (h : Told fs x f c) (hm : f.slots = m) (he : x.1 = 54 ∨ x.1 = 55 ∨ x.1 = 56) : ∃ s, s < m ∧ Wit f c x.2.2 x.1 s := by
  have hS := h.sound (List.mem_of_getElem? h.hf)
  obtain ⟨ha, hb⟩ := sound_at hS h.hc
  have hf := h.fault
  have hmt : f.slots.toNat = m := by omega
  rw [hmt] at hf
  unfold rowFault at hf
  by_cases h5 : c.kd = 5
  · rw [if_pos h5] at hf
    obtain ⟨k, hk⟩ : ∃ k : Nat, c.a = k := ⟨c.a.toNat, by have := ha h5; omega⟩
    have hkm : k < m := by have := ha h5; omega
    have hg := rowL_at (g := flwG f x.2.2) hkm
    rw [hk, Int.toNat_natCast, hg] at hf
    split at hf
    · rename_i hne
      refine ⟨k, hkm, .inl ⟨hf.symm, h5, hk, ?_⟩⟩
      exact Classical.not_not.1 fun hn => hne ((flw_and (f := f) (slot := k) (i := x.2.2) (.inr (.inl rfl))).2 hn)
    · omega
  · rw [if_neg h5] at hf
    by_cases h7 : c.kd = 7
    · rw [if_pos h7] at hf
      obtain ⟨k, hk⟩ : ∃ k : Nat, c.b = k := ⟨c.b.toNat, by have := hb h7; omega⟩
      have hkm : k < m := by have := hb h7; omega
      have hg := rowL_at (g := flwG f x.2.2) hkm
      rw [hk, Int.toNat_natCast, hg] at hf
      split at hf
      · rename_i hne
        exact ⟨k, hkm, .inr (.inl ⟨hf.symm, h7, hk, flw_3y hne⟩)⟩
      · omega
    · rw [if_neg h7] at hf
      by_cases h9 : c.kd = 9
      · rw [if_pos h9] at hf
        split at hf
        · rename_i hany
          obtain ⟨y, hy, hb⟩ := List.any_eq_true.1 hany
          obtain ⟨k, hk⟩ := List.getElem?_of_mem hy
          have hkm : k < m := by have := (List.getElem?_eq_some_iff.1 hk).1; rwa [rowL_len] at this
          have hg := rowL_at (g := flwG f x.2.2) hkm
          rw [hk] at hg
          have hyg : y = flwG f x.2.2 k := by simpa using hg
          subst hyg
          refine ⟨k, hkm, .inr (.inr ⟨hf.symm, h9, ?_⟩)⟩
          exact Classical.not_not.1 fun hn => (of_decide_eq_true hb) ((flw_and (f := f) (slot := k) (i := x.2.2) (.inr (.inl rfl))).2 hn)
        · omega
      · rw [if_neg h9] at hf
        omega
theorem trail_or {f : Fn} {i s : Nat} {st e : Int} {l : List Int} (hv : Verdict f i s st l e) (hS : soundB f = true) (hi : i < f.code.length) (hs : (s : Int) < f.slots) (ho : okS st) : (e = 0 ∧ Reach f s (i, st) ∧ GoodPath f s (i, st) l) ∨ (e = 59 ∧ ¬ Reach f s (i, st) ∧ l = []) := by
  have hb : ¬ Bad f i s st := by
    unfold Bad
    unfold okS at ho
    rw [hS]
    simp only [Bool.true_eq_false, false_or]
    omega
  by_cases hr : Reach f s (i, st)
  · obtain ⟨h1, h2⟩ := hv.yes hb hr
    exact .inl ⟨h1, hr, h2⟩
  · obtain ⟨h1, h2⟩ := hv.no hb hr
    exact .inr ⟨h2, hr, h1⟩
set_option maxHeartbeats 4000000 in
theorem progTold_c (A : Option Addr) (l : List FE) (c : Nat) (w : World) (hA : RdP w A l) (hG : RdG w) :
    Cl Tryd.prog 9 #[pv A l.length c] w (fun v w' => v = .bool true ∧ Ext w w') (fun _ _ => False) := by
  have hfl := fns_len l
  refine calls_ex (args := [pv A l.length c]) T.ok Tryd.func9 rfl rfl rfl rfl ?_
  have H := Hp.begin nw w
  refine Sq.mk ?_
  ((conv => whnf); refine Al.hp H ?_; clear H; intro pp _ H _)
  repeat' ((conv => whnf); first | (((with_reducible show Gd _ _ _); first | with_reducible refine Gd.t ?_ | with_reducible refine Gd.f ?_ | with_reducible refine Gd.dec (fun _ => ?_) (fun _ => ?_) | with_reducible refine Gd.beq (fun _ => ?_) (fun _ => ?_) | with_reducible refine Gd.bne (fun _ => ?_) (fun _ => ?_) | with_reducible refine Gd.not ?_ | refine Gd.t ?_ | refine Gd.f ?_ | with_reducible refine Gd.var (fun _ => ?_) (fun _ => ?_)) <;> first | (exfalso; omega) | skip) | with_reducible refine Sq.mk ?_ | ((with_reducible show Ld1 _ _ _); first | refine Ld1.h H ?_ | refine Ld1.rF ?_ | refine Ld1.r ?_) | ((with_reducible show Ld _ _ _ _); first | refine Ld.h H ?_ | refine Ld.r ?_) | ((with_reducible show Ix _ _ _ _ _); (first | refine Ix.h ?_ | refine Ix.ha ?_)) | (refine Al.hp H ?_; clear H; intro _ _ H _) | (refine St.h H ?_; clear H; intro _ H))
  (((conv => whnf); refine Cl.mk (Check_c A l c _ (RdS.from H.e hG) (hA.ext H.e)) ?_); rintro _ _ ⟨rfl, hx⟩; replace H := H.ext hx; clear hx)
  ((conv => whnf); refine Al.hp H ?_; clear H; intro pr _ H _)
  ((conv => whnf); first | (((with_reducible show Gd _ _ _); first | with_reducible refine Gd.t ?_ | with_reducible refine Gd.f ?_ | with_reducible refine Gd.dec (fun _ => ?_) (fun _ => ?_) | with_reducible refine Gd.beq (fun _ => ?_) (fun _ => ?_) | with_reducible refine Gd.bne (fun _ => ?_) (fun _ => ?_) | with_reducible refine Gd.not ?_ | refine Gd.t ?_ | refine Gd.f ?_ | with_reducible refine Gd.var (fun _ => ?_) (fun _ => ?_)) <;> first | (exfalso; omega) | skip) | with_reducible refine Sq.mk ?_ | ((with_reducible show Ld1 _ _ _); first | refine Ld1.h H ?_ | refine Ld1.rF ?_ | refine Ld1.r ?_) | ((with_reducible show Ld _ _ _ _); first | refine Ld.h H ?_ | refine Ld.r ?_) | ((with_reducible show Ix _ _ _ _ _); (first | refine Ix.h ?_ | refine Ix.ha ?_)) | (refine Al.hp H ?_; clear H; intro _ _ H _) | (refine St.h H ?_; clear H; intro _ H))
  by_cases hT : (checkL (fns l)).1 = 54 ∨ (checkL (fns l)).1 = 55 ∨ (checkL (fns l)).1 = 56
  case neg =>
    repeat' (first | ((conv => whnf); first | (((with_reducible show Gd _ _ _); first | with_reducible refine Gd.t ?_ | with_reducible refine Gd.f ?_ | with_reducible refine Gd.dec (fun _ => ?_) (fun _ => ?_) | with_reducible refine Gd.beq (fun _ => ?_) (fun _ => ?_) | with_reducible refine Gd.bne (fun _ => ?_) (fun _ => ?_) | with_reducible refine Gd.not ?_ | refine Gd.t ?_ | refine Gd.f ?_ | with_reducible refine Gd.var (fun _ => ?_) (fun _ => ?_)) <;> first | (exfalso; omega) | skip) | with_reducible refine Sq.mk ?_ | ((with_reducible show Ld1 _ _ _); first | refine Ld1.h H ?_ | refine Ld1.rF ?_ | refine Ld1.r ?_) | ((with_reducible show Ld _ _ _ _); first | refine Ld.h H ?_ | refine Ld.r ?_) | ((with_reducible show Ix _ _ _ _ _); (first | refine Ix.h ?_ | refine Ix.ha ?_)) | (refine Al.hp H ?_; clear H; intro _ _ H _) | (refine St.h H ?_; clear H; intro _ H)) | (((conv => whnf); refine Cl.mk (head_c _ (RdS.from H.e hG)) ?_); rintro _ _ ⟨rfl, hx⟩; replace H := H.ext hx; clear hx))
    all_goals first | (exfalso; omega) | exact ⟨rfl, H.e⟩
  obtain ⟨f, cc, hTd⟩ := check_told hT
  generalize checkL (fns l) = ck at *
  obtain ⟨e, fi, ai⟩ := ck
  simp only at hT
  have hf := hTd.hf
  have hcc := hTd.hc
  simp only at hf hcc
  obtain ⟨x, hx, rfl⟩ : ∃ x, l[fi]? = some x ∧ x.1 = f := by
    simp only [fns, List.getElem?_map, Option.map_eq_some_iff] at hf
    exact hf
  have hxm := List.mem_of_getElem? hx
  have hfm : x.1 ∈ fns l := List.mem_map.2 ⟨x, hxm, rfl⟩
  have hS := hTd.sound hfm
  have hsh := hTd.shaped x.1 hfm
  obtain ⟨hl1, hl2⟩ := shaped_len hsh
  obtain ⟨m, hm, hm8⟩ := slots_nat hsh
  obtain ⟨hfl1, hfl2⟩ := List.getElem?_eq_some_iff.1 hx
  obtain ⟨hcl1, hcl2⟩ := List.getElem?_eq_some_iff.1 hcc
  have hins := hTd.ins x.1 hfm
  obtain ⟨s0, hs0m, hs0⟩ := hTd.wit hm hT
  simp only at hs0
  rcases hT with rfl | rfl | rfl
  · have hHk : ∀ w', Hp nw w w' [bk pr 48 (fvV (54, fi, ai)).cells.toList, bk pp 46 (pv A l.length c).cells.toList] → Hp nw w w' [bk pr 48 [.int .i64 54, .int .i64 (fi : Int), .int .i64 (ai : Int)], bk pp 46 (pv A l.length c).cells.toList] := fun w' h => h
    replace H := hHk _ H
    clear hHk
    have hA5 := RdS.from H.e hA.top
    repeat' ((conv => whnf); first | (((with_reducible show Gd _ _ _); first | with_reducible refine Gd.t ?_ | with_reducible refine Gd.f ?_ | with_reducible refine Gd.dec (fun _ => ?_) (fun _ => ?_) | with_reducible refine Gd.beq (fun _ => ?_) (fun _ => ?_) | with_reducible refine Gd.bne (fun _ => ?_) (fun _ => ?_) | with_reducible refine Gd.not ?_ | refine Gd.t ?_ | refine Gd.f ?_ | with_reducible refine Gd.var (fun _ => ?_) (fun _ => ?_)) <;> first | (exfalso; omega) | skip) | with_reducible refine Sq.mk ?_ | ((with_reducible show Ld1 _ _ _); first | refine Ld1.h H ?_ | refine Ld1.rF ?_ | refine Ld1.r ?_) | ((with_reducible show Ld _ _ _ _); first | refine Ld.h H ?_ | refine Ld.r ?_) | ((with_reducible show Ix _ _ _ _ _); (first | refine Ix.h ?_ | refine Ix.ha ?_)) | (refine Al.hp H ?_; clear H; intro _ _ H _) | (refine St.h H ?_; clear H; intro _ H))
    ((conv => whnf); refine Dr.quiet T.ok mixed (by kernel_rfl) (fun W hW => ?_))
    repeat' ((conv => whnf); first | (((with_reducible show Gd _ _ _); first | with_reducible refine Gd.t ?_ | with_reducible refine Gd.f ?_ | with_reducible refine Gd.dec (fun _ => ?_) (fun _ => ?_) | with_reducible refine Gd.beq (fun _ => ?_) (fun _ => ?_) | with_reducible refine Gd.bne (fun _ => ?_) (fun _ => ?_) | with_reducible refine Gd.not ?_ | refine Gd.t ?_ | refine Gd.f ?_ | with_reducible refine Gd.var (fun _ => ?_) (fun _ => ?_)) <;> first | (exfalso; omega) | skip) | ((with_reducible show QLd1 _ _ _); first | refine QLd1.h hW H ?_ | refine QLd1.rF hW ?_ | refine QLd1.r hW ?_) | ((with_reducible show QLd _ _ _ _); first | refine QLd.h hW H ?_ | refine QLd.r hW ?_) | ((with_reducible show Ix _ _ _ _ _); (first | refine Ix.h ?_ | refine Ix.ha ?_)))
    (intro _ eT; replace H := H.ext eT; clear hW eT)
    clear hA5
    have hA5 := RdS.from H.e hA.top
    repeat' ((conv => whnf); first | (((with_reducible show Gd _ _ _); first | with_reducible refine Gd.t ?_ | with_reducible refine Gd.f ?_ | with_reducible refine Gd.dec (fun _ => ?_) (fun _ => ?_) | with_reducible refine Gd.beq (fun _ => ?_) (fun _ => ?_) | with_reducible refine Gd.bne (fun _ => ?_) (fun _ => ?_) | with_reducible refine Gd.not ?_ | refine Gd.t ?_ | refine Gd.f ?_ | with_reducible refine Gd.var (fun _ => ?_) (fun _ => ?_)) <;> first | (exfalso; omega) | skip) | with_reducible refine Sq.mk ?_ | ((with_reducible show Ld1 _ _ _); first | refine Ld1.h H ?_ | refine Ld1.rF ?_ | refine Ld1.r ?_) | ((with_reducible show Ld _ _ _ _); first | refine Ld.h H ?_ | refine Ld.r ?_) | ((with_reducible show Ix _ _ _ _ _); (first | refine Ix.h ?_ | refine Ix.ha ?_)) | (refine St.h H ?_; clear H; intro _ H))
    all_goals first | (exfalso; omega) | skip
    ((conv => whnf); refine Al.hp H ?_; clear H; intro pf _ H _)
    ((conv => whnf); first | (((with_reducible show Gd _ _ _); first | with_reducible refine Gd.t ?_ | with_reducible refine Gd.f ?_ | with_reducible refine Gd.dec (fun _ => ?_) (fun _ => ?_) | with_reducible refine Gd.beq (fun _ => ?_) (fun _ => ?_) | with_reducible refine Gd.bne (fun _ => ?_) (fun _ => ?_) | with_reducible refine Gd.not ?_ | refine Gd.t ?_ | refine Gd.f ?_ | with_reducible refine Gd.var (fun _ => ?_) (fun _ => ?_)) <;> first | (exfalso; omega) | skip) | with_reducible refine Sq.mk ?_ | ((with_reducible show Ld1 _ _ _); first | refine Ld1.h H ?_ | refine Ld1.rF ?_ | refine Ld1.r ?_) | ((with_reducible show Ld _ _ _ _); first | refine Ld.h H ?_ | refine Ld.r ?_) | ((with_reducible show Ix _ _ _ _ _); (first | refine Ix.h ?_ | refine Ix.ha ?_)) | (refine St.h H ?_; clear H; intro _ H))
    have hC5 := RdS.from H.e (hA.code x hxm)
    repeat' ((conv => whnf); first | (((with_reducible show Gd _ _ _); first | with_reducible refine Gd.t ?_ | with_reducible refine Gd.f ?_ | with_reducible refine Gd.dec (fun _ => ?_) (fun _ => ?_) | with_reducible refine Gd.beq (fun _ => ?_) (fun _ => ?_) | with_reducible refine Gd.bne (fun _ => ?_) (fun _ => ?_) | with_reducible refine Gd.not ?_ | refine Gd.t ?_ | refine Gd.f ?_ | with_reducible refine Gd.var (fun _ => ?_) (fun _ => ?_)) <;> first | (exfalso; omega) | skip) | with_reducible refine Sq.mk ?_ | ((with_reducible show Ld1 _ _ _); first | refine Ld1.h H ?_ | refine Ld1.rF ?_ | refine Ld1.r ?_) | ((with_reducible show Ld _ _ _ _); first | refine Ld.h H ?_ | refine Ld.r ?_) | ((with_reducible show Ix _ _ _ _ _); (first | refine Ix.h ?_ | refine Ix.ha ?_)) | (refine St.h H ?_; clear H; intro _ H))
    ((conv => whnf); refine Al.hp H ?_; clear H; intro pc _ H _)
    clear hA5 hC5
    repeat' ((conv => whnf); first | (((with_reducible show Gd _ _ _); first | with_reducible refine Gd.t ?_ | with_reducible refine Gd.f ?_ | with_reducible refine Gd.dec (fun _ => ?_) (fun _ => ?_) | with_reducible refine Gd.beq (fun _ => ?_) (fun _ => ?_) | with_reducible refine Gd.bne (fun _ => ?_) (fun _ => ?_) | with_reducible refine Gd.not ?_ | refine Gd.t ?_ | refine Gd.f ?_ | with_reducible refine Gd.var (fun _ => ?_) (fun _ => ?_)) <;> first | (exfalso; omega) | skip) | with_reducible refine Sq.mk ?_ | ((with_reducible show Ld1 _ _ _); first | refine Ld1.h H ?_ | refine Ld1.rF ?_ | refine Ld1.r ?_) | ((with_reducible show Ld _ _ _ _); first | refine Ld.h H ?_ | refine Ld.r ?_) | ((with_reducible show Ix _ _ _ _ _); (first | refine Ix.h ?_ | refine Ix.ha ?_)) | (refine Al.hp H ?_; clear H; intro _ _ H _) | (refine St.h H ?_; clear H; intro _ H))
    refine Lp.g0 T.ok (σ := Nat) (fun s => [(6, .int .i64 (s : Int)), (5, .pointer (some ⟨pc, 0, none⟩)), (4, .pointer (some ⟨pf, 0, none⟩)), (3, .pointer (some ⟨pr, 0, none⟩)), (1, .pointer (some ⟨pp, 0, none⟩))])
      (fun s w' => s ≤ m ∧ (∀ s', s' < s → ¬ Wit x.1 cc ai 54 s') ∧ Hp nw w w' [bk pc 35 cc.enc, bk pf 24 (x.1.v x.2.1 x.2.2).cells.toList, bk pr 48 [.int .i64 54, .int .i64 (fi : Int), .int .i64 (ai : Int)], bk pp 46 (pv A l.length c).cells.toList]) (fun s _ => m - s) 0 rfl ⟨rfl, rfl, rfl, rfl, rfl, trivial⟩ ⟨Nat.zero_le _, fun _ h => absurd h (Nat.not_lt_zero _), H⟩ ?_
    clear H
    rintro s w5 ⟨hsm, hno, H⟩
    by_cases hlt : s < m
    case neg =>
      exfalso
      exact hno s0 (by omega) hs0
    have hnx : ¬ Wit x.1 cc ai 54 s → ∀ s', s' < s + 1 → ¬ Wit x.1 cc ai 54 s' := fun h s' hs' => by
      by_cases he : s' = s
      · rw [he]; exact h
      · exact hno s' (by omega)
    repeat' ((conv => whnf); first | (((with_reducible show Gd _ _ _); first | with_reducible refine Gd.t ?_ | with_reducible refine Gd.f ?_ | with_reducible refine Gd.dec (fun _ => ?_) (fun _ => ?_) | with_reducible refine Gd.beq (fun _ => ?_) (fun _ => ?_) | with_reducible refine Gd.bne (fun _ => ?_) (fun _ => ?_) | with_reducible refine Gd.not ?_ | refine Gd.t ?_ | refine Gd.f ?_ | with_reducible refine Gd.var (fun _ => ?_) (fun _ => ?_)) <;> first | (exfalso; omega) | skip) | with_reducible refine Sq.mk ?_ | ((with_reducible show Ld1 _ _ _); first | refine Ld1.h H ?_ | refine Ld1.rF ?_ | refine Ld1.r ?_) | ((with_reducible show Ld _ _ _ _); first | refine Ld.h H ?_ | refine Ld.r ?_) | ((with_reducible show Ix _ _ _ _ _); (first | refine Ix.h ?_ | refine Ix.ha ?_)) | (refine Al.hp H ?_; clear H; intro _ _ H _) | (refine St.h H ?_; clear H; intro _ H))
    ((conv => whnf); refine Cl.mk (Trail_c x.1 x.2.1 x.2.2 ai s 2 _ (RdS.from H.e (hA.code x hxm)) (RdS.from H.e hG)) ?_)
    rintro _ w1 ⟨A1, l1, c1, e1, rfl, hr1, ex1, hv1, _⟩
    replace H := H.ext ex1
    repeat' ((conv => whnf); first | (((with_reducible show Gd _ _ _); first | with_reducible refine Gd.t ?_ | with_reducible refine Gd.f ?_ | with_reducible refine Gd.dec (fun _ => ?_) (fun _ => ?_) | with_reducible refine Gd.beq (fun _ => ?_) (fun _ => ?_) | with_reducible refine Gd.bne (fun _ => ?_) (fun _ => ?_) | with_reducible refine Gd.not ?_ | refine Gd.t ?_ | refine Gd.f ?_ | with_reducible refine Gd.var (fun _ => ?_) (fun _ => ?_)) <;> first | (exfalso; omega) | skip) | with_reducible refine Sq.mk ?_ | ((with_reducible show Ld1 _ _ _); first | refine Ld1.h H ?_ | refine Ld1.rF ?_ | refine Ld1.r ?_) | ((with_reducible show Ld _ _ _ _); first | refine Ld.h H ?_ | refine Ld.r ?_) | ((with_reducible show Ix _ _ _ _ _); (first | refine Ix.h ?_ | refine Ix.ha ?_)) | (refine Al.hp H ?_; clear H; intro _ _ H _) | (refine St.h H ?_; clear H; intro _ H))
    ((conv => whnf); refine Cl.mk (Trail_c x.1 x.2.1 x.2.2 ai s 1 _ (RdS.from H.e (hA.code x hxm)) (RdS.from H.e hG)) ?_)
    rintro _ w2 ⟨A2, l2, c2, e2, rfl, hr2, ex2, hv2, _⟩
    replace H := H.ext ex2
    replace hr1 := RdS.from ex2 hr1
    have ex3 : Ext w2 w2 := Ext.refl _
    rcases trail_or hv1 hS hcl1 (by omega) (.inr (.inl rfl)) with ⟨rfl, hR1, hg1⟩ | ⟨rfl, hR1, rfl⟩
    all_goals rcases trail_or hv2 hS hcl1 (by omega) (.inl rfl) with ⟨rfl, hR2, hg2⟩ | ⟨rfl, hR2, rfl⟩
    all_goals clear hv1 hv2
    all_goals
      repeat' (first | ((conv => whnf); first | (((with_reducible show Gd _ _ _); first | with_reducible refine Gd.t ?_ | with_reducible refine Gd.f ?_ | with_reducible refine Gd.dec (fun _ => ?_) (fun _ => ?_) | with_reducible refine Gd.beq (fun _ => ?_) (fun _ => ?_) | with_reducible refine Gd.bne (fun _ => ?_) (fun _ => ?_) | with_reducible refine Gd.not ?_ | refine Gd.t ?_ | refine Gd.f ?_ | with_reducible refine Gd.var (fun _ => ?_) (fun _ => ?_)) <;> first | (exfalso; omega) | skip) | with_reducible refine Sq.mk ?_ | ((with_reducible show Ld1 _ _ _); first | refine Ld1.h H ?_ | refine Ld1.rF ?_ | refine Ld1.r ?_) | ((with_reducible show Ld _ _ _ _); first | refine Ld.h H ?_ | refine Ld.r ?_) | ((with_reducible show Ix _ _ _ _ _); (first | refine Ix.h ?_ | refine Ix.ha ?_)) | (refine Al.hp H ?_; clear H; intro _ _ H _) | (refine St.h H ?_; clear H; intro _ H)) | (((conv => whnf); refine Cl.mk (leads_c x A l c l1 A1 c1 ai s 2 _ (hA.ext H.e) hxm (RdS.from ex3 hr1) hS hins (by omega) hg1) ?_); rintro _ w8 ⟨rfl, hx3⟩; replace H := H.ext hx3; replace ex3 := Ext.from hx3 ex3; clear hx3) | (((conv => whnf); refine Cl.mk (leads_c x A l c l2 A2 c2 ai s 1 _ (hA.ext H.e) hxm (RdS.from ex3 hr2) hS hins (by omega) hg2) ?_); rintro _ w8 ⟨rfl, hx3⟩; replace H := H.ext hx3; replace ex3 := Ext.from hx3 ex3; clear hx3))
    all_goals first
      | exact ⟨rfl, H.e⟩
      | (refine ⟨s + 1, ⟨at_int rfl (w64 (by simp) (by omega) (by omega)), rfl, rfl, rfl, rfl, trivial⟩, rfl, ⟨by omega, hnx ?_, H⟩, by omega⟩
         intro hW
         rcases hW with ⟨h1, h2, h3, h4⟩ | ⟨h1, h2, h3, h4⟩ | ⟨h1, h2, h4⟩
         all_goals first | omega | (exfalso; exact absurd h4 (by assumption)) | (exfalso; rcases h4 with h4 | h4 <;> exact absurd h4 (by assumption)))
  · have hHk : ∀ w', Hp nw w w' [bk pr 48 (fvV (55, fi, ai)).cells.toList, bk pp 46 (pv A l.length c).cells.toList] → Hp nw w w' [bk pr 48 [.int .i64 55, .int .i64 (fi : Int), .int .i64 (ai : Int)], bk pp 46 (pv A l.length c).cells.toList] := fun w' h => h
    replace H := hHk _ H
    clear hHk
    have hA5 := RdS.from H.e hA.top
    repeat' ((conv => whnf); first | (((with_reducible show Gd _ _ _); first | with_reducible refine Gd.t ?_ | with_reducible refine Gd.f ?_ | with_reducible refine Gd.dec (fun _ => ?_) (fun _ => ?_) | with_reducible refine Gd.beq (fun _ => ?_) (fun _ => ?_) | with_reducible refine Gd.bne (fun _ => ?_) (fun _ => ?_) | with_reducible refine Gd.not ?_ | refine Gd.t ?_ | refine Gd.f ?_ | with_reducible refine Gd.var (fun _ => ?_) (fun _ => ?_)) <;> first | (exfalso; omega) | skip) | with_reducible refine Sq.mk ?_ | ((with_reducible show Ld1 _ _ _); first | refine Ld1.h H ?_ | refine Ld1.rF ?_ | refine Ld1.r ?_) | ((with_reducible show Ld _ _ _ _); first | refine Ld.h H ?_ | refine Ld.r ?_) | ((with_reducible show Ix _ _ _ _ _); (first | refine Ix.h ?_ | refine Ix.ha ?_)) | (refine Al.hp H ?_; clear H; intro _ _ H _) | (refine St.h H ?_; clear H; intro _ H))
    ((conv => whnf); refine Dr.quiet T.ok mixed (by kernel_rfl) (fun W hW => ?_))
    repeat' ((conv => whnf); first | (((with_reducible show Gd _ _ _); first | with_reducible refine Gd.t ?_ | with_reducible refine Gd.f ?_ | with_reducible refine Gd.dec (fun _ => ?_) (fun _ => ?_) | with_reducible refine Gd.beq (fun _ => ?_) (fun _ => ?_) | with_reducible refine Gd.bne (fun _ => ?_) (fun _ => ?_) | with_reducible refine Gd.not ?_ | refine Gd.t ?_ | refine Gd.f ?_ | with_reducible refine Gd.var (fun _ => ?_) (fun _ => ?_)) <;> first | (exfalso; omega) | skip) | ((with_reducible show QLd1 _ _ _); first | refine QLd1.h hW H ?_ | refine QLd1.rF hW ?_ | refine QLd1.r hW ?_) | ((with_reducible show QLd _ _ _ _); first | refine QLd.h hW H ?_ | refine QLd.r hW ?_) | ((with_reducible show Ix _ _ _ _ _); (first | refine Ix.h ?_ | refine Ix.ha ?_)))
    (intro _ eT; replace H := H.ext eT; clear hW eT)
    clear hA5
    have hA5 := RdS.from H.e hA.top
    repeat' ((conv => whnf); first | (((with_reducible show Gd _ _ _); first | with_reducible refine Gd.t ?_ | with_reducible refine Gd.f ?_ | with_reducible refine Gd.dec (fun _ => ?_) (fun _ => ?_) | with_reducible refine Gd.beq (fun _ => ?_) (fun _ => ?_) | with_reducible refine Gd.bne (fun _ => ?_) (fun _ => ?_) | with_reducible refine Gd.not ?_ | refine Gd.t ?_ | refine Gd.f ?_ | with_reducible refine Gd.var (fun _ => ?_) (fun _ => ?_)) <;> first | (exfalso; omega) | skip) | with_reducible refine Sq.mk ?_ | ((with_reducible show Ld1 _ _ _); first | refine Ld1.h H ?_ | refine Ld1.rF ?_ | refine Ld1.r ?_) | ((with_reducible show Ld _ _ _ _); first | refine Ld.h H ?_ | refine Ld.r ?_) | ((with_reducible show Ix _ _ _ _ _); (first | refine Ix.h ?_ | refine Ix.ha ?_)) | (refine St.h H ?_; clear H; intro _ H))
    all_goals first | (exfalso; omega) | skip
    ((conv => whnf); refine Al.hp H ?_; clear H; intro pf _ H _)
    ((conv => whnf); first | (((with_reducible show Gd _ _ _); first | with_reducible refine Gd.t ?_ | with_reducible refine Gd.f ?_ | with_reducible refine Gd.dec (fun _ => ?_) (fun _ => ?_) | with_reducible refine Gd.beq (fun _ => ?_) (fun _ => ?_) | with_reducible refine Gd.bne (fun _ => ?_) (fun _ => ?_) | with_reducible refine Gd.not ?_ | refine Gd.t ?_ | refine Gd.f ?_ | with_reducible refine Gd.var (fun _ => ?_) (fun _ => ?_)) <;> first | (exfalso; omega) | skip) | with_reducible refine Sq.mk ?_ | ((with_reducible show Ld1 _ _ _); first | refine Ld1.h H ?_ | refine Ld1.rF ?_ | refine Ld1.r ?_) | ((with_reducible show Ld _ _ _ _); first | refine Ld.h H ?_ | refine Ld.r ?_) | ((with_reducible show Ix _ _ _ _ _); (first | refine Ix.h ?_ | refine Ix.ha ?_)) | (refine St.h H ?_; clear H; intro _ H))
    have hC5 := RdS.from H.e (hA.code x hxm)
    repeat' ((conv => whnf); first | (((with_reducible show Gd _ _ _); first | with_reducible refine Gd.t ?_ | with_reducible refine Gd.f ?_ | with_reducible refine Gd.dec (fun _ => ?_) (fun _ => ?_) | with_reducible refine Gd.beq (fun _ => ?_) (fun _ => ?_) | with_reducible refine Gd.bne (fun _ => ?_) (fun _ => ?_) | with_reducible refine Gd.not ?_ | refine Gd.t ?_ | refine Gd.f ?_ | with_reducible refine Gd.var (fun _ => ?_) (fun _ => ?_)) <;> first | (exfalso; omega) | skip) | with_reducible refine Sq.mk ?_ | ((with_reducible show Ld1 _ _ _); first | refine Ld1.h H ?_ | refine Ld1.rF ?_ | refine Ld1.r ?_) | ((with_reducible show Ld _ _ _ _); first | refine Ld.h H ?_ | refine Ld.r ?_) | ((with_reducible show Ix _ _ _ _ _); (first | refine Ix.h ?_ | refine Ix.ha ?_)) | (refine St.h H ?_; clear H; intro _ H))
    ((conv => whnf); refine Al.hp H ?_; clear H; intro pc _ H _)
    clear hA5 hC5
    repeat' ((conv => whnf); first | (((with_reducible show Gd _ _ _); first | with_reducible refine Gd.t ?_ | with_reducible refine Gd.f ?_ | with_reducible refine Gd.dec (fun _ => ?_) (fun _ => ?_) | with_reducible refine Gd.beq (fun _ => ?_) (fun _ => ?_) | with_reducible refine Gd.bne (fun _ => ?_) (fun _ => ?_) | with_reducible refine Gd.not ?_ | refine Gd.t ?_ | refine Gd.f ?_ | with_reducible refine Gd.var (fun _ => ?_) (fun _ => ?_)) <;> first | (exfalso; omega) | skip) | with_reducible refine Sq.mk ?_ | ((with_reducible show Ld1 _ _ _); first | refine Ld1.h H ?_ | refine Ld1.rF ?_ | refine Ld1.r ?_) | ((with_reducible show Ld _ _ _ _); first | refine Ld.h H ?_ | refine Ld.r ?_) | ((with_reducible show Ix _ _ _ _ _); (first | refine Ix.h ?_ | refine Ix.ha ?_)) | (refine Al.hp H ?_; clear H; intro _ _ H _) | (refine St.h H ?_; clear H; intro _ H))
    refine Lp.g0 T.ok (σ := Nat) (fun s => [(6, .int .i64 (s : Int)), (5, .pointer (some ⟨pc, 0, none⟩)), (4, .pointer (some ⟨pf, 0, none⟩)), (3, .pointer (some ⟨pr, 0, none⟩)), (1, .pointer (some ⟨pp, 0, none⟩))])
      (fun s w' => s ≤ m ∧ (∀ s', s' < s → ¬ Wit x.1 cc ai 55 s') ∧ Hp nw w w' [bk pc 35 cc.enc, bk pf 24 (x.1.v x.2.1 x.2.2).cells.toList, bk pr 48 [.int .i64 55, .int .i64 (fi : Int), .int .i64 (ai : Int)], bk pp 46 (pv A l.length c).cells.toList]) (fun s _ => m - s) 0 rfl ⟨rfl, rfl, rfl, rfl, rfl, trivial⟩ ⟨Nat.zero_le _, fun _ h => absurd h (Nat.not_lt_zero _), H⟩ ?_
    clear H
    rintro s w5 ⟨hsm, hno, H⟩
    by_cases hlt : s < m
    case neg =>
      exfalso
      exact hno s0 (by omega) hs0
    have hnx : ¬ Wit x.1 cc ai 55 s → ∀ s', s' < s + 1 → ¬ Wit x.1 cc ai 55 s' := fun h s' hs' => by
      by_cases he : s' = s
      · rw [he]; exact h
      · exact hno s' (by omega)
    repeat' ((conv => whnf); first | (((with_reducible show Gd _ _ _); first | with_reducible refine Gd.t ?_ | with_reducible refine Gd.f ?_ | with_reducible refine Gd.dec (fun _ => ?_) (fun _ => ?_) | with_reducible refine Gd.beq (fun _ => ?_) (fun _ => ?_) | with_reducible refine Gd.bne (fun _ => ?_) (fun _ => ?_) | with_reducible refine Gd.not ?_ | refine Gd.t ?_ | refine Gd.f ?_ | with_reducible refine Gd.var (fun _ => ?_) (fun _ => ?_)) <;> first | (exfalso; omega) | skip) | with_reducible refine Sq.mk ?_ | ((with_reducible show Ld1 _ _ _); first | refine Ld1.h H ?_ | refine Ld1.rF ?_ | refine Ld1.r ?_) | ((with_reducible show Ld _ _ _ _); first | refine Ld.h H ?_ | refine Ld.r ?_) | ((with_reducible show Ix _ _ _ _ _); (first | refine Ix.h ?_ | refine Ix.ha ?_)) | (refine Al.hp H ?_; clear H; intro _ _ H _) | (refine St.h H ?_; clear H; intro _ H))
    ((conv => whnf); refine Cl.mk (Trail_c x.1 x.2.1 x.2.2 ai s 2 _ (RdS.from H.e (hA.code x hxm)) (RdS.from H.e hG)) ?_)
    rintro _ w1 ⟨A1, l1, c1, e1, rfl, hr1, ex1, hv1, _⟩
    replace H := H.ext ex1
    repeat' ((conv => whnf); first | (((with_reducible show Gd _ _ _); first | with_reducible refine Gd.t ?_ | with_reducible refine Gd.f ?_ | with_reducible refine Gd.dec (fun _ => ?_) (fun _ => ?_) | with_reducible refine Gd.beq (fun _ => ?_) (fun _ => ?_) | with_reducible refine Gd.bne (fun _ => ?_) (fun _ => ?_) | with_reducible refine Gd.not ?_ | refine Gd.t ?_ | refine Gd.f ?_ | with_reducible refine Gd.var (fun _ => ?_) (fun _ => ?_)) <;> first | (exfalso; omega) | skip) | with_reducible refine Sq.mk ?_ | ((with_reducible show Ld1 _ _ _); first | refine Ld1.h H ?_ | refine Ld1.rF ?_ | refine Ld1.r ?_) | ((with_reducible show Ld _ _ _ _); first | refine Ld.h H ?_ | refine Ld.r ?_) | ((with_reducible show Ix _ _ _ _ _); (first | refine Ix.h ?_ | refine Ix.ha ?_)) | (refine Al.hp H ?_; clear H; intro _ _ H _) | (refine St.h H ?_; clear H; intro _ H))
    ((conv => whnf); refine Cl.mk (Trail_c x.1 x.2.1 x.2.2 ai s 1 _ (RdS.from H.e (hA.code x hxm)) (RdS.from H.e hG)) ?_)
    rintro _ w2 ⟨A2, l2, c2, e2, rfl, hr2, ex2, hv2, _⟩
    replace H := H.ext ex2
    replace hr1 := RdS.from ex2 hr1
    have ex3 : Ext w2 w2 := Ext.refl _
    rcases trail_or hv1 hS hcl1 (by omega) (.inr (.inl rfl)) with ⟨rfl, hR1, hg1⟩ | ⟨rfl, hR1, rfl⟩
    all_goals rcases trail_or hv2 hS hcl1 (by omega) (.inl rfl) with ⟨rfl, hR2, hg2⟩ | ⟨rfl, hR2, rfl⟩
    all_goals clear hv1 hv2
    all_goals
      repeat' (first | ((conv => whnf); first | (((with_reducible show Gd _ _ _); first | with_reducible refine Gd.t ?_ | with_reducible refine Gd.f ?_ | with_reducible refine Gd.dec (fun _ => ?_) (fun _ => ?_) | with_reducible refine Gd.beq (fun _ => ?_) (fun _ => ?_) | with_reducible refine Gd.bne (fun _ => ?_) (fun _ => ?_) | with_reducible refine Gd.not ?_ | refine Gd.t ?_ | refine Gd.f ?_ | with_reducible refine Gd.var (fun _ => ?_) (fun _ => ?_)) <;> first | (exfalso; omega) | skip) | with_reducible refine Sq.mk ?_ | ((with_reducible show Ld1 _ _ _); first | refine Ld1.h H ?_ | refine Ld1.rF ?_ | refine Ld1.r ?_) | ((with_reducible show Ld _ _ _ _); first | refine Ld.h H ?_ | refine Ld.r ?_) | ((with_reducible show Ix _ _ _ _ _); (first | refine Ix.h ?_ | refine Ix.ha ?_)) | (refine Al.hp H ?_; clear H; intro _ _ H _) | (refine St.h H ?_; clear H; intro _ H)) | (((conv => whnf); refine Cl.mk (leads_c x A l c l1 A1 c1 ai s 2 _ (hA.ext H.e) hxm (RdS.from ex3 hr1) hS hins (by omega) hg1) ?_); rintro _ w8 ⟨rfl, hx3⟩; replace H := H.ext hx3; replace ex3 := Ext.from hx3 ex3; clear hx3) | (((conv => whnf); refine Cl.mk (leads_c x A l c l2 A2 c2 ai s 1 _ (hA.ext H.e) hxm (RdS.from ex3 hr2) hS hins (by omega) hg2) ?_); rintro _ w8 ⟨rfl, hx3⟩; replace H := H.ext hx3; replace ex3 := Ext.from hx3 ex3; clear hx3))
    all_goals first
      | exact ⟨rfl, H.e⟩
      | (refine ⟨s + 1, ⟨at_int rfl (w64 (by simp) (by omega) (by omega)), rfl, rfl, rfl, rfl, trivial⟩, rfl, ⟨by omega, hnx ?_, H⟩, by omega⟩
         intro hW
         rcases hW with ⟨h1, h2, h3, h4⟩ | ⟨h1, h2, h3, h4⟩ | ⟨h1, h2, h4⟩
         all_goals first | omega | (exfalso; exact absurd h4 (by assumption)) | (exfalso; rcases h4 with h4 | h4 <;> exact absurd h4 (by assumption)))
  · have hHk : ∀ w', Hp nw w w' [bk pr 48 (fvV (56, fi, ai)).cells.toList, bk pp 46 (pv A l.length c).cells.toList] → Hp nw w w' [bk pr 48 [.int .i64 56, .int .i64 (fi : Int), .int .i64 (ai : Int)], bk pp 46 (pv A l.length c).cells.toList] := fun w' h => h
    replace H := hHk _ H
    clear hHk
    have hA5 := RdS.from H.e hA.top
    repeat' ((conv => whnf); first | (((with_reducible show Gd _ _ _); first | with_reducible refine Gd.t ?_ | with_reducible refine Gd.f ?_ | with_reducible refine Gd.dec (fun _ => ?_) (fun _ => ?_) | with_reducible refine Gd.beq (fun _ => ?_) (fun _ => ?_) | with_reducible refine Gd.bne (fun _ => ?_) (fun _ => ?_) | with_reducible refine Gd.not ?_ | refine Gd.t ?_ | refine Gd.f ?_ | with_reducible refine Gd.var (fun _ => ?_) (fun _ => ?_)) <;> first | (exfalso; omega) | skip) | with_reducible refine Sq.mk ?_ | ((with_reducible show Ld1 _ _ _); first | refine Ld1.h H ?_ | refine Ld1.rF ?_ | refine Ld1.r ?_) | ((with_reducible show Ld _ _ _ _); first | refine Ld.h H ?_ | refine Ld.r ?_) | ((with_reducible show Ix _ _ _ _ _); (first | refine Ix.h ?_ | refine Ix.ha ?_)) | (refine Al.hp H ?_; clear H; intro _ _ H _) | (refine St.h H ?_; clear H; intro _ H))
    ((conv => whnf); refine Dr.quiet T.ok mixed (by kernel_rfl) (fun W hW => ?_))
    repeat' ((conv => whnf); first | (((with_reducible show Gd _ _ _); first | with_reducible refine Gd.t ?_ | with_reducible refine Gd.f ?_ | with_reducible refine Gd.dec (fun _ => ?_) (fun _ => ?_) | with_reducible refine Gd.beq (fun _ => ?_) (fun _ => ?_) | with_reducible refine Gd.bne (fun _ => ?_) (fun _ => ?_) | with_reducible refine Gd.not ?_ | refine Gd.t ?_ | refine Gd.f ?_ | with_reducible refine Gd.var (fun _ => ?_) (fun _ => ?_)) <;> first | (exfalso; omega) | skip) | ((with_reducible show QLd1 _ _ _); first | refine QLd1.h hW H ?_ | refine QLd1.rF hW ?_ | refine QLd1.r hW ?_) | ((with_reducible show QLd _ _ _ _); first | refine QLd.h hW H ?_ | refine QLd.r hW ?_) | ((with_reducible show Ix _ _ _ _ _); (first | refine Ix.h ?_ | refine Ix.ha ?_)))
    (intro _ eT; replace H := H.ext eT; clear hW eT)
    clear hA5
    have hA5 := RdS.from H.e hA.top
    repeat' ((conv => whnf); first | (((with_reducible show Gd _ _ _); first | with_reducible refine Gd.t ?_ | with_reducible refine Gd.f ?_ | with_reducible refine Gd.dec (fun _ => ?_) (fun _ => ?_) | with_reducible refine Gd.beq (fun _ => ?_) (fun _ => ?_) | with_reducible refine Gd.bne (fun _ => ?_) (fun _ => ?_) | with_reducible refine Gd.not ?_ | refine Gd.t ?_ | refine Gd.f ?_ | with_reducible refine Gd.var (fun _ => ?_) (fun _ => ?_)) <;> first | (exfalso; omega) | skip) | with_reducible refine Sq.mk ?_ | ((with_reducible show Ld1 _ _ _); first | refine Ld1.h H ?_ | refine Ld1.rF ?_ | refine Ld1.r ?_) | ((with_reducible show Ld _ _ _ _); first | refine Ld.h H ?_ | refine Ld.r ?_) | ((with_reducible show Ix _ _ _ _ _); (first | refine Ix.h ?_ | refine Ix.ha ?_)) | (refine St.h H ?_; clear H; intro _ H))
    all_goals first | (exfalso; omega) | skip
    ((conv => whnf); refine Al.hp H ?_; clear H; intro pf _ H _)
    ((conv => whnf); first | (((with_reducible show Gd _ _ _); first | with_reducible refine Gd.t ?_ | with_reducible refine Gd.f ?_ | with_reducible refine Gd.dec (fun _ => ?_) (fun _ => ?_) | with_reducible refine Gd.beq (fun _ => ?_) (fun _ => ?_) | with_reducible refine Gd.bne (fun _ => ?_) (fun _ => ?_) | with_reducible refine Gd.not ?_ | refine Gd.t ?_ | refine Gd.f ?_ | with_reducible refine Gd.var (fun _ => ?_) (fun _ => ?_)) <;> first | (exfalso; omega) | skip) | with_reducible refine Sq.mk ?_ | ((with_reducible show Ld1 _ _ _); first | refine Ld1.h H ?_ | refine Ld1.rF ?_ | refine Ld1.r ?_) | ((with_reducible show Ld _ _ _ _); first | refine Ld.h H ?_ | refine Ld.r ?_) | ((with_reducible show Ix _ _ _ _ _); (first | refine Ix.h ?_ | refine Ix.ha ?_)) | (refine St.h H ?_; clear H; intro _ H))
    have hC5 := RdS.from H.e (hA.code x hxm)
    repeat' ((conv => whnf); first | (((with_reducible show Gd _ _ _); first | with_reducible refine Gd.t ?_ | with_reducible refine Gd.f ?_ | with_reducible refine Gd.dec (fun _ => ?_) (fun _ => ?_) | with_reducible refine Gd.beq (fun _ => ?_) (fun _ => ?_) | with_reducible refine Gd.bne (fun _ => ?_) (fun _ => ?_) | with_reducible refine Gd.not ?_ | refine Gd.t ?_ | refine Gd.f ?_ | with_reducible refine Gd.var (fun _ => ?_) (fun _ => ?_)) <;> first | (exfalso; omega) | skip) | with_reducible refine Sq.mk ?_ | ((with_reducible show Ld1 _ _ _); first | refine Ld1.h H ?_ | refine Ld1.rF ?_ | refine Ld1.r ?_) | ((with_reducible show Ld _ _ _ _); first | refine Ld.h H ?_ | refine Ld.r ?_) | ((with_reducible show Ix _ _ _ _ _); (first | refine Ix.h ?_ | refine Ix.ha ?_)) | (refine St.h H ?_; clear H; intro _ H))
    ((conv => whnf); refine Al.hp H ?_; clear H; intro pc _ H _)
    clear hA5 hC5
    repeat' ((conv => whnf); first | (((with_reducible show Gd _ _ _); first | with_reducible refine Gd.t ?_ | with_reducible refine Gd.f ?_ | with_reducible refine Gd.dec (fun _ => ?_) (fun _ => ?_) | with_reducible refine Gd.beq (fun _ => ?_) (fun _ => ?_) | with_reducible refine Gd.bne (fun _ => ?_) (fun _ => ?_) | with_reducible refine Gd.not ?_ | refine Gd.t ?_ | refine Gd.f ?_ | with_reducible refine Gd.var (fun _ => ?_) (fun _ => ?_)) <;> first | (exfalso; omega) | skip) | with_reducible refine Sq.mk ?_ | ((with_reducible show Ld1 _ _ _); first | refine Ld1.h H ?_ | refine Ld1.rF ?_ | refine Ld1.r ?_) | ((with_reducible show Ld _ _ _ _); first | refine Ld.h H ?_ | refine Ld.r ?_) | ((with_reducible show Ix _ _ _ _ _); (first | refine Ix.h ?_ | refine Ix.ha ?_)) | (refine Al.hp H ?_; clear H; intro _ _ H _) | (refine St.h H ?_; clear H; intro _ H))
    refine Lp.g0 T.ok (σ := Nat) (fun s => [(6, .int .i64 (s : Int)), (5, .pointer (some ⟨pc, 0, none⟩)), (4, .pointer (some ⟨pf, 0, none⟩)), (3, .pointer (some ⟨pr, 0, none⟩)), (1, .pointer (some ⟨pp, 0, none⟩))])
      (fun s w' => s ≤ m ∧ (∀ s', s' < s → ¬ Wit x.1 cc ai 56 s') ∧ Hp nw w w' [bk pc 35 cc.enc, bk pf 24 (x.1.v x.2.1 x.2.2).cells.toList, bk pr 48 [.int .i64 56, .int .i64 (fi : Int), .int .i64 (ai : Int)], bk pp 46 (pv A l.length c).cells.toList]) (fun s _ => m - s) 0 rfl ⟨rfl, rfl, rfl, rfl, rfl, trivial⟩ ⟨Nat.zero_le _, fun _ h => absurd h (Nat.not_lt_zero _), H⟩ ?_
    clear H
    rintro s w5 ⟨hsm, hno, H⟩
    by_cases hlt : s < m
    case neg =>
      exfalso
      exact hno s0 (by omega) hs0
    have hnx : ¬ Wit x.1 cc ai 56 s → ∀ s', s' < s + 1 → ¬ Wit x.1 cc ai 56 s' := fun h s' hs' => by
      by_cases he : s' = s
      · rw [he]; exact h
      · exact hno s' (by omega)
    repeat' ((conv => whnf); first | (((with_reducible show Gd _ _ _); first | with_reducible refine Gd.t ?_ | with_reducible refine Gd.f ?_ | with_reducible refine Gd.dec (fun _ => ?_) (fun _ => ?_) | with_reducible refine Gd.beq (fun _ => ?_) (fun _ => ?_) | with_reducible refine Gd.bne (fun _ => ?_) (fun _ => ?_) | with_reducible refine Gd.not ?_ | refine Gd.t ?_ | refine Gd.f ?_ | with_reducible refine Gd.var (fun _ => ?_) (fun _ => ?_)) <;> first | (exfalso; omega) | skip) | with_reducible refine Sq.mk ?_ | ((with_reducible show Ld1 _ _ _); first | refine Ld1.h H ?_ | refine Ld1.rF ?_ | refine Ld1.r ?_) | ((with_reducible show Ld _ _ _ _); first | refine Ld.h H ?_ | refine Ld.r ?_) | ((with_reducible show Ix _ _ _ _ _); (first | refine Ix.h ?_ | refine Ix.ha ?_)) | (refine Al.hp H ?_; clear H; intro _ _ H _) | (refine St.h H ?_; clear H; intro _ H))
    ((conv => whnf); refine Cl.mk (Trail_c x.1 x.2.1 x.2.2 ai s 2 _ (RdS.from H.e (hA.code x hxm)) (RdS.from H.e hG)) ?_)
    rintro _ w1 ⟨A1, l1, c1, e1, rfl, hr1, ex1, hv1, _⟩
    replace H := H.ext ex1
    repeat' ((conv => whnf); first | (((with_reducible show Gd _ _ _); first | with_reducible refine Gd.t ?_ | with_reducible refine Gd.f ?_ | with_reducible refine Gd.dec (fun _ => ?_) (fun _ => ?_) | with_reducible refine Gd.beq (fun _ => ?_) (fun _ => ?_) | with_reducible refine Gd.bne (fun _ => ?_) (fun _ => ?_) | with_reducible refine Gd.not ?_ | refine Gd.t ?_ | refine Gd.f ?_ | with_reducible refine Gd.var (fun _ => ?_) (fun _ => ?_)) <;> first | (exfalso; omega) | skip) | with_reducible refine Sq.mk ?_ | ((with_reducible show Ld1 _ _ _); first | refine Ld1.h H ?_ | refine Ld1.rF ?_ | refine Ld1.r ?_) | ((with_reducible show Ld _ _ _ _); first | refine Ld.h H ?_ | refine Ld.r ?_) | ((with_reducible show Ix _ _ _ _ _); (first | refine Ix.h ?_ | refine Ix.ha ?_)) | (refine Al.hp H ?_; clear H; intro _ _ H _) | (refine St.h H ?_; clear H; intro _ H))
    ((conv => whnf); refine Cl.mk (Trail_c x.1 x.2.1 x.2.2 ai s 1 _ (RdS.from H.e (hA.code x hxm)) (RdS.from H.e hG)) ?_)
    rintro _ w2 ⟨A2, l2, c2, e2, rfl, hr2, ex2, hv2, _⟩
    replace H := H.ext ex2
    replace hr1 := RdS.from ex2 hr1
    have ex3 : Ext w2 w2 := Ext.refl _
    rcases trail_or hv1 hS hcl1 (by omega) (.inr (.inl rfl)) with ⟨rfl, hR1, hg1⟩ | ⟨rfl, hR1, rfl⟩
    all_goals rcases trail_or hv2 hS hcl1 (by omega) (.inl rfl) with ⟨rfl, hR2, hg2⟩ | ⟨rfl, hR2, rfl⟩
    all_goals clear hv1 hv2
    all_goals
      repeat' (first | ((conv => whnf); first | (((with_reducible show Gd _ _ _); first | with_reducible refine Gd.t ?_ | with_reducible refine Gd.f ?_ | with_reducible refine Gd.dec (fun _ => ?_) (fun _ => ?_) | with_reducible refine Gd.beq (fun _ => ?_) (fun _ => ?_) | with_reducible refine Gd.bne (fun _ => ?_) (fun _ => ?_) | with_reducible refine Gd.not ?_ | refine Gd.t ?_ | refine Gd.f ?_ | with_reducible refine Gd.var (fun _ => ?_) (fun _ => ?_)) <;> first | (exfalso; omega) | skip) | with_reducible refine Sq.mk ?_ | ((with_reducible show Ld1 _ _ _); first | refine Ld1.h H ?_ | refine Ld1.rF ?_ | refine Ld1.r ?_) | ((with_reducible show Ld _ _ _ _); first | refine Ld.h H ?_ | refine Ld.r ?_) | ((with_reducible show Ix _ _ _ _ _); (first | refine Ix.h ?_ | refine Ix.ha ?_)) | (refine Al.hp H ?_; clear H; intro _ _ H _) | (refine St.h H ?_; clear H; intro _ H)) | (((conv => whnf); refine Cl.mk (leads_c x A l c l1 A1 c1 ai s 2 _ (hA.ext H.e) hxm (RdS.from ex3 hr1) hS hins (by omega) hg1) ?_); rintro _ w8 ⟨rfl, hx3⟩; replace H := H.ext hx3; replace ex3 := Ext.from hx3 ex3; clear hx3) | (((conv => whnf); refine Cl.mk (leads_c x A l c l2 A2 c2 ai s 1 _ (hA.ext H.e) hxm (RdS.from ex3 hr2) hS hins (by omega) hg2) ?_); rintro _ w8 ⟨rfl, hx3⟩; replace H := H.ext hx3; replace ex3 := Ext.from hx3 ex3; clear hx3))
    all_goals first
      | exact ⟨rfl, H.e⟩
      | (refine ⟨s + 1, ⟨at_int rfl (w64 (by simp) (by omega) (by omega)), rfl, rfl, rfl, rfl, trivial⟩, rfl, ⟨by omega, hnx ?_, H⟩, by omega⟩
         intro hW
         rcases hW with ⟨h1, h2, h3, h4⟩ | ⟨h1, h2, h3, h4⟩ | ⟨h1, h2, h4⟩
         all_goals first | omega | (exfalso; exact absurd h4 (by assumption)) | (exfalso; rcases h4 with h4 | h4 <;> exact absurd h4 (by assumption)))
end Go.Proofs.YtbbadmlekagloaaDoor
namespace Go.Sh
open Go.RowKit Go.ChangeShapes
section
variable {H : Type} {enc : TypeId × Value → H} {P : Program}
theorem sameAt_ext {w w' : World} (e : Ext w w') {p : MemPlace} (h : p.block < w.heap.size) : w.sameAt w' p := by
  cases p with
  | cell b off => exact Below.cell e h
  | map b => exact Below.block e b h
theorem trodAll_ext {w w' : World} (e : Ext w w') {base : Nat} {spare : Nat → Bool} {held : Bool} : ∀ {ts : List TypeId} {vs : List Value} {ds : List (DataW H)} {ps : List MemPlace},
    DataW.TrodAll enc P w base spare held ts vs ds ps → (∀ p ∈ ps, p.block < w.heap.size) → DataW.TrodAll enc P w' base spare held ts vs ds ps
  | [], [], [], _, h, _ => h
  | _ :: _, _ :: _, _ :: _, _, ⟨p, q, ⟨n, hn⟩, h2, he⟩, hlt =>
    ⟨p, q, ⟨n, DataW.trod_carry n _ _ _ hn fun x hx => sameAt_ext e (hlt x (by rw [he]; exact List.mem_append_left _ hx))⟩, trodAll_ext e h2 (fun x hx => hlt x (by rw [he]; exact List.mem_append_right _ hx)), he⟩
theorem keptBut_ext {w w' : World} (e : Ext w w') (may : MemPlace → Prop) : w.keptBut w' may := by
  refine ⟨Below.os e, Below.output e, fun i hi => ?_⟩
  rw [Below.block e i hi]
  cases w.heap[i]? with
  | none => rfl
  | some o => cases o <;> first | exact ⟨rfl, rfl, rfl, fun _ _ => rfl⟩ | exact .inr ⟨rfl, rfl⟩ | rfl
/-- what a law's row asks of a call that answers true and writes over nothing -/
theorem post_kept (K : Kids P (· < P.types.size)) (hz : ∀ t e, t < P.types.size → P.underlying t = some (.slice e) → 0 < P.cellsOf e) {f : Func} {s : ChangeSpec} {apart fresh handsOn : Bool} {W W' : World} {args : Array Value} {ds gs : List (DataW H)} {before : List MemPlace} {t : TypeId}
    (hW : DataW.Whole enc P f.params.toList s.vars apart W args.toList ds gs before) (hts : ∀ t ∈ f.params.toList, t < P.types.size) (hv : s.vars = []) (e : Ext W W')
    (hfn : s.fn H (ds ++ []) = { results := [.lit (.bool true)], args := ds }) (hr : f.resultTypes = #[t]) (ht : P.underlying t = some .bool) :
    s.post enc P f apart fresh handsOn false W args (.bool true) W' := by
  have hlt := hW.lt
  have hW0 := hW
  obtain ⟨p, q, h1, h2, rfl, _⟩ := hW0
  rw [hv] at h2
  obtain ⟨rfl, rfl⟩ := trodVars_none h2
  rw [List.append_nil] at hlt
  refine ⟨ds, [], p ++ [], [], p, [], hW, ?_, ?_, ?_, keptBut_ext e _, fun h => by cases h⟩
  · rw [hfn, hr]
    exact ⟨[], [], shut_bool ht true, rfl, rfl⟩
  · rw [hfn]
    refine DataW.TrodAll.respare K hz hts (trodAll_ext e h1 hlt) fun x hx => ?_
    simpa using hlt x hx
  · rw [hfn, hv]; rfl
theorem cell_lt {w : World} {a : Addr} {v : Value} (h : w.cell? a = some v) : a.block < w.heap.size := by
  unfold World.cell? at h
  split at h
  · rename_i h1
    exact (Array.getElem?_eq_some_iff.1 h1).1
  · simp at h
theorem exists_list {α : Type} {Q : Nat → α → Prop} : ∀ (n : Nat), (∀ i, i < n → ∃ a, Q i a) → ∃ l : List α, l.length = n ∧ ∀ (i : Nat) (a : α), l[i]? = some a → Q i a
  | 0, _ => ⟨[], rfl, fun i a h => by simp at h⟩
  | n + 1, h => by
    obtain ⟨l, h1, h2⟩ := exists_list (Q := Q) n fun i hi => h i (by omega)
    obtain ⟨a, ha⟩ := h n (by omega)
    refine ⟨l ++ [a], by simp [h1], fun i b hb => ?_⟩
    rcases Nat.lt_or_ge i l.length with hl | hl
    · rw [List.getElem?_append_left hl] at hb; exact h2 i b hb
    · have : i = l.length := by have := (List.getElem?_eq_some_iff.1 hb).1; simp at this; omega
      subst this
      simp at hb; subst hb
      rw [h1]; exact ha
variable {w : World} {sp : Nat → Bool} {held : Bool} {fuel : Nat} {t : TypeId} {cs : List Value} {x : DataW H × List MemPlace}
theorem read_int {k : IntKind} (ht : P.underlying t = some (.int k)) (h : DataW.trod enc P w 0 sp held fuel t cs = some x) : ∃ n, cs = [.int k n] ∧ (Lit.int k n).wf = true ∧ x.1 = .lit (.int k n) := by
  cases fuel with
  | zero => simp [DataW.trod] at h
  | succ n =>
    unfold DataW.trod at h
    rw [ht] at h
    simp only at h
    split at h <;> try (rename_i he; simp at he; done)
    all_goals first
      | (rename_i k1 k2 m he
         simp only [Option.some.injEq, TypeDesc.int.injEq] at he
         subst he
         split at h
         · rename_i hc
           obtain ⟨rfl, hw⟩ := hc
           simp at h; subst h
           exact ⟨m, rfl, hw, rfl⟩
         · simp at h)
      | simp at h
theorem read_slice {α : Type} {R : World → α → List Value → Prop} {Q : α → DataW H → Prop} {e : TypeId} {sz : Nat} (ht : P.underlying t = some (.slice e)) (hsz : P.cellsOf e = sz) (hpos : 0 < sz)
    (he : ∀ fuel cs y, DataW.trod enc P w 0 sp held fuel e cs = some y → ∃ a, cs.length = sz ∧ R w a cs ∧ Q a y.1) (h : DataW.trod enc P w 0 sp held fuel t cs = some x) :
    ∃ (A : Option Addr) (l : List α) (c : Nat), cs = [.slice A l.length c] ∧ l.length ≤ c ∧ c ≤ maxLen ∧ (A = none → c = 0) ∧ Rd R sz w w.heap.size A l ∧
      (l = [] ∨ ∃ es rest, x.1 = .slice es rest ∧ es.length = l.length ∧ ∀ (i : Nat) (a : α) (d : DataW H), l[i]? = some a → es[i]? = some d → Q a d) := by
  rcases DataW.trod_slice ht h with ⟨rfl, rfl⟩ | ⟨a, len, cap, elems, rest, n, _, rfl, rfl, _, hl, hm, hlen, hel, _⟩
  · exact ⟨none, [], 0, rfl, by simp, by simp, fun _ => rfl, Rd.nil, .inl rfl⟩
  · rw [hsz] at hel
    obtain ⟨l, h1, h2⟩ := exists_list (Q := fun i (b : α) => ∃ vs, vs.length = sz ∧ w.cells? 0 (a.add (i * sz)) sz = some vs ∧ R w b vs ∧ ∀ d, (elems.map (·.1))[i]? = some d → Q b d) len (fun i hi => by
      have hi' : i < elems.length := by omega
      have := hel i hi
      rw [List.getElem?_eq_getElem hi', Option.bind_eq_some_iff] at this
      obtain ⟨vs, hv, hy⟩ := this
      obtain ⟨b, hb1, hb2, hb3⟩ := he _ _ _ hy
      refine ⟨b, vs, hb1, hv, hb2, fun d hd => ?_⟩
      rw [List.getElem?_map, List.getElem?_eq_getElem hi'] at hd
      simp at hd; subst hd; exact hb3)
    have hcell : ∀ i b, l[i]? = some b → ∃ vs, vs.length = sz ∧ R w b vs ∧ ∀ j v, vs[j]? = some v → w.cell? (a.add (i * sz + j)) = some v := by
      intro i b hb
      obtain ⟨vs, g1, g2, g3, _⟩ := h2 i b hb
      refine ⟨vs, g1, g3, fun j v hv => ?_⟩
      unfold World.cells? at g2
      rw [if_pos (Nat.zero_le _)] at g2
      have hj : j < sz := by have := (List.getElem?_eq_some_iff.1 hv).1; omega
      have := Lib.mapM_at g2 j j (by simp [hj])
      obtain ⟨u, hu1, hu2⟩ := this
      rw [hv] at hu1; simp at hu1; subst hu1
      rw [← add_add]; exact hu2
    refine ⟨some a, l, cap, by rw [h1], by omega, hm, fun h => by simp at h, ⟨fun hn => ⟨by simp, ?_⟩, fun i b hb => hcell i b hb⟩, .inr ⟨elems.map (·.1), rest.map (·.1), rfl, by rw [List.length_map, hlen, h1], fun i b d hb hd => ?_⟩⟩
    · obtain ⟨b, hb⟩ : ∃ b, l[0]? = some b := ⟨l[0]'(List.length_pos_iff.2 hn), List.getElem?_eq_getElem _⟩
      obtain ⟨vs, g1, _, g3⟩ := hcell 0 b hb
      have := g3 0 vs[0] (List.getElem?_eq_getElem (by omega))
      simp only [gA]
      rw [← block_add a (0 * sz + 0)]
      exact cell_lt this
    · obtain ⟨_, _, _, _, g⟩ := h2 i b hb
      exact g d hd
end
end Go.Sh
namespace Go.Proofs.YtbbadmlekagloaaDoor
open Go Go.Sh
attribute [local irreducible] Blk Ext RdS
theorem u_int : Tryd.prog.underlying 3 = some (.int .i64) := (T.ok.1.get (t := 3) (i := T.t3) rfl).1
theorem u_int64 : Tryd.prog.underlying 2 = some (.int .i64) := (T.ok.1.get (t := 2) (i := T.t2) rfl).1
theorem u_ins : Tryd.prog.underlying 35 = some T.t35.desc := (T.ok.1.get (t := 35) rfl).1
theorem u_fun : Tryd.prog.underlying 24 = some T.t24.desc := (T.ok.1.get (t := 24) rfl).1
theorem u_code : Tryd.prog.underlying 22 = some (.slice 35) := (T.ok.1.get (t := 22) (i := T.t22) rfl).1
theorem n_int : Tryd.prog.cellsOf 3 = 1 := by kernel_rfl
theorem n_int64 : Tryd.prog.cellsOf 2 = 1 := by kernel_rfl
theorem n_ins : Tryd.prog.cellsOf 35 = 5 := by kernel_rfl
theorem n_fun : Tryd.prog.cellsOf 24 = 4 := by kernel_rfl
theorem n_code : Tryd.prog.cellsOf 22 = 1 := by kernel_rfl
theorem len5 {α : Type} : ∀ {l : List α}, l.length = 5 → ∃ a b c d e, l = [a, b, c, d, e]
  | [a, b, c, d, e], _ => ⟨a, b, c, d, e, rfl⟩
theorem len4 {α : Type} : ∀ {l : List α}, l.length = 4 → ∃ a b c d, l = [a, b, c, d]
  | [a, b, c, d], _ => ⟨a, b, c, d, rfl⟩
section
variable {H : Type} {enc : TypeId × Value → H} {w : World} {sp : Nat → Bool} {held : Bool}
theorem read_ins (fuel : Nat) (cs : List Value) (x : DataW H × List MemPlace) (h : DataW.trod enc Tryd.prog w 0 sp held fuel 35 cs = some x) : ∃ a : Ins, cs.length = 5 ∧ cs = a.enc ∧ True := by
  obtain ⟨xs, n, _, _, hl, hxs, hf⟩ := DataW.trod_struct u_ins h
  rw [n_ins] at hl
  obtain ⟨c0, c1, c2, c3, c4, rfl⟩ := len5 hl
  have hx5 : xs.length = 5 := hxs
  have g (i : Nat) (hi : i < 5) : ∃ y, xs[i]? = some y := ⟨_, List.getElem?_eq_getElem (by omega)⟩
  have f0 : DataW.trod enc Tryd.prog w 0 sp held n 3 ((List.drop 0 [c0, c1, c2, c3, c4]).take (Tryd.prog.cellsOf 3)) = xs[0]? := hf 0 _ rfl
  have f1 : DataW.trod enc Tryd.prog w 0 sp held n 3 ((List.drop 1 [c0, c1, c2, c3, c4]).take (Tryd.prog.cellsOf 3)) = xs[1]? := hf 1 _ rfl
  have f2 : DataW.trod enc Tryd.prog w 0 sp held n 3 ((List.drop 2 [c0, c1, c2, c3, c4]).take (Tryd.prog.cellsOf 3)) = xs[2]? := hf 2 _ rfl
  have f3 : DataW.trod enc Tryd.prog w 0 sp held n 3 ((List.drop 3 [c0, c1, c2, c3, c4]).take (Tryd.prog.cellsOf 3)) = xs[3]? := hf 3 _ rfl
  have f4 : DataW.trod enc Tryd.prog w 0 sp held n 2 ((List.drop 4 [c0, c1, c2, c3, c4]).take (Tryd.prog.cellsOf 2)) = xs[4]? := hf 4 _ rfl
  obtain ⟨y0, e0⟩ := g 0 (by decide)
  obtain ⟨y1, e1⟩ := g 1 (by decide)
  obtain ⟨y2, e2⟩ := g 2 (by decide)
  obtain ⟨y3, e3⟩ := g 3 (by decide)
  obtain ⟨y4, e4⟩ := g 4 (by decide)
  rw [e0] at f0; rw [e1] at f1; rw [e2] at f2; rw [e3] at f3; rw [e4] at f4
  rw [n_int] at f0 f1 f2 f3
  rw [n_int64] at f4
  obtain ⟨n0, q0, _, _⟩ := read_int u_int f0
  obtain ⟨n1, q1, _, _⟩ := read_int u_int f1
  obtain ⟨n2, q2, _, _⟩ := read_int u_int f2
  obtain ⟨n3, q3, _, _⟩ := read_int u_int f3
  obtain ⟨n4, q4, _, _⟩ := read_int u_int64 f4
  simp at q0 q1 q2 q3 q4
  subst q0 q1 q2 q3 q4
  exact ⟨⟨n0, n1, n2, n3, n4⟩, rfl, rfl, trivial⟩
theorem read_fun (fuel : Nat) (cs : List Value) (x : DataW H × List MemPlace) (h : DataW.trod enc Tryd.prog w 0 sp held fuel 24 cs = some x) :
    ∃ (f : Fn) (A : Option Addr) (c : Nat), cs = (f.v A c).cells.toList ∧ RdC w A f.code ∧ f.code.length ≤ c ∧ c ≤ maxLen ∧ (A = none → c = 0) ∧ (f.code = [] ∨ ∃ ps es rest, x.1 = .agg ps ∧ DataW.slice es rest ∈ ps ∧ es.length = f.code.length) := by
  obtain ⟨xs, n, _, hx, hl, hxs, hf⟩ := DataW.trod_struct u_fun h
  rw [n_fun] at hl
  obtain ⟨c0, c1, c2, c3, rfl⟩ := len4 hl
  have hx4 : xs.length = 4 := hxs
  have g (i : Nat) (hi : i < 4) : ∃ y, xs[i]? = some y := ⟨_, List.getElem?_eq_getElem (by omega)⟩
  have f0 : DataW.trod enc Tryd.prog w 0 sp held n 3 ((List.drop 0 [c0, c1, c2, c3]).take (Tryd.prog.cellsOf 3)) = xs[0]? := hf 0 _ rfl
  have f1 : DataW.trod enc Tryd.prog w 0 sp held n 3 ((List.drop 1 [c0, c1, c2, c3]).take (Tryd.prog.cellsOf 3)) = xs[1]? := hf 1 _ rfl
  have f2 : DataW.trod enc Tryd.prog w 0 sp held n 3 ((List.drop 2 [c0, c1, c2, c3]).take (Tryd.prog.cellsOf 3)) = xs[2]? := hf 2 _ rfl
  have f3 : DataW.trod enc Tryd.prog w 0 sp held n 22 ((List.drop 3 [c0, c1, c2, c3]).take (Tryd.prog.cellsOf 22)) = xs[3]? := hf 3 _ rfl
  obtain ⟨y0, e0⟩ := g 0 (by decide)
  obtain ⟨y1, e1⟩ := g 1 (by decide)
  obtain ⟨y2, e2⟩ := g 2 (by decide)
  obtain ⟨y3, e3⟩ := g 3 (by decide)
  rw [e0] at f0; rw [e1] at f1; rw [e2] at f2; rw [e3] at f3
  rw [n_int] at f0 f1 f2
  rw [n_code] at f3
  obtain ⟨n0, q0, _, _⟩ := read_int u_int f0
  obtain ⟨n1, q1, _, _⟩ := read_int u_int f1
  obtain ⟨n2, q2, _, _⟩ := read_int u_int f2
  obtain ⟨A, l, c, q3, h1, h2, h3, h4, h5⟩ := read_slice (R := Fl Ins.enc) (Q := fun _ _ => True) u_code n_ins (by decide) read_ins f3
  simp at q0 q1 q2 q3
  subst q0 q1 q2 q3
  refine ⟨⟨n0, n1, n2, l⟩, A, c, rfl, by unfold RdC RdS; exact h4, h1, h2, h3, ?_⟩
  rcases h5 with h5 | ⟨es, rest, h6, h7, _⟩
  · exact .inl h5
  · refine .inr ⟨xs.map (·.1), es, rest, by rw [hx], ?_, h7⟩
    rw [← h6]
    exact List.mem_map.2 ⟨y3, List.mem_of_getElem? e3, rfl⟩
end
end Go.Proofs.YtbbadmlekagloaaDoor
namespace Go.Proofs.YtbbadmlekagloaaDoor
open Go Go.Sh
attribute [local irreducible] Blk Ext RdS
theorem u_role : Tryd.prog.underlying 109 = some (.int .i64) := (T.ok.1.get (t := 109) (i := T.t109) rfl).1
theorem u_bool : Tryd.prog.underlying 4 = some .bool := (T.ok.1.get (t := 4) (i := T.t4) rfl).1
theorem u_line : Tryd.prog.underlying 110 = some T.t110.desc := (T.ok.1.get (t := 110) rfl).1
theorem u_lines : Tryd.prog.underlying 111 = some (.array 10 110) := (T.ok.1.get (t := 111) (i := T.t111) rfl).1
theorem n_role : Tryd.prog.cellsOf 109 = 1 := by kernel_rfl
theorem n_bool : Tryd.prog.cellsOf 4 = 1 := by kernel_rfl
theorem n_line : Tryd.prog.cellsOf 110 = 5 := by kernel_rfl
theorem n_lines : Tryd.prog.cellsOf 111 = 50 := by kernel_rfl
theorem g_fields : Tryd.prog.globalNamed "plunder/prog.fields" = some 0 := by kernel_rfl
theorem g_type : (Tryd.prog.globals[0]?).map (·.type) = some 111 := by kernel_rfl
def Row.data {H : Type} (r : Row) : DataW H := .agg [.lit (.int .i64 r.a), .lit (.int .i64 r.b), .lit (.int .i64 r.c), .lit (.int .i64 r.k), .lit (.bool r.nx)]
theorem laid_eq {H : Type} : (Rows.laid_plunder_prog_fields : DataW H) = .agg (rows10.map Row.data) := rfl
section
variable {H : Type} {enc : TypeId × Value → H} {w : World} {sp : Nat → Bool} {held : Bool}
theorem read_line (fuel : Nat) (cs : List Value) (x : DataW H × List MemPlace) (r : Row) (h : DataW.trod enc Tryd.prog w 0 sp held fuel 110 cs = some x) (hd : x.1 = r.data) : cs = r.enc := by
  obtain ⟨xs, n, _, hx, hl, hxs, hf⟩ := DataW.trod_struct u_line h
  rw [n_line] at hl
  obtain ⟨c0, c1, c2, c3, c4, rfl⟩ := len5 hl
  obtain ⟨y0, y1, y2, y3, y4, rfl⟩ := len5 (show xs.length = 5 from hxs)
  have f0 : DataW.trod enc Tryd.prog w 0 sp held n 109 ((List.drop 0 [c0, c1, c2, c3, c4]).take (Tryd.prog.cellsOf 109)) = some y0 := hf 0 _ rfl
  have f1 : DataW.trod enc Tryd.prog w 0 sp held n 109 ((List.drop 1 [c0, c1, c2, c3, c4]).take (Tryd.prog.cellsOf 109)) = some y1 := hf 1 _ rfl
  have f2 : DataW.trod enc Tryd.prog w 0 sp held n 109 ((List.drop 2 [c0, c1, c2, c3, c4]).take (Tryd.prog.cellsOf 109)) = some y2 := hf 2 _ rfl
  have f3 : DataW.trod enc Tryd.prog w 0 sp held n 109 ((List.drop 3 [c0, c1, c2, c3, c4]).take (Tryd.prog.cellsOf 109)) = some y3 := hf 3 _ rfl
  have f4 : DataW.trod enc Tryd.prog w 0 sp held n 4 ((List.drop 4 [c0, c1, c2, c3, c4]).take (Tryd.prog.cellsOf 4)) = some y4 := hf 4 _ rfl
  rw [n_role] at f0 f1 f2 f3
  rw [n_bool] at f4
  obtain ⟨n0, q0, e0, _⟩ := DataW.trod_int u_role f0
  obtain ⟨n1, q1, e1, _⟩ := DataW.trod_int u_role f1
  obtain ⟨n2, q2, e2, _⟩ := DataW.trod_int u_role f2
  obtain ⟨n3, q3, e3, _⟩ := DataW.trod_int u_role f3
  obtain ⟨n4, q4, e4⟩ := DataW.trod_bool u_bool f4
  simp at q0 q1 q2 q3 q4
  subst q0 q1 q2 q3 q4 e0 e1 e2 e3 e4 hx
  simp [Row.data] at hd
  obtain ⟨rfl, rfl, rfl, rfl, rfl⟩ := hd
  rfl
theorem lines_at {fuel : Nat} {cs : List Value} {x : DataW H × List MemPlace} (h : DataW.trod enc Tryd.prog w 0 sp held fuel 111 cs = some x) (hd : x.1 = .agg (rows10.map Row.data)) :
    cs.length = 50 ∧ ∀ (i : Nat) (r : Row), rows10[i]? = some r → (cs.drop (i * 5)).take 5 = r.enc := by
  obtain ⟨xs, m, _, rfl, hl, hxs, hf⟩ := DataW.trod_array u_lines h
  rw [n_lines] at hl
  rw [n_line] at hf
  refine ⟨hl, fun i r hr => ?_⟩
  have hi : i < 10 := by have := (List.getElem?_eq_some_iff.1 hr).1; simpa [rows10] using this
  have := hf i hi
  rw [List.getElem?_eq_getElem (by omega)] at this
  refine read_line m _ _ r this ?_
  have h2 : (xs.map (·.1))[i]? = (rows10.map Row.data)[i]? := by
    simp only [DataW.agg.injEq] at hd
    rw [hd]
  rw [List.getElem?_map, List.getElem?_map, hr, List.getElem?_eq_getElem (by omega)] at h2
  simpa using h2
end
/-- from a row's condition -/
theorem rdG_of {w : World} (h : laidMetH Tryd.prog [("plunder/prog.fields", Rows.laid_plunder_prog_fields)] w) : RdG w := by
  have h : laidMet Tryd.prog [("plunder/prog.fields", Rows.laid_plunder_prog_fields)] w := h
  obtain ⟨ps, ⟨g', t', cs, fuel, p, q, hg', ht', hvar, hd, _, _⟩, _⟩ := h
  obtain rfl := Option.some.inj (g_fields.symm.trans hg')
  obtain rfl := Option.some.inj (g_type.symm.trans ht')
  obtain ⟨hl, hat⟩ := lines_at hd laid_eq
  have hblk : ∃ tt fr, w.heap[0]? = some (.cells cs tt fr) := by
    simp only [World.var?, g_fields, Option.bind_some] at hvar
    split at hvar
    · rename_i c1 t1 f1 hh
      simp at hvar; subst hvar
      exact ⟨t1, f1, hh⟩
    · simp at hvar
  obtain ⟨tt, fr, hb⟩ := hblk
  unfold RdG RdS
  refine ⟨fun _ => ⟨by simp, (Array.getElem?_eq_some_iff.1 hb).1⟩, fun i r hr => ⟨r.enc, rfl, rfl, fun j v hv => ?_⟩⟩
  have := hat i r hr
  rw [← this] at hv
  have hj : j < 5 := by
    have := (List.getElem?_eq_some_iff.1 hv).1
    simp at this; omega
  rw [List.getElem?_take_of_lt hj, List.getElem?_drop] at hv
  simp only [gA]
  rw [add_lit]
  simp only [World.cell?, hb]
  rw [Nat.zero_add, ← Array.getElem?_toList]
  exact hv
end Go.Proofs.YtbbadmlekagloaaDoor
namespace Go.Proofs.YtbbadmlekagloaaDoor
open Go Go.Sh
set_option linter.unusedVariables false
set_option linter.unusedSimpArgs false
attribute [local irreducible] Blk Ext RdS
theorem kids : Kids Tryd.prog (· < Tryd.prog.types.size) := kids_rows (by kernel_rfl) (by kernel_rfl)
theorem full : ∀ t e, t < Tryd.prog.types.size → Tryd.prog.underlying t = some (.slice e) → 0 < Tryd.prog.cellsOf e := slices_full_of _ (by kernel_rfl)
theorem own : ownKnob Tryd.prog.godebug = none := by kernel_rfl
theorem one_le {H : Type} (d : DataW H) : 1 ≤ Rows.uptoBulk d := by
  cases d with
  | lit l => cases l <;> simp [Rows.uptoBulk]
  | nil => simp [Rows.uptoBulk]
  | ptr d => simp [Rows.uptoBulk]
  | slice elems spare => simp [Rows.uptoBulk]
  | agg parts => simp [Rows.uptoBulk]
  | iface t d => simp [Rows.uptoBulk]
  | map entries => simp [Rows.uptoBulk]
  | held h => simp [Rows.uptoBulk]
theorem part_le {H : Type} {d : DataW H} {l : List (DataW H)} (h : d ∈ l) : Rows.uptoBulk d ≤ Rows.uptoBulkAll l := by
  induction l with
  | nil => cases h
  | cons x r ih =>
    simp only [Rows.uptoBulkAll]
    cases List.mem_cons.1 h with
    | inl e => subst e; omega
    | inr e => have := ih e; omega
theorem len_le {H : Type} (l : List (DataW H)) : l.length ≤ Rows.uptoBulkAll l := by
  induction l with
  | nil => simp [Rows.uptoBulkAll]
  | cons x r ih => have := one_le x; simp only [Rows.uptoBulkAll, List.length_cons]; omega
theorem v_of_cells {v : Value} {l : List Value} (h : v.cells.toList = l) (hl : l.length ≠ 1) : v = .agg l.toArray := by
  cases v <;> first | (simp [Value.cells] at h; subst h; simp at hl; done) | (subst h; rfl)
/-- a function that comes in -/
theorem arg_fun {H : Type} {enc : TypeId × Value → H} {w : World} {sp : Nat → Bool} {held : Bool} {v : Value} {d : DataW H} {p : List MemPlace} (h : DataW.Trod enc Tryd.prog w 0 sp held 24 v d p) :
    ∃ (f : Fn) (A : Option Addr) (c : Nat), v = f.v A c ∧ RdC w A f.code ∧ f.code.length ≤ c ∧ c ≤ maxLen ∧ (A = none → c = 0) ∧ f.code.length ≤ Rows.uptoBulk d := by
  obtain ⟨n, hn⟩ := h
  obtain ⟨f, A, c, h1, h2, h3, h4, h5, h6⟩ := read_fun n _ _ hn
  refine ⟨f, A, c, v_of_cells h1 (by simp [Fn.v, Value.cells]), h2, h3, h4, h5, ?_⟩
  rcases h6 with h6 | ⟨ps, es, rest, h7, h8, h9⟩
  · simp [h6]
  · have hp := part_le h8
    have hl := len_le es
    rw [show d = .agg ps from h7]
    simp only [Rows.uptoBulk] at hp ⊢
    omega
theorem row_fun : ∀ t ∈ [24], t < Tryd.prog.types.size := fun t ht => by
  obtain rfl : t = 24 := by simpa using ht
  exact of_decide_eq_true (by kernel_rfl)
theorem wf64 {n : Int} (h : (Lit.int .i64 n).wf = true) : -9223372036854775808 ≤ n ∧ n ≤ 9223372036854775807 := by
  have h := (Lit.wf_int_iff _ _).1 h
  have e1 : IntKind.i64.min = -9223372036854775808 := by decide
  have e2 : IntKind.i64.max = 9223372036854775807 := by decide
  rw [e1, e2] at h
  exact h
set_option maxRecDepth 100000 in
/-- a number that comes in -/
theorem arg_int {H : Type} {enc : TypeId × Value → H} {w : World} {sp : Nat → Bool} {held : Bool} {v : Value} {d : DataW H} {p : List MemPlace} {r : Go.Reach} {b0 : Nat} (hv : Value.okWide Tryd.prog w r b0 3 v) (h : DataW.Trod enc Tryd.prog w 0 sp held 3 v d p) :
    ∃ n : Int, v = .int .i64 n ∧ -9223372036854775808 ≤ n ∧ n ≤ 9223372036854775807 := by
  obtain ⟨m, h1, _, _, h4⟩ := ChangeShapes.open_int (P := Tryd.prog) (t := 3) u_int hv h
  exact ⟨m, h1, wf64 h4⟩
set_option maxRecDepth 100000 in
theorem arg_int64 {H : Type} {enc : TypeId × Value → H} {w : World} {sp : Nat → Bool} {held : Bool} {v : Value} {d : DataW H} {p : List MemPlace} {r : Go.Reach} {b0 : Nat} (hv : Value.okWide Tryd.prog w r b0 2 v) (h : DataW.Trod enc Tryd.prog w 0 sp held 2 v d p) :
    ∃ n : Int, v = .int .i64 n ∧ -9223372036854775808 ≤ n ∧ n ≤ 9223372036854775807 := by
  obtain ⟨m, h1, _, _, h4⟩ := ChangeShapes.open_int (P := Tryd.prog) (t := 2) u_int64 hv h
  exact ⟨m, h1, wf64 h4⟩
/-- a settled world in which the table is laid -/
noncomputable def laidWorld (os : Os) : World :=
  { World.holding Tryd.prog os ⟨#[], #[], []⟩ with heap := (World.holding Tryd.prog os ⟨#[], #[], []⟩).heap.modify 0 fun
      | .cells _ t frozen => .cells (rows10.flatMap Row.enc).toArray t frozen
      | o => o }
def noFun : Value := .agg #[.int .i64 0, .int .i64 0, .int .i64 0, .slice none 0 0]
end Go.Proofs.YtbbadmlekagloaaDoor
namespace Go.Proofs.YtbbadmlekagloaaDoor
open Go Go.Sh
set_option linter.unusedVariables false
set_option linter.unusedSimpArgs false
attribute [local irreducible] Blk Ext RdS
theorem u_prog : Tryd.prog.underlying 46 = some T.t46.desc := (T.ok.1.get (t := 46) rfl).1
theorem u_funs : Tryd.prog.underlying 44 = some (.slice 24) := (T.ok.1.get (t := 44) (i := T.t44) rfl).1
theorem n_prog : Tryd.prog.cellsOf 46 = 1 := by kernel_rfl
theorem n_funs : Tryd.prog.cellsOf 44 = 1 := by kernel_rfl
def FunAt (w : World) (a : FE) (cs : List Value) : Prop := cs = a.enc ∧ RdC w a.2.1 a.1.code
section
variable {H : Type} {enc : TypeId × Value → H} {w : World} {sp : Nat → Bool} {held : Bool}
theorem fun_bulk {fuel : Nat} {cs : List Value} {x : DataW H × List MemPlace} (h : DataW.trod enc Tryd.prog w 0 sp held fuel 24 cs = some x) : ∃ a : FE, cs.length = 4 ∧ FunAt w a cs ∧ a.1.code.length ≤ Rows.uptoBulk x.1 := by
  obtain ⟨f, A, c, h1, h2, h3, h4, h5, h6⟩ := read_fun fuel cs x h
  refine ⟨(f, A, c), by rw [h1]; rfl, ⟨h1, h2⟩, ?_⟩
  rcases h6 with h6 | ⟨ps, es, rest, h7, h8, h9⟩
  · simp [h6]
  · have hp := part_le h8
    have hl := len_le es
    rw [show x.1 = .agg ps from h7]
    simp only [Rows.uptoBulk] at hp ⊢
    omega
set_option maxRecDepth 100000 in
theorem read_prog {fuel : Nat} {cs : List Value} {x : DataW H × List MemPlace} (h : DataW.trod enc Tryd.prog w 0 sp held fuel 46 cs = some x) :
    ∃ (l : List FE) (A : Option Addr) (c : Nat), cs = [.slice A l.length c] ∧ RdP w A l ∧ l.length ≤ c ∧ c ≤ maxLen ∧ (A = none → c = 0) ∧ l.length ≤ Rows.uptoBulk x.1 ∧ ∀ y ∈ l, y.1.code.length ≤ Rows.uptoBulk x.1 := by
  obtain ⟨xs, n, _, hx, hl, hxs, hf⟩ := DataW.trod_struct u_prog h
  rw [n_prog] at hl
  obtain ⟨c0, rfl⟩ : ∃ c0, cs = [c0] := by
    match cs, hl with
    | [a], _ => exact ⟨a, rfl⟩
  obtain ⟨y0, rfl⟩ : ∃ y0, xs = [y0] := by
    match xs, (show xs.length = 1 from hxs) with
    | [a], _ => exact ⟨a, rfl⟩
  have f0 : DataW.trod enc Tryd.prog w 0 sp held n 44 ((List.drop 0 [c0]).take (Tryd.prog.cellsOf 44)) = some y0 := hf 0 _ rfl
  rw [n_funs] at f0
  obtain ⟨A, l, c, h1, h2, h3, h4, h5, h6⟩ := read_slice (R := FunAt) (Q := fun a d => a.1.code.length ≤ Rows.uptoBulk d) (sz := 4) u_funs n_fun (by decide) (fun fuel cs y hy => fun_bulk hy) f0
  have h1 : [c0] = [.slice A l.length c] := h1
  refine ⟨l, A, c, h1, ⟨?_, fun z hz => ?_⟩, h2, h3, h4, ?_⟩
  · unfold RdS
    refine ⟨h5.some, fun i z hz => ?_⟩
    obtain ⟨vs, q1, q2, q3⟩ := h5.at_ i z hz
    exact ⟨vs, q1, q2.1, q3⟩
  · obtain ⟨i, hi⟩ := List.getElem?_of_mem hz
    obtain ⟨vs, q1, q2, q3⟩ := h5.at_ i z hi
    exact q2.2
  · rcases h6 with h6 | ⟨es, rest, h7, h8, h9⟩
    · subst h6; exact ⟨by simp, by simp⟩
    · have hb : x.1 = .agg [.slice es rest] := by rw [hx]; simp [h7]
      have hle : Rows.uptoBulkAll es ≤ Rows.uptoBulk x.1 := by rw [hb]; simp only [Rows.uptoBulk, Rows.uptoBulkAll]; omega
      refine ⟨by have := len_le es; omega, fun z hz => ?_⟩
      obtain ⟨i, hi⟩ := List.getElem?_of_mem hz
      obtain ⟨d, hd⟩ : ∃ d, es[i]? = some d := ⟨_, List.getElem?_eq_getElem (by rw [h8]; exact (List.getElem?_eq_some_iff.1 hi).1)⟩
      have := h9 i z d hi hd
      have := part_le (List.mem_of_getElem? hd)
      omega
set_option maxRecDepth 100000 in
theorem arg_prog {v : Value} {d : DataW H} {p : List MemPlace} {r : Go.Reach} {b0 : Nat} (hv : Value.okWide Tryd.prog w r b0 46 v) (h : DataW.Trod enc Tryd.prog w 0 sp held 46 v d p) :
    ∃ (l : List FE) (A : Option Addr) (c : Nat), v = pv A l.length c ∧ RdP w A l ∧ l.length ≤ c ∧ c ≤ maxLen ∧ l.length ≤ Rows.uptoBulk d ∧ ∀ y ∈ l, y.1.code.length ≤ Rows.uptoBulk d := by
  obtain ⟨n, hn⟩ := h
  obtain ⟨l, A, c, h1, h2, h3, h4, h5, h6, h7⟩ := read_prog hn
  refine ⟨l, A, c, ?_, h2, h3, h4, h6, h7⟩
  unfold Value.okWide at hv
  rw [u_prog] at hv
  obtain ⟨cs, rfl, _, _⟩ := hv
  have : cs.toList = [.slice A l.length c] := h1
  rw [pv]
  congr 1
  exact Array.ext' this
theorem u_bools : Tryd.prog.underlying 55 = some (.slice 4) := (T.ok.1.get (t := 55) (i := T.t55) rfl).1
theorem u_words : Tryd.prog.underlying 67 = some (.slice 2) := (T.ok.1.get (t := 67) (i := T.t67) rfl).1
set_option maxRecDepth 100000 in
theorem read_list {α : Type} {enc' : α → List Value} {t el : TypeId} {v : Value} {d : DataW H} {p : List MemPlace} {r : Go.Reach} {b0 : Nat} {Q : α → Prop} (hu : Tryd.prog.underlying t = some (.slice el)) (hn : Tryd.prog.cellsOf el = 1)
    (he : ∀ fuel cs y, DataW.trod enc Tryd.prog w 0 sp held fuel el cs = some y → ∃ a, cs.length = 1 ∧ (cs = enc' a ∧ Q a) ∧ True) (hv : Value.okWide Tryd.prog w r b0 t v) (h : DataW.Trod enc Tryd.prog w 0 sp held t v d p) :
    ∃ (A : Option Addr) (l : List α) (c : Nat), v = .slice A l.length c ∧ RdS enc' 1 w A l ∧ l.length ≤ c ∧ c ≤ maxLen ∧ (A = none → c = 0) ∧ (∀ a ∈ l, Q a) ∧ l.length ≤ Rows.uptoBulk d ∧ (l = [] ∨ ∃ es rest, d = .slice es rest ∧ es.length = l.length) := by
  obtain ⟨A0, n0, c0, rfl⟩ := WideShapes.okWide_slice hu hv
  obtain ⟨n, hn'⟩ := h
  obtain ⟨A, l, c, h1, h2, h3, h4, h5, h6⟩ := read_slice (R := fun _ a cs => cs = enc' a ∧ Q a) (Q := fun _ _ => True) (sz := 1) hu hn (by decide) (fun fuel cs y hy => he fuel cs y hy) hn'
  have h1 : [Value.slice A0 n0 c0] = [.slice A l.length c] := h1
  simp only [List.cons.injEq, and_true] at h1
  refine ⟨A, l, c, h1, ?_, h2, h3, h4, fun a ha => ?_, ?_⟩
  · unfold RdS
    refine ⟨h5.some, fun i z hz => ?_⟩
    obtain ⟨vs, q1, q2, q3⟩ := h5.at_ i z hz
    exact ⟨vs, q1, q2.1, q3⟩
  · obtain ⟨i, hi⟩ := List.getElem?_of_mem ha
    obtain ⟨vs, q1, q2, q3⟩ := h5.at_ i a hi
    exact q2.2
  · rcases h6 with h6 | ⟨es, rest, h7, h8, h9⟩
    · subst h6; exact ⟨by simp, .inl rfl⟩
    · have := len_le es
      have h7 : d = .slice es rest := h7
      refine ⟨?_, .inr ⟨es, rest, h7, h8⟩⟩
      rw [h7]
      simp only [Rows.uptoBulk]
      omega
theorem b_bool : Tryd.prog.bytesOf 4 = 1 := by kernel_rfl
theorem b_int64 : Tryd.prog.bytesOf 2 = 8 := by kernel_rfl
theorem list_small {α : Type} {l : List α} {d : DataW H} {ts : List TypeId} {ds : List (DataW H)} {j b : Nat} {t el : TypeId} (hwt : (DataW.weightsEach Tryd.prog ts ds).all (· ≤ reachBytes) = true) (h : l = [] ∨ ∃ es rest, d = .slice es rest ∧ es.length = l.length)
    (ht : ts[j]? = some t) (hd : ds[j]? = some d) (hu : Tryd.prog.underlying t = some (.slice el)) (hb : Tryd.prog.bytesOf el = b) (hb1 : 1 ≤ b) : l.length ≤ 140737488351232 := by
  rcases h with h | ⟨es, rest, h, he⟩
  · simp [h]
  · subst h
    have := sized_slice hwt ht hd hu
    rw [hb] at this
    have h2 : es.length ≤ (es.length + rest.length) * b := Nat.le_trans (Nat.le_add_right _ _) (Nat.le_mul_of_pos_right _ hb1)
    unfold reachBytes at this
    omega
def boolE (b : Bool) : List Value := [.bool b]
set_option maxRecDepth 100000 in
theorem arg_bools {v : Value} {d : DataW H} {p : List MemPlace} {r : Go.Reach} {b0 : Nat} (hv : Value.okWide Tryd.prog w r b0 55 v) (h : DataW.Trod enc Tryd.prog w 0 sp held 55 v d p) :
    ∃ (A : Option Addr) (l : List Bool) (c : Nat), v = .slice A l.length c ∧ RdS boolE 1 w A l ∧ l.length ≤ c ∧ c ≤ maxLen ∧ (A = none → c = 0) ∧ (∀ a ∈ l, True) ∧ l.length ≤ Rows.uptoBulk d ∧ (l = [] ∨ ∃ es rest, d = .slice es rest ∧ es.length = l.length) :=
  read_list u_bools n_bool (fun fuel cs y hy => by
    obtain ⟨b, rfl, _⟩ := DataW.trod_bool u_bool hy
    exact ⟨b, rfl, ⟨rfl, trivial⟩, trivial⟩) hv h
set_option maxRecDepth 100000 in
theorem arg_words {v : Value} {d : DataW H} {p : List MemPlace} {r : Go.Reach} {b0 : Nat} (hv : Value.okWide Tryd.prog w r b0 67 v) (h : DataW.Trod enc Tryd.prog w 0 sp held 67 v d p) :
    ∃ (A : Option Addr) (l : List Int) (c : Nat), v = .slice A l.length c ∧ RdS ints 1 w A l ∧ l.length ≤ c ∧ c ≤ maxLen ∧ (A = none → c = 0) ∧ (∀ a ∈ l, -9223372036854775808 ≤ a ∧ a ≤ 9223372036854775807) ∧ l.length ≤ Rows.uptoBulk d ∧ (l = [] ∨ ∃ es rest, d = .slice es rest ∧ es.length = l.length) :=
  read_list u_words n_int64 (fun fuel cs y hy => by
    obtain ⟨b, rfl, _, hw⟩ := DataW.trod_int u_int64 hy
    exact ⟨b, rfl, ⟨rfl, wf64 hw⟩, trivial⟩) hv h
end
def noProg : Value := .agg #[.slice none 0 0]
end Go.Proofs.YtbbadmlekagloaaDoor
