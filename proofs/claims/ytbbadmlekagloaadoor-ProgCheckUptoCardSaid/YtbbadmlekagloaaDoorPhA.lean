/- layer prog: the law ProgTrail; own work. -/
import Derived.Test.YtbbadmlekagloaaDoorPgY
namespace Go.Proofs.YtbbadmlekagloaaDoor
open Go Go.Sh
set_option linter.unusedVariables false
set_option linter.unusedSimpArgs false
attribute [local irreducible] Blk Ext RdS
theorem bad_or {f : Fn} {at_ slot state : Int} (h : ¬ Bad f at_ slot state) : soundB f = true ∧ ∃ i : Nat, at_ = i ∧ i < f.code.length ∧ 0 ≤ slot ∧ slot < f.slots ∧ okS state := by
  unfold Bad at h
  rw [not_or] at h
  refine ⟨by simpa using h.1, at_.toNat, ?_⟩
  unfold okS
  omega
theorem Trail_c (f : Fn) (A : Option Addr) (c : Nat) (at_ slot state : Int) (w : World) (hA : RdC w A f.code) (hG : RdG w) :
    Cl Tryd.prog 25 #[f.v A c, .int .i64 at_, .int .i64 slot, .int .i64 state] w (IsTrail f at_ slot state w) (fun _ _ => False) := by
  by_cases hb : Bad f at_ slot state
  · exact Trail_bad f A c at_ slot state w hA hG hb
  · obtain ⟨hS, i, rfl, hi, h1, h2, h3⟩ := bad_or hb
    exact Trail_good f A c i slot state w hA hG hS hi h1 h2 h3
theorem Trails_c (f : Fn) (A : Option Addr) (c : Nat) (at_ slot state : Int) (C : Option Addr) (d : Nat) (l : List Int) (e : Int) (w : World) (hA : RdC w A f.code) (hC : RdS ints 1 w C l) (hv : Verdict f at_ slot state l e) :
    Cl Tryd.prog 26 #[f.v A c, .int .i64 at_, .int .i64 slot, .int .i64 state, .slice C l.length d, .int .i64 e] w (fun v w' => v = .bool true ∧ Ext w w') (fun _ _ => False) := by
  by_cases hb : Bad f at_ slot state
  · obtain ⟨rfl, rfl⟩ := hv.bad hb
    exact Trails_bad f A c at_ slot state C d w hA hb
  · obtain ⟨hS, i, rfl, hi, h1, h2, h3⟩ := bad_or hb
    by_cases hr : Reach f slot (i, state)
    · obtain ⟨rfl, hg⟩ := hv.yes hb hr
      exact Trails_yes f A c i slot state C d l w hA hC hS hi h1 h2 h3 hr hg
    · obtain ⟨rfl, rfl⟩ := hv.no hb hr
      exact Trails_no f A c i slot state C d w hA hS hi h1 h2 h3 hr
theorem trailPlaced_c (f : Fn) (A : Option Addr) (c : Nat) (at_ slot state : Int) (w : World) (hA : RdC w A f.code) (hG : RdG w) (hl : f.code.length ≤ 1048576) :
    Cl Tryd.prog 27 #[f.v A c, .int .i64 at_, .int .i64 slot, .int .i64 state] w (fun v w' => v = .bool true ∧ Ext w w') (fun _ _ => False) := by
  refine calls_ex (args := [f.v A c, .int .i64 at_, .int .i64 slot, .int .i64 state]) T.ok Tryd.func27 rfl rfl rfl rfl ?_
  have hlt : (turnedF f).code.length ≤ 1048576 := by rw [turned_len]; exact hl
  have H := Hp.begin nw w
  refine Sq.mk ?_
  ((conv => whnf); refine Al.hp H ?_; clear H; intro pf _ H _)
  repeat' ((conv => whnf); first | (((with_reducible show Gd _ _ _); first | with_reducible refine Gd.t ?_ | with_reducible refine Gd.f ?_ | with_reducible refine Gd.dec (fun _ => ?_) (fun _ => ?_) | with_reducible refine Gd.beq (fun _ => ?_) (fun _ => ?_) | with_reducible refine Gd.bne (fun _ => ?_) (fun _ => ?_) | with_reducible refine Gd.not ?_ | refine Gd.t ?_ | refine Gd.f ?_ | with_reducible refine Gd.var (fun _ => ?_) (fun _ => ?_)) <;> first | (exfalso; omega) | skip) | with_reducible refine Sq.mk ?_ | ((with_reducible show Ld1 _ _ _); first | refine Ld1.h H ?_ | refine Ld1.rF ?_ | refine Ld1.r ?_) | ((with_reducible show Ld _ _ _ _); first | refine Ld.h H ?_ | refine Ld.r ?_) | ((with_reducible show Ix _ _ _ _ _); (first | refine Ix.h ?_ | refine Ix.ha ?_)) | (refine Al.hp H ?_; clear H; intro _ _ H _) | (refine St.h H ?_; clear H; intro _ H))
  ((conv => whnf); refine Cl.mk (turned_c f A c _ (RdS.from H.e hA) hl) ?_)
  rintro _ w2 ⟨C, d, rfl, hC, e, hfr, _⟩
  replace H := H.fr0 (rk_new hC e hfr) (.inr rfl)
  clear hC e hfr
  ((conv => whnf); refine Al.hp H ?_; clear H; intro pt _ H _)
  repeat' ((conv => whnf); first | (((with_reducible show Gd _ _ _); first | with_reducible refine Gd.t ?_ | with_reducible refine Gd.f ?_ | with_reducible refine Gd.dec (fun _ => ?_) (fun _ => ?_) | with_reducible refine Gd.beq (fun _ => ?_) (fun _ => ?_) | with_reducible refine Gd.bne (fun _ => ?_) (fun _ => ?_) | with_reducible refine Gd.not ?_ | refine Gd.t ?_ | refine Gd.f ?_ | with_reducible refine Gd.var (fun _ => ?_) (fun _ => ?_)) <;> first | (exfalso; omega) | skip) | with_reducible refine Sq.mk ?_ | ((with_reducible show Ld1 _ _ _); first | refine Ld1.h H ?_ | refine Ld1.rF ?_ | refine Ld1.r ?_) | ((with_reducible show Ld _ _ _ _); first | refine Ld.h H ?_ | refine Ld.r ?_) | ((with_reducible show Ix _ _ _ _ _); (first | refine Ix.h ?_ | refine Ix.ha ?_)) | (refine Al.hp H ?_; clear H; intro _ _ H _) | (refine St.h H ?_; clear H; intro _ H))
  ((conv => whnf); refine Cl.mk (spare_c (turnedF f) C d _ (H.rdr 1 rfl) hlt) ?_)
  rintro _ w3 ⟨p, rfl, hplo, hbp, e⟩
  replace H := H.fr0 (Hp.one (Tch.of_ext e) (bk_ok hbp) (fun k hk => .inr (by subst hk; exact hplo))) (.inl rfl)
  clear hbp e hplo
  ((conv => whnf); refine Al.hp H ?_; clear H; intro pg _ H _)
  repeat' ((conv => whnf); first | (((with_reducible show Gd _ _ _); first | with_reducible refine Gd.t ?_ | with_reducible refine Gd.f ?_ | with_reducible refine Gd.dec (fun _ => ?_) (fun _ => ?_) | with_reducible refine Gd.beq (fun _ => ?_) (fun _ => ?_) | with_reducible refine Gd.bne (fun _ => ?_) (fun _ => ?_) | with_reducible refine Gd.not ?_ | refine Gd.t ?_ | refine Gd.f ?_ | with_reducible refine Gd.var (fun _ => ?_) (fun _ => ?_)) <;> first | (exfalso; omega) | skip) | with_reducible refine Sq.mk ?_ | ((with_reducible show Ld1 _ _ _); first | refine Ld1.h H ?_ | refine Ld1.rF ?_ | refine Ld1.r ?_) | ((with_reducible show Ld _ _ _ _); first | refine Ld.h H ?_ | refine Ld.r ?_) | ((with_reducible show Ix _ _ _ _ _); (first | refine Ix.h ?_ | refine Ix.ha ?_)) | (refine Al.hp H ?_; clear H; intro _ _ H _) | (refine St.h H ?_; clear H; intro _ H))
  ((conv => whnf); refine Cl.mk (Trail_c (turnedF f) (some ⟨p, 0, none⟩) _ at_ slot state _ (rd_pre (H.blk 1 rfl)) (RdS.from H.e hG)) ?_)
  rintro _ w4 ⟨A1, l1, c1, r1, rfl, hr1, e, hv1, hf1⟩
  replace H := H.fr0 (rk_new hr1 e hf1) (.inr rfl)
  clear hr1 e hf1
  repeat' ((conv => whnf); first | (((with_reducible show Gd _ _ _); first | with_reducible refine Gd.t ?_ | with_reducible refine Gd.f ?_ | with_reducible refine Gd.dec (fun _ => ?_) (fun _ => ?_) | with_reducible refine Gd.beq (fun _ => ?_) (fun _ => ?_) | with_reducible refine Gd.bne (fun _ => ?_) (fun _ => ?_) | with_reducible refine Gd.not ?_ | refine Gd.t ?_ | refine Gd.f ?_ | with_reducible refine Gd.var (fun _ => ?_) (fun _ => ?_)) <;> first | (exfalso; omega) | skip) | with_reducible refine Sq.mk ?_ | ((with_reducible show Ld1 _ _ _); first | refine Ld1.h H ?_ | refine Ld1.rF ?_ | refine Ld1.r ?_) | ((with_reducible show Ld _ _ _ _); first | refine Ld.h H ?_ | refine Ld.r ?_) | ((with_reducible show Ix _ _ _ _ _); (first | refine Ix.h ?_ | refine Ix.ha ?_)) | (refine Al.hp H ?_; clear H; intro _ _ H _) | (refine St.h H ?_; clear H; intro _ H))
  refine Lp.g0 T.ok (σ := Nat) (fun i => [(14, .int .i64 (i : Int)), (11, .slice (some ⟨p, 0, none⟩) ((turnedF f).code.length + 2) ((turnedF f).code.length + 2)), (12, .slice A1 l1.length c1), (13, .int .i64 r1), (4, .pointer (some ⟨pf, 0, none⟩)), (9, .pointer (some ⟨pt, 0, none⟩)), (10, .pointer (some ⟨pg, 0, none⟩)), (1, .int .i64 at_), (2, .int .i64 slot), (3, .int .i64 state)])
    (fun i w' => i ≤ f.code.length ∧ Hp nw w w' [rk ints 1 A1 l1, bk pg 24 ((turnedF f).v (some ⟨p, 0, none⟩) ((turnedF f).code.length + 2)).cells.toList, bk p 35 ((f.code.take i ++ (turnedF f).code.drop i ++ [oddI 0, oddI 1]).flatMap Ins.enc),
      bk pt 24 ((turnedF f).v C d).cells.toList, rk Ins.enc 5 C (turnedF f).code, bk pf 24 (f.v A c).cells.toList]) (fun i _ => f.code.length - i) 0 rfl ⟨rfl, rfl, rfl, rfl, rfl, rfl, rfl, rfl, rfl, rfl, trivial⟩ ⟨Nat.zero_le _, H⟩ ?_
  clear H
  rintro i w5 ⟨hi, H⟩
  have hlp2 := turned_len f
  by_cases hlti : i < f.code.length
  · obtain ⟨x, hx⟩ : ∃ x, f.code[i]? = some x := ⟨_, List.getElem?_eq_getElem hlti⟩
    have hlp : (f.code.take i ++ (turnedF f).code.drop i ++ [oddI 0, oddI 1]).length = (turnedF f).code.length + 2 := by
      simp; omega
    have hrp := H.rdb 2 rfl (fun y _ => insE y)
    repeat' ((conv => whnf); first | (((with_reducible show Gd _ _ _); first | with_reducible refine Gd.t ?_ | with_reducible refine Gd.f ?_ | with_reducible refine Gd.dec (fun _ => ?_) (fun _ => ?_) | with_reducible refine Gd.beq (fun _ => ?_) (fun _ => ?_) | with_reducible refine Gd.bne (fun _ => ?_) (fun _ => ?_) | with_reducible refine Gd.not ?_ | refine Gd.t ?_ | refine Gd.f ?_ | with_reducible refine Gd.var (fun _ => ?_) (fun _ => ?_)) <;> first | (exfalso; omega) | skip) | with_reducible refine Sq.mk ?_ | ((with_reducible show Ld1 _ _ _); first | refine Ld1.h H ?_ | refine Ld1.rF ?_ | refine Ld1.r ?_) | ((with_reducible show Ld _ _ _ _); first | refine Ld.h H ?_ | refine Ld.r ?_) | ((with_reducible show Ix _ _ _ _ _); (first | refine Ix.h ?_ | refine Ix.ha ?_)) | (refine Al.hp H ?_; clear H; intro _ _ H _) | (refine St.h H ?_; clear H; intro _ H))
    refine St.el (x := x) (j := i) H (fun y _ => insE y) (insE x) (by rw [hlp]; omega) rfl ?_
    clear H hrp
    rintro w6 H
    rw [lay_set hlp2 hx] at H
    repeat' ((conv => whnf); first | (((with_reducible show Gd _ _ _); first | with_reducible refine Gd.t ?_ | with_reducible refine Gd.f ?_ | with_reducible refine Gd.dec (fun _ => ?_) (fun _ => ?_) | with_reducible refine Gd.beq (fun _ => ?_) (fun _ => ?_) | with_reducible refine Gd.bne (fun _ => ?_) (fun _ => ?_) | with_reducible refine Gd.not ?_ | refine Gd.t ?_ | refine Gd.f ?_ | with_reducible refine Gd.var (fun _ => ?_) (fun _ => ?_)) <;> first | (exfalso; omega) | skip) | with_reducible refine Sq.mk ?_ | ((with_reducible show Ld1 _ _ _); first | refine Ld1.h H ?_ | refine Ld1.rF ?_ | refine Ld1.r ?_) | ((with_reducible show Ld _ _ _ _); first | refine Ld.h H ?_ | refine Ld.r ?_) | ((with_reducible show Ix _ _ _ _ _); (first | refine Ix.h ?_ | refine Ix.ha ?_)) | (refine Al.hp H ?_; clear H; intro _ _ H _) | (refine St.h H ?_; clear H; intro _ H))
    exact ⟨i + 1, ⟨at_int (m := ((i + 1 : Nat) : Int)) rfl (w64 (by simp) (by omega) (by omega)), rfl, rfl, rfl, rfl, rfl, rfl, rfl, rfl, rfl, trivial⟩, rfl, ⟨by omega, H⟩, by omega⟩
  · have hi : i = f.code.length := by omega
    subst hi
    rw [List.take_length, List.drop_of_length_le (by omega), List.append_nil] at H
    rw [turned_v f (some ⟨p, 0, none⟩)] at H
    repeat' ((conv => whnf); first | (((with_reducible show Gd _ _ _); first | with_reducible refine Gd.t ?_ | with_reducible refine Gd.f ?_ | with_reducible refine Gd.dec (fun _ => ?_) (fun _ => ?_) | with_reducible refine Gd.beq (fun _ => ?_) (fun _ => ?_) | with_reducible refine Gd.bne (fun _ => ?_) (fun _ => ?_) | with_reducible refine Gd.not ?_ | refine Gd.t ?_ | refine Gd.f ?_ | with_reducible refine Gd.var (fun _ => ?_) (fun _ => ?_)) <;> first | (exfalso; omega) | skip) | with_reducible refine Sq.mk ?_ | ((with_reducible show Ld1 _ _ _); first | refine Ld1.h H ?_ | refine Ld1.rF ?_ | refine Ld1.r ?_) | ((with_reducible show Ld _ _ _ _); first | refine Ld.h H ?_ | refine Ld.r ?_) | ((with_reducible show Ix _ _ _ _ _); (first | refine Ix.h ?_ | refine Ix.ha ?_)) | (refine Al.hp H ?_; clear H; intro _ _ H _) | (refine St.h H ?_; clear H; intro _ H))
    ((conv => whnf); refine Cl.mk (Trail_c f (some ⟨p, 0, none⟩) _ at_ slot state _ (rd_pre (H.blk 2 rfl)) (RdS.from H.e hG)) ?_)
    rintro _ w6 ⟨A2, l2, c2, r2, rfl, hr2, e, hv2, hf2⟩
    replace H := H.fr0 (rk_new hr2 e hf2) (.inr rfl)
    clear hr2 e hf2
    repeat' (first | ((conv => whnf); first | (((with_reducible show Gd _ _ _); first | with_reducible refine Gd.t ?_ | with_reducible refine Gd.f ?_ | with_reducible refine Gd.dec (fun _ => ?_) (fun _ => ?_) | with_reducible refine Gd.beq (fun _ => ?_) (fun _ => ?_) | with_reducible refine Gd.bne (fun _ => ?_) (fun _ => ?_) | with_reducible refine Gd.not ?_ | refine Gd.t ?_ | refine Gd.f ?_ | with_reducible refine Gd.var (fun _ => ?_) (fun _ => ?_)) <;> first | (exfalso; omega) | skip) | with_reducible refine Sq.mk ?_ | ((with_reducible show Ld1 _ _ _); first | refine Ld1.h H ?_ | refine Ld1.rF ?_ | refine Ld1.r ?_) | ((with_reducible show Ld _ _ _ _); first | refine Ld.h H ?_ | refine Ld.r ?_) | ((with_reducible show Ix _ _ _ _ _); (first | refine Ix.h ?_ | refine Ix.ha ?_)) | (refine Al.hp H ?_; clear H; intro _ _ H _) | (refine St.h H ?_; clear H; intro _ H)) | (((conv => whnf); refine Cl.mk (Trails_c (turnedF f) C _ at_ slot state A1 c1 l1 r1 _ (H.rdr 5 rfl) (H.rdr 1 rfl) hv1) ?_); rintro _ _ ⟨rfl, hx⟩; replace H := H.ext hx; clear hx) | (((conv => whnf); refine Cl.mk (Trails_c f A _ at_ slot state A2 c2 l2 r2 _ (RdS.from H.e hA) (H.rdr 0 rfl) hv2) ?_); rintro _ _ ⟨rfl, hx⟩; replace H := H.ext hx; clear hx))
    exact ⟨rfl, H.e⟩
theorem progTrail_c (f : Fn) (A : Option Addr) (c : Nat) (at_ slot state : Int) (w : World) (hA : RdC w A f.code) (hG : RdG w) (hl : f.code.length ≤ 1048576) :
    Cl Tryd.prog 4 #[f.v A c, .int .i64 at_, .int .i64 slot, .int .i64 state] w (fun v w' => v = .bool true ∧ Ext w w') (fun _ _ => False) := by
  refine calls_ex (args := [f.v A c, .int .i64 at_, .int .i64 slot, .int .i64 state]) T.ok Tryd.func4 rfl rfl rfl rfl ?_
  have H := Hp.begin nw w
  refine Sq.mk ?_
  ((conv => whnf); refine Al.hp H ?_; clear H; intro pf _ H _)
  repeat' ((conv => whnf); first | (((with_reducible show Gd _ _ _); first | with_reducible refine Gd.t ?_ | with_reducible refine Gd.f ?_ | with_reducible refine Gd.dec (fun _ => ?_) (fun _ => ?_) | with_reducible refine Gd.beq (fun _ => ?_) (fun _ => ?_) | with_reducible refine Gd.bne (fun _ => ?_) (fun _ => ?_) | with_reducible refine Gd.not ?_ | refine Gd.t ?_ | refine Gd.f ?_ | with_reducible refine Gd.var (fun _ => ?_) (fun _ => ?_)) <;> first | (exfalso; omega) | skip) | with_reducible refine Sq.mk ?_ | ((with_reducible show Ld1 _ _ _); first | refine Ld1.h H ?_ | refine Ld1.rF ?_ | refine Ld1.r ?_) | ((with_reducible show Ld _ _ _ _); first | refine Ld.h H ?_ | refine Ld.r ?_) | ((with_reducible show Ix _ _ _ _ _); (first | refine Ix.h ?_ | refine Ix.ha ?_)) | (refine Al.hp H ?_; clear H; intro _ _ H _) | (refine St.h H ?_; clear H; intro _ H))
  ((conv => whnf); refine Cl.mk (spare_c f A c _ (RdS.from H.e hA) hl) ?_)
  rintro _ w3 ⟨p, rfl, hplo, hbp, e⟩
  replace H := H.fr0 (Hp.one (Tch.of_ext e) (bk_ok hbp) (fun k hk => .inr (by subst hk; exact hplo))) (.inl rfl)
  clear hbp e hplo
  ((conv => whnf); refine Al.hp H ?_; clear H; intro pg _ H _)
  repeat' ((conv => whnf); first | (((with_reducible show Gd _ _ _); first | with_reducible refine Gd.t ?_ | with_reducible refine Gd.f ?_ | with_reducible refine Gd.dec (fun _ => ?_) (fun _ => ?_) | with_reducible refine Gd.beq (fun _ => ?_) (fun _ => ?_) | with_reducible refine Gd.bne (fun _ => ?_) (fun _ => ?_) | with_reducible refine Gd.not ?_ | refine Gd.t ?_ | refine Gd.f ?_ | with_reducible refine Gd.var (fun _ => ?_) (fun _ => ?_)) <;> first | (exfalso; omega) | skip) | with_reducible refine Sq.mk ?_ | ((with_reducible show Ld1 _ _ _); first | refine Ld1.h H ?_ | refine Ld1.rF ?_ | refine Ld1.r ?_) | ((with_reducible show Ld _ _ _ _); first | refine Ld.h H ?_ | refine Ld.r ?_) | ((with_reducible show Ix _ _ _ _ _); (first | refine Ix.h ?_ | refine Ix.ha ?_)) | (refine Al.hp H ?_; clear H; intro _ _ H _) | (refine St.h H ?_; clear H; intro _ H))
  ((conv => whnf); refine Cl.mk (Trail_c f (some ⟨p, 0, none⟩) _ at_ slot state _ (rd_pre (H.blk 1 rfl)) (RdS.from H.e hG)) ?_)
  rintro _ w4 ⟨A1, l1, c1, r1, rfl, hr1, e, hv1, hf1⟩
  replace H := H.fr0 (rk_new hr1 e hf1) (.inr rfl)
  clear hr1 e hf1
  repeat' ((conv => whnf); first | (((with_reducible show Gd _ _ _); first | with_reducible refine Gd.t ?_ | with_reducible refine Gd.f ?_ | with_reducible refine Gd.dec (fun _ => ?_) (fun _ => ?_) | with_reducible refine Gd.beq (fun _ => ?_) (fun _ => ?_) | with_reducible refine Gd.bne (fun _ => ?_) (fun _ => ?_) | with_reducible refine Gd.not ?_ | refine Gd.t ?_ | refine Gd.f ?_ | with_reducible refine Gd.var (fun _ => ?_) (fun _ => ?_)) <;> first | (exfalso; omega) | skip) | with_reducible refine Sq.mk ?_ | ((with_reducible show Ld1 _ _ _); first | refine Ld1.h H ?_ | refine Ld1.rF ?_ | refine Ld1.r ?_) | ((with_reducible show Ld _ _ _ _); first | refine Ld.h H ?_ | refine Ld.r ?_) | ((with_reducible show Ix _ _ _ _ _); (first | refine Ix.h ?_ | refine Ix.ha ?_)) | (refine Al.hp H ?_; clear H; intro _ _ H _) | (refine St.h H ?_; clear H; intro _ H))
  have hA4 := RdS.from H.e hA
  have hrp := rd_of_code (H.blk 2 rfl)
  have hrf : ∀ w', Ext w4 w' → RdC w' (some ⟨p, 0, none⟩) f.code := fun w' e => RdS.from e (rd_pre (H.blk 2 rfl))
  have hlp : (f.code ++ [oddI 0, oddI 1]).length = f.code.length + 2 := by simp
  have hp0 : (f.code ++ [oddI 0, oddI 1])[f.code.length]? = some (oddI 0) := by simp
  have hp1' : (f.code ++ [oddI 0, oddI 1])[f.code.length + 1]? = some (oddI 1) := by simp
  have hw1 : IntKind.i64.wrap ((f.code.length : Int) + 1) = ((f.code.length + 1 : Nat) : Int) := w64 (by omega) (by omega) (by omega)
  ((conv => whnf); refine Dr.quiet T.ok mixed (by kernel_rfl) (fun W hW => ?_))
  repeat' (first | ((conv => whnf); first | (((with_reducible show Gd _ _ _); first | with_reducible refine Gd.t ?_ | with_reducible refine Gd.f ?_ | with_reducible refine Gd.dec (fun _ => ?_) (fun _ => ?_) | with_reducible refine Gd.beq (fun _ => ?_) (fun _ => ?_) | with_reducible refine Gd.bne (fun _ => ?_) (fun _ => ?_) | with_reducible refine Gd.not ?_ | refine Gd.t ?_ | refine Gd.f ?_ | with_reducible refine Gd.var (fun _ => ?_) (fun _ => ?_)) <;> first | (exfalso; omega) | skip) | ((with_reducible show QLd1 _ _ _); first | refine QLd1.h hW H ?_ | refine QLd1.rF hW ?_ | refine QLd1.r hW ?_) | ((with_reducible show QLd _ _ _ _); first | refine QLd.h hW H ?_ | refine QLd.r hW ?_) | ((with_reducible show Ix _ _ _ _ _); (first | refine Ix.h ?_ | refine Ix.ha ?_))) | ((conv => whnf); refine QCl.mk hW (fun _ ee => Cl.mk (sameFunc_self f (some ⟨p, 0, none⟩) A _ _ _ (hrf _ ee) (RdS.from ee hA4) hl) (fun _ _ h => h)) ?_) | ((conv => whnf); refine QCl.mk hW (fun _ ee => Cl.mk (odd_c 0 _ (by decide)) (fun _ _ h => h)) ?_) | ((conv => whnf); refine QCl.mk hW (fun _ ee => Cl.mk (odd_c 1 _ (by decide)) (fun _ _ h => h)) ?_))
  clear hrp hrf
  (intro _ eT; replace H := H.ext eT; clear hW eT)
  repeat' (first | ((conv => whnf); first | (((with_reducible show Gd _ _ _); first | with_reducible refine Gd.t ?_ | with_reducible refine Gd.f ?_ | with_reducible refine Gd.dec (fun _ => ?_) (fun _ => ?_) | with_reducible refine Gd.beq (fun _ => ?_) (fun _ => ?_) | with_reducible refine Gd.bne (fun _ => ?_) (fun _ => ?_) | with_reducible refine Gd.not ?_ | refine Gd.t ?_ | refine Gd.f ?_ | with_reducible refine Gd.var (fun _ => ?_) (fun _ => ?_)) <;> first | (exfalso; omega) | skip) | with_reducible refine Sq.mk ?_ | ((with_reducible show Ld1 _ _ _); first | refine Ld1.h H ?_ | refine Ld1.rF ?_ | refine Ld1.r ?_) | ((with_reducible show Ld _ _ _ _); first | refine Ld.h H ?_ | refine Ld.r ?_) | ((with_reducible show Ix _ _ _ _ _); (first | refine Ix.h ?_ | refine Ix.ha ?_)) | (refine Al.hp H ?_; clear H; intro _ _ H _) | (refine St.h H ?_; clear H; intro _ H)) | (((conv => whnf); refine Cl.mk (Trails_c f A _ at_ slot state A1 c1 l1 r1 _ (RdS.from H.e hA) (H.rdr 0 rfl) hv1) ?_); rintro _ _ ⟨rfl, hx⟩; replace H := H.ext hx; clear hx) | (((conv => whnf); refine Cl.mk (trailPlaced_c f A _ at_ slot state _ (RdS.from H.e hA) (RdS.from H.e hG) hl) ?_); rintro _ _ ⟨rfl, hx⟩; replace H := H.ext hx; clear hx))
  exact ⟨rfl, H.e⟩
end Go.Proofs.YtbbadmlekagloaaDoor
