/- layer prog: the reference's Check; own work. -/
import Derived.Test.YtbbadmlekagloaaDoorPhD
namespace Go.Proofs.YtbbadmlekagloaaDoor
open Go Go.Sh
set_option linter.unusedVariables false
set_option linter.unusedSimpArgs false
attribute [local irreducible] Blk Ext RdS
theorem ins1_go {fs : List Fn} {f : Fn} (h : fs1 (insG fs f) f.code 0 = none) : ins1 fs f = if endsB f then none else some (53, f.code.length - 1) := by
  rw [ins1, h]
set_option maxHeartbeats 1000000 in
theorem rCheck_c (B : Option Addr) (l : List FE) (d : Nat) (w : World) (hB : RdP w B l) :
    Cl Tryd.prog 28 #[pv B l.length d] w (fun v w' => v = fvV (checkL (fns l)) ∧ Ext w w') (fun _ _ => False) := by
  refine calls_ex (args := [pv B l.length d]) T.ok Tryd.func28 rfl rfl rfl rfl ?_
  have H := Hp.begin nw w
  have hfl := fns_len l
  refine Sq.mk ?_
  ((conv => whnf); refine Al.hp H ?_; clear H; intro pp _ H _)
  ((conv => whnf); refine Al.hp H ?_; clear H; intro pr _ H _)
  repeat' ((conv => whnf); first | (((with_reducible show Gd _ _ _); first | with_reducible refine Gd.t ?_ | with_reducible refine Gd.f ?_ | with_reducible refine Gd.dec (fun _ => ?_) (fun _ => ?_) | with_reducible refine Gd.beq (fun _ => ?_) (fun _ => ?_) | with_reducible refine Gd.bne (fun _ => ?_) (fun _ => ?_) | with_reducible refine Gd.not ?_ | refine Gd.t ?_ | refine Gd.f ?_ | with_reducible refine Gd.var (fun _ => ?_) (fun _ => ?_)) <;> first | (exfalso; omega) | skip) | with_reducible refine Sq.mk ?_ | ((with_reducible show Ld1 _ _ _); first | refine Ld1.h H ?_ | refine Ld1.rF ?_ | refine Ld1.r ?_) | ((with_reducible show Ld _ _ _ _); first | refine Ld.h H ?_ | refine Ld.r ?_) | ((with_reducible show Ix _ _ _ _ _); (first | refine Ix.h ?_ | refine Ix.ha ?_)) | (refine Al.hp H ?_; clear H; intro _ _ H _) | (refine St.h H ?_; clear H; intro _ H))
  · refine ⟨?_, H.e⟩
    rw [checkL, if_pos (.inl (by omega))]; rfl
  · refine ⟨?_, H.e⟩
    rw [checkL, if_pos (.inr (by omega))]; rfl
  -- the shapes
  have hlo : ¬ ((fns l).length < 1 ∨ 32 < (fns l).length) := by omega
  refine Lp.g0 T.ok (σ := Nat) (fun i => [(3, .int .i64 (i : Int)), (1, .pointer (some ⟨pp, 0, none⟩)), (2, .pointer (some ⟨pr, 0, none⟩))])
    (fun i w' => i ≤ l.length ∧ fs1 (fun _ f => if shapedB f then none else some ()) (fns l) 0 = fs1 (fun _ f => if shapedB f then none else some ()) ((fns l).drop i) i ∧ Hp nw w w' [bk pr 48 (T.t48.zero.cells.toList), bk pp 46 (pv B l.length d).cells.toList]) (fun i _ => l.length - i) 0 rfl ⟨rfl, rfl, rfl, trivial⟩ ⟨Nat.zero_le _, rfl, H⟩ ?_
  clear H
  rintro i w5 ⟨hi, hfs, H⟩
  by_cases hlt : i < l.length
  · obtain ⟨x, hx⟩ : ∃ x, l[i]? = some x := ⟨_, List.getElem?_eq_getElem hlt⟩
    have hfx := fns_at hx
    have hB5 := RdS.from H.e hB.top
    repeat' (first | ((conv => whnf); first | (((with_reducible show Gd _ _ _); first | with_reducible refine Gd.t ?_ | with_reducible refine Gd.f ?_ | with_reducible refine Gd.dec (fun _ => ?_) (fun _ => ?_) | with_reducible refine Gd.beq (fun _ => ?_) (fun _ => ?_) | with_reducible refine Gd.bne (fun _ => ?_) (fun _ => ?_) | with_reducible refine Gd.not ?_ | refine Gd.t ?_ | refine Gd.f ?_ | with_reducible refine Gd.var (fun _ => ?_) (fun _ => ?_)) <;> first | (exfalso; omega) | skip) | with_reducible refine Sq.mk ?_ | ((with_reducible show Ld1 _ _ _); first | refine Ld1.h H ?_ | refine Ld1.rF ?_ | refine Ld1.r ?_) | ((with_reducible show Ld _ _ _ _); first | refine Ld.h H ?_ | refine Ld.r ?_) | ((with_reducible show Ix _ _ _ _ _); (first | refine Ix.h ?_ | refine Ix.ha ?_)) | (refine Al.hp H ?_; clear H; intro _ _ H _) | (refine St.h H ?_; clear H; intro _ H)) | (((conv => whnf); refine Cl.mk (shaped_c x.1 x.2.1 x.2.2 _) ?_); rintro _ _ ⟨rfl, hx⟩; replace H := H.ext hx; clear hx))
    · have hb : shapedB x.1 = true := by assumption
      rw [fs1_no hfx (by simp only [hb]; rfl)] at hfs
      exact ⟨i + 1, ⟨at_int (m := ((i + 1 : Nat) : Int)) rfl (w64 (by simp) (by omega) (by omega)), rfl, rfl, trivial⟩, rfl, ⟨by omega, hfs, H⟩, by omega⟩
    · have hb : shapedB x.1 = false := by assumption
      rw [fs1_yes hfx (b := ()) (by simp only [hb]; rfl)] at hfs
      refine ⟨?_, H.e⟩
      rw [checkL, if_neg hlo]; simp only [hfs]; rfl
  have hi : i = l.length := by omega
  subst hi
  rw [fs1_end (by omega)] at hfs
  have hsh := shaped_all hfs
  have hC1 : checkL (fns l) = match fs1 (fun _ f => ins1 (fns l) f) (fns l) 0 with
      | some (i, e, k) => (e, i, k)
      | none => match fs1 (fun _ f => slot1 f) (fns l) 0 with
        | some (i, e, k) => (e, i, k)
        | none => (0, 0, 0) := by rw [checkL, if_neg hlo]; simp only [hfs]; rfl
  clear hlo hfs hlt hi
  repeat' ((conv => whnf); first | (((with_reducible show Gd _ _ _); first | with_reducible refine Gd.t ?_ | with_reducible refine Gd.f ?_ | with_reducible refine Gd.dec (fun _ => ?_) (fun _ => ?_) | with_reducible refine Gd.beq (fun _ => ?_) (fun _ => ?_) | with_reducible refine Gd.bne (fun _ => ?_) (fun _ => ?_) | with_reducible refine Gd.not ?_ | refine Gd.t ?_ | refine Gd.f ?_ | with_reducible refine Gd.var (fun _ => ?_) (fun _ => ?_)) <;> first | (exfalso; omega) | skip) | with_reducible refine Sq.mk ?_ | ((with_reducible show Ld1 _ _ _); first | refine Ld1.h H ?_ | refine Ld1.rF ?_ | refine Ld1.r ?_) | ((with_reducible show Ld _ _ _ _); first | refine Ld.h H ?_ | refine Ld.r ?_) | ((with_reducible show Ix _ _ _ _ _); (first | refine Ix.h ?_ | refine Ix.ha ?_)) | (refine Al.hp H ?_; clear H; intro _ _ H _) | (refine St.h H ?_; clear H; intro _ H))
  -- the instructions
  refine Lp.g0 T.ok (σ := Nat) (fun i => [(5, .int .i64 (i : Int)), (1, .pointer (some ⟨pp, 0, none⟩)), (2, .pointer (some ⟨pr, 0, none⟩))])
    (fun i w' => i ≤ l.length ∧ fs1 (fun _ f => ins1 (fns l) f) (fns l) 0 = fs1 (fun _ f => ins1 (fns l) f) ((fns l).drop i) i ∧ Hp nw w w' [bk pr 48 (T.t48.zero.cells.toList), bk pp 46 (pv B l.length d).cells.toList]) (fun i _ => l.length - i) 0 rfl ⟨rfl, rfl, rfl, trivial⟩ ⟨Nat.zero_le _, rfl, H⟩ ?_
  clear H
  rintro i w6 ⟨hi, hfs, H⟩
  by_cases hlt : i < l.length
  · obtain ⟨x, hx⟩ : ∃ x, l[i]? = some x := ⟨_, List.getElem?_eq_getElem hlt⟩
    have hxm := List.mem_of_getElem? hx
    have hfx := fns_at hx
    have hB5 := RdS.from H.e hB.top
    have hshx := hsh x hxm
    obtain ⟨hl1, hl2⟩ := shaped_len hshx
    have hrx : 1 ≤ x.1.regs ∧ x.1.regs ≤ 16 := by simp only [shapedB, decide_eq_true_eq] at hshx; omega
    have hwl : IntKind.i64.wrap ((x.1.code.length : Int) - 1) = ((x.1.code.length - 1 : Nat) : Int) := w64 (by omega) (by omega) (by omega)
    repeat' ((conv => whnf); first | (((with_reducible show Gd _ _ _); first | with_reducible refine Gd.t ?_ | with_reducible refine Gd.f ?_ | with_reducible refine Gd.dec (fun _ => ?_) (fun _ => ?_) | with_reducible refine Gd.beq (fun _ => ?_) (fun _ => ?_) | with_reducible refine Gd.bne (fun _ => ?_) (fun _ => ?_) | with_reducible refine Gd.not ?_ | refine Gd.t ?_ | refine Gd.f ?_ | with_reducible refine Gd.var (fun _ => ?_) (fun _ => ?_)) <;> first | (exfalso; omega) | skip) | with_reducible refine Sq.mk ?_ | ((with_reducible show Ld1 _ _ _); first | refine Ld1.h H ?_ | refine Ld1.rF ?_ | refine Ld1.r ?_) | ((with_reducible show Ld _ _ _ _); first | refine Ld.h H ?_ | refine Ld.r ?_) | ((with_reducible show Ix _ _ _ _ _); (first | refine Ix.h ?_ | refine Ix.ha ?_)) | (refine St.h H ?_; clear H; intro _ H))
    ((conv => whnf); refine Al.hp H ?_; clear H; intro pc _ H _)
    repeat' ((conv => whnf); first | (((with_reducible show Gd _ _ _); first | with_reducible refine Gd.t ?_ | with_reducible refine Gd.f ?_ | with_reducible refine Gd.dec (fun _ => ?_) (fun _ => ?_) | with_reducible refine Gd.beq (fun _ => ?_) (fun _ => ?_) | with_reducible refine Gd.bne (fun _ => ?_) (fun _ => ?_) | with_reducible refine Gd.not ?_ | refine Gd.t ?_ | refine Gd.f ?_ | with_reducible refine Gd.var (fun _ => ?_) (fun _ => ?_)) <;> first | (exfalso; omega) | skip) | with_reducible refine Sq.mk ?_ | ((with_reducible show Ld1 _ _ _); first | refine Ld1.h H ?_ | refine Ld1.rF ?_ | refine Ld1.r ?_) | ((with_reducible show Ld _ _ _ _); first | refine Ld.h H ?_ | refine Ld.r ?_) | ((with_reducible show Ix _ _ _ _ _); (first | refine Ix.h ?_ | refine Ix.ha ?_)) | (refine Al.hp H ?_; clear H; intro _ _ H _) | (refine St.h H ?_; clear H; intro _ H))
    refine Lp.g0 T.ok (σ := Nat) (fun k => [(7, .int .i64 (k : Int)), (6, .pointer (some ⟨pc, 0, none⟩)), (5, .int .i64 (i : Int)), (1, .pointer (some ⟨pp, 0, none⟩)), (2, .pointer (some ⟨pr, 0, none⟩))])
      (fun k w' => k ≤ x.1.code.length ∧ fs1 (insG (fns l) x.1) x.1.code 0 = fs1 (insG (fns l) x.1) (x.1.code.drop k) k ∧ Hp nw w w' [bk pc 24 (x.1.v x.2.1 x.2.2).cells.toList, bk pr 48 (T.t48.zero.cells.toList), bk pp 46 (pv B l.length d).cells.toList]) (fun k _ => x.1.code.length - k) 0 rfl ⟨rfl, rfl, rfl, rfl, rfl, trivial⟩ ⟨Nat.zero_le _, rfl, H⟩ ?_
    clear H hB5
    rintro k w7 ⟨hk, hfk, H⟩
    by_cases hkl : k < x.1.code.length
    · obtain ⟨y, hy⟩ : ∃ y, x.1.code[k]? = some y := ⟨_, List.getElem?_eq_getElem hkl⟩
      have hA7 := RdS.from H.e (hB.code x hxm)
      have hB7 := RdS.from H.e hB.top
      repeat' ((conv => whnf); first | (((with_reducible show Gd _ _ _); first | with_reducible refine Gd.t ?_ | with_reducible refine Gd.f ?_ | with_reducible refine Gd.dec (fun _ => ?_) (fun _ => ?_) | with_reducible refine Gd.beq (fun _ => ?_) (fun _ => ?_) | with_reducible refine Gd.bne (fun _ => ?_) (fun _ => ?_) | with_reducible refine Gd.not ?_ | refine Gd.t ?_ | refine Gd.f ?_ | with_reducible refine Gd.var (fun _ => ?_) (fun _ => ?_)) <;> first | (exfalso; omega) | skip) | with_reducible refine Sq.mk ?_ | ((with_reducible show Ld1 _ _ _); first | refine Ld1.h H ?_ | refine Ld1.rF ?_ | refine Ld1.r ?_) | ((with_reducible show Ld _ _ _ _); first | refine Ld.h H ?_ | refine Ld.r ?_) | ((with_reducible show Ix _ _ _ _ _); (first | refine Ix.h ?_ | refine Ix.ha ?_)) | (refine Al.hp H ?_; clear H; intro _ _ H _) | (refine St.h H ?_; clear H; intro _ H))
      ((conv => whnf); refine Dr.quiet T.ok mixed (by kernel_rfl) (fun W hW => ?_))
      repeat' (first | ((conv => whnf); first | (((with_reducible show Gd _ _ _); first | with_reducible refine Gd.t ?_ | with_reducible refine Gd.f ?_ | with_reducible refine Gd.dec (fun _ => ?_) (fun _ => ?_) | with_reducible refine Gd.beq (fun _ => ?_) (fun _ => ?_) | with_reducible refine Gd.bne (fun _ => ?_) (fun _ => ?_) | with_reducible refine Gd.not ?_ | refine Gd.t ?_ | refine Gd.f ?_ | with_reducible refine Gd.var (fun _ => ?_) (fun _ => ?_)) <;> first | (exfalso; omega) | skip) | ((with_reducible show QLd1 _ _ _); first | refine QLd1.h hW H ?_ | refine QLd1.rF hW ?_ | refine QLd1.r hW ?_) | ((with_reducible show QLd _ _ _ _); first | refine QLd.h hW H ?_ | refine QLd.r hW ?_) | ((with_reducible show Ix _ _ _ _ _); (first | refine Ix.h ?_ | refine Ix.ha ?_))) | ((conv => whnf); refine QCl.mk hW (fun _ ee => Cl.mk (alone_c x.1 x.2.1 x.2.2 y _) (fun _ _ h => h)) ?_) | ((conv => whnf); refine QCl.mk hW (fun _ ee => Cl.mk (called_c x.1 x.2.1 x.2.2 y B l d _ (RdS.from ee hB7) hrx) (fun _ _ h => h)) ?_))
      all_goals
        (intro _ eT; replace H := H.ext eT; clear hW eT)
        repeat' ((conv => whnf); first | (((with_reducible show Gd _ _ _); first | with_reducible refine Gd.t ?_ | with_reducible refine Gd.f ?_ | with_reducible refine Gd.dec (fun _ => ?_) (fun _ => ?_) | with_reducible refine Gd.beq (fun _ => ?_) (fun _ => ?_) | with_reducible refine Gd.bne (fun _ => ?_) (fun _ => ?_) | with_reducible refine Gd.not ?_ | refine Gd.t ?_ | refine Gd.f ?_ | with_reducible refine Gd.var (fun _ => ?_) (fun _ => ?_)) <;> first | (exfalso; omega) | skip) | with_reducible refine Sq.mk ?_ | ((with_reducible show Ld1 _ _ _); first | refine Ld1.h H ?_ | refine Ld1.rF ?_ | refine Ld1.r ?_) | ((with_reducible show Ld _ _ _ _); first | refine Ld.h H ?_ | refine Ld.r ?_) | ((with_reducible show Ix _ _ _ _ _); (first | refine Ix.h ?_ | refine Ix.ha ?_)) | (refine Al.hp H ?_; clear H; intro _ _ H _) | (refine St.h H ?_; clear H; intro _ H))
      · have hg : insG (fns l) x.1 k y = none := by
          rw [insG, (by assumption : aloneB x.1 y = true), (by assumption : calledB (fns l) x.1 y = true)]; rfl
        rw [fs1_no hy hg] at hfk
        exact ⟨k + 1, ⟨at_int rfl (w64 (by simp) (by omega) (by omega)), rfl, rfl, rfl, rfl, trivial⟩, rfl, ⟨by omega, hfk, H⟩, by omega⟩
      all_goals
        have hg : insG (fns l) x.1 k y = some () := by
          first | rw [insG, (by assumption : aloneB x.1 y = true), (by assumption : calledB (fns l) x.1 y = false)]; rfl | rw [insG, (by assumption : aloneB x.1 y = false)]; rfl
        rw [fs1_yes hy hg] at hfk
        rw [fs1_yes hfx (by rw [ins1, hfk])] at hfs
        exact ⟨by rw [hC1]; simp only [hfs]; rfl, H.e⟩
    · have hk : k = x.1.code.length := by omega
      subst hk
      rw [fs1_end (Nat.le_refl _)] at hfk
      have hi1 := ins1_go hfk
      repeat' (first | ((conv => whnf); first | (((with_reducible show Gd _ _ _); first | with_reducible refine Gd.t ?_ | with_reducible refine Gd.f ?_ | with_reducible refine Gd.dec (fun _ => ?_) (fun _ => ?_) | with_reducible refine Gd.beq (fun _ => ?_) (fun _ => ?_) | with_reducible refine Gd.bne (fun _ => ?_) (fun _ => ?_) | with_reducible refine Gd.not ?_ | refine Gd.t ?_ | refine Gd.f ?_ | with_reducible refine Gd.var (fun _ => ?_) (fun _ => ?_)) <;> first | (exfalso; omega) | skip) | with_reducible refine Sq.mk ?_ | ((with_reducible show Ld1 _ _ _); first | refine Ld1.h H ?_ | refine Ld1.rF ?_ | refine Ld1.r ?_) | ((with_reducible show Ld _ _ _ _); first | refine Ld.h H ?_ | refine Ld.r ?_) | ((with_reducible show Ix _ _ _ _ _); (first | refine Ix.h ?_ | refine Ix.ha ?_)) | (refine Al.hp H ?_; clear H; intro _ _ H _) | (refine St.h H ?_; clear H; intro _ H)) | (((conv => whnf); refine Cl.mk (ends_c x.1 x.2.1 x.2.2 _ (RdS.from H.e (hB.code x hxm)) hl1 hl2) ?_); rintro _ _ ⟨rfl, hx⟩; replace H := H.ext hx; clear hx))
      · rw [fs1_no hfx (by rw [hi1, if_pos (by assumption)])] at hfs
        exact ⟨i + 1, ⟨at_int (m := ((i + 1 : Nat) : Int)) rfl (w64 (by simp) (by omega) (by omega)), rfl, rfl, trivial⟩, rfl, ⟨by omega, hfs, H.d0⟩, by omega⟩
      · rw [(by assumption : endsB x.1 = false)] at hi1
        rw [fs1_yes hfx hi1] at hfs
        exact ⟨by rw [hC1]; simp only [hfs]; rw [hwl]; rfl, H.e⟩
  have hi : i = l.length := by omega
  subst hi
  rw [fs1_end (by omega)] at hfs
  have hsd := all_sound hsh hfs
  have hC2 : checkL (fns l) = match fs1 (fun _ f => slot1 f) (fns l) 0 with
        | some (i, e, k) => (e, i, k)
        | none => (0, 0, 0) := by rw [hC1]; simp only [hfs]
  clear hC1 hfs hlt hi
  repeat' ((conv => whnf); first | (((with_reducible show Gd _ _ _); first | with_reducible refine Gd.t ?_ | with_reducible refine Gd.f ?_ | with_reducible refine Gd.dec (fun _ => ?_) (fun _ => ?_) | with_reducible refine Gd.beq (fun _ => ?_) (fun _ => ?_) | with_reducible refine Gd.bne (fun _ => ?_) (fun _ => ?_) | with_reducible refine Gd.not ?_ | refine Gd.t ?_ | refine Gd.f ?_ | with_reducible refine Gd.var (fun _ => ?_) (fun _ => ?_)) <;> first | (exfalso; omega) | skip) | with_reducible refine Sq.mk ?_ | ((with_reducible show Ld1 _ _ _); first | refine Ld1.h H ?_ | refine Ld1.rF ?_ | refine Ld1.r ?_) | ((with_reducible show Ld _ _ _ _); first | refine Ld.h H ?_ | refine Ld.r ?_) | ((with_reducible show Ix _ _ _ _ _); (first | refine Ix.h ?_ | refine Ix.ha ?_)) | (refine Al.hp H ?_; clear H; intro _ _ H _) | (refine St.h H ?_; clear H; intro _ H))
  -- the slots
  refine Lp.g0 T.ok (σ := Nat) (fun i => [(9, .int .i64 (i : Int)), (1, .pointer (some ⟨pp, 0, none⟩)), (2, .pointer (some ⟨pr, 0, none⟩))])
    (fun i w' => i ≤ l.length ∧ fs1 (fun _ f => slot1 f) (fns l) 0 = fs1 (fun _ f => slot1 f) ((fns l).drop i) i ∧ Hp nw w w' [bk pr 48 (T.t48.zero.cells.toList), bk pp 46 (pv B l.length d).cells.toList]) (fun i _ => l.length - i) 0 rfl ⟨rfl, rfl, rfl, trivial⟩ ⟨Nat.zero_le _, rfl, H⟩ ?_
  clear H
  rintro i w8 ⟨hi, hfs, H⟩
  by_cases hlt : i < l.length
  · obtain ⟨x, hx⟩ : ∃ x, l[i]? = some x := ⟨_, List.getElem?_eq_getElem hlt⟩
    have hxm := List.mem_of_getElem? hx
    have hfx := fns_at hx
    have hB5 := RdS.from H.e hB.top
    have hshx := hsh x hxm
    have hS := hsd x hxm
    obtain ⟨hl1, hl2⟩ := shaped_len hshx
    obtain ⟨m, hm, hm8⟩ := slots_nat hshx
    have hmt : x.1.slots.toNat = m := by omega
    repeat' ((conv => whnf); first | (((with_reducible show Gd _ _ _); first | with_reducible refine Gd.t ?_ | with_reducible refine Gd.f ?_ | with_reducible refine Gd.dec (fun _ => ?_) (fun _ => ?_) | with_reducible refine Gd.beq (fun _ => ?_) (fun _ => ?_) | with_reducible refine Gd.bne (fun _ => ?_) (fun _ => ?_) | with_reducible refine Gd.not ?_ | refine Gd.t ?_ | refine Gd.f ?_ | with_reducible refine Gd.var (fun _ => ?_) (fun _ => ?_)) <;> first | (exfalso; omega) | skip) | with_reducible refine Sq.mk ?_ | ((with_reducible show Ld1 _ _ _); first | refine Ld1.h H ?_ | refine Ld1.rF ?_ | refine Ld1.r ?_) | ((with_reducible show Ld _ _ _ _); first | refine Ld.h H ?_ | refine Ld.r ?_) | ((with_reducible show Ix _ _ _ _ _); (first | refine Ix.h ?_ | refine Ix.ha ?_)) | (refine St.h H ?_; clear H; intro _ H))
    ((conv => whnf); refine Al.hp H ?_; clear H; intro pc _ H _)
    repeat' ((conv => whnf); first | (((with_reducible show Gd _ _ _); first | with_reducible refine Gd.t ?_ | with_reducible refine Gd.f ?_ | with_reducible refine Gd.dec (fun _ => ?_) (fun _ => ?_) | with_reducible refine Gd.beq (fun _ => ?_) (fun _ => ?_) | with_reducible refine Gd.bne (fun _ => ?_) (fun _ => ?_) | with_reducible refine Gd.not ?_ | refine Gd.t ?_ | refine Gd.f ?_ | with_reducible refine Gd.var (fun _ => ?_) (fun _ => ?_)) <;> first | (exfalso; omega) | skip) | with_reducible refine Sq.mk ?_ | ((with_reducible show Ld1 _ _ _); first | refine Ld1.h H ?_ | refine Ld1.rF ?_ | refine Ld1.r ?_) | ((with_reducible show Ld _ _ _ _); first | refine Ld.h H ?_ | refine Ld.r ?_) | ((with_reducible show Ix _ _ _ _ _); (first | refine Ix.h ?_ | refine Ix.ha ?_)) | (refine Al.hp H ?_; clear H; intro _ _ H _) | (refine St.h H ?_; clear H; intro _ H))
    clear hB5
    ((conv => whnf); refine Cl.mk (Flow_yes x.1 x.2.1 x.2.2 m _ (RdS.from H.e (hB.code x hxm)) hS hm hm8) ?_)
    rintro _ w9 ⟨p, ps, rfl, hpl2, hM, e⟩
    replace H := H.fr0 (mx_new hM e) (.inl rfl)
    clear hM e
    obtain ⟨bb, H⟩ : ∃ bb, Hp nw w w9 [mxk bb p x.1.code.length m ps (flwG x.1), bk pc 24 (x.1.v x.2.1 x.2.2).cells.toList, bk pr 48 (T.t48.zero.cells.toList), bk pp 46 (pv B l.length d).cells.toList] := ⟨_, H⟩
    repeat' ((conv => whnf); first | (((with_reducible show Gd _ _ _); first | with_reducible refine Gd.t ?_ | with_reducible refine Gd.f ?_ | with_reducible refine Gd.dec (fun _ => ?_) (fun _ => ?_) | with_reducible refine Gd.beq (fun _ => ?_) (fun _ => ?_) | with_reducible refine Gd.bne (fun _ => ?_) (fun _ => ?_) | with_reducible refine Gd.not ?_ | refine Gd.t ?_ | refine Gd.f ?_ | with_reducible refine Gd.var (fun _ => ?_) (fun _ => ?_)) <;> first | (exfalso; omega) | skip) | with_reducible refine Sq.mk ?_ | ((with_reducible show Ld1 _ _ _); first | refine Ld1.h H ?_ | refine Ld1.rF ?_ | refine Ld1.r ?_) | ((with_reducible show Ld _ _ _ _); first | refine Ld.h H ?_ | refine Ld.r ?_) | ((with_reducible show Ix _ _ _ _ _); (first | refine Ix.h ?_ | refine Ix.ha ?_)) | (refine Al.hp H ?_; clear H; intro _ _ H _) | (refine St.h H ?_; clear H; intro _ H))
    refine Lp.g0 T.ok (σ := Nat) (fun k => [(12, .int .i64 (k : Int)), (11, .slice (some ⟨p, 0, none⟩) x.1.code.length x.1.code.length), (10, .pointer (some ⟨pc, 0, none⟩)), (9, .int .i64 (i : Int)), (1, .pointer (some ⟨pp, 0, none⟩)), (2, .pointer (some ⟨pr, 0, none⟩))])
      (fun k w' => k ≤ x.1.code.length ∧ fs1 (slotG x.1) x.1.code 0 = fs1 (slotG x.1) (x.1.code.drop k) k ∧ Hp nw w w' [mxk bb p x.1.code.length m ps (flwG x.1), bk pc 24 (x.1.v x.2.1 x.2.2).cells.toList, bk pr 48 (T.t48.zero.cells.toList), bk pp 46 (pv B l.length d).cells.toList]) (fun k _ => x.1.code.length - k) 0 rfl ⟨rfl, rfl, rfl, rfl, rfl, rfl, trivial⟩ ⟨Nat.zero_le _, rfl, H⟩ ?_
    clear H
    rintro k w7 ⟨hk, hfk, H⟩
    by_cases hkl : k < x.1.code.length
    · obtain ⟨y, hy⟩ : ∃ y, x.1.code[k]? = some y := ⟨_, List.getElem?_eq_getElem hkl⟩
      obtain ⟨q, hq⟩ : ∃ q, ps[k]? = some q := ⟨_, List.getElem?_eq_getElem (by omega)⟩
      obtain ⟨h5, h7⟩ := sound_at hS hy
      have hgo : rowFault y (rowL m (flwG x.1 k)) = 0 → fs1 (slotG x.1) x.1.code 0 = fs1 (slotG x.1) (x.1.code.drop (k + 1)) (k + 1) := fun h0 => by
        rw [hfk, fs1_no hy]
        simp only [slotG, hmt]; rw [if_pos h0]
      have hstop : rowFault y (rowL m (flwG x.1 k)) ≠ 0 → slot1 x.1 = some (rowFault y (rowL m (flwG x.1 k)), k) := fun h0 => by
        have hg : slotG x.1 k y = some (rowFault y (rowL m (flwG x.1 k))) := by simp only [slotG, hmt]; rw [if_neg h0]
        rw [slot1, hfk, fs1_yes hy hg]; rfl
      have hA7 := RdS.from H.e (hB.code x hxm)
      have hM : Mx _ bb p x.1.code.length m ps (flwG x.1) := H.atC 0 rfl
      have hr := hM.rd (by omega)
      have hat := hM.at hq
      have hrow := rd_full (hM.row k q hq) (fun _ _ => rfl)
      have hlen := hM.len
      have hlen2 := rowL_len m (flwG x.1 k)
      have hsf : ∀ w', Ext w7 w' → Cl Tryd.prog 63 #[y.v, .slice (some ⟨q, 0, none⟩) m m] w' (fun v w'' => v = .int .i64 (rowFault y (rowL m (flwG x.1 k))) ∧ Ext w' w'') (fun _ _ => False) := fun w' ee => by
        have := slotFault_c y (some ⟨q, 0, none⟩) (rowL m (flwG x.1 k)) m w' (RdS.from ee hrow) (by omega) (fun h => by have := h5 h; omega) (fun h => by have := h7 h; omega)
        rw [hlen2] at this
        exact this
      repeat' ((conv => whnf); first | (((with_reducible show Gd _ _ _); first | with_reducible refine Gd.t ?_ | with_reducible refine Gd.f ?_ | with_reducible refine Gd.dec (fun _ => ?_) (fun _ => ?_) | with_reducible refine Gd.beq (fun _ => ?_) (fun _ => ?_) | with_reducible refine Gd.bne (fun _ => ?_) (fun _ => ?_) | with_reducible refine Gd.not ?_ | refine Gd.t ?_ | refine Gd.f ?_ | with_reducible refine Gd.var (fun _ => ?_) (fun _ => ?_)) <;> first | (exfalso; omega) | skip) | with_reducible refine Sq.mk ?_ | ((with_reducible show Ld1 _ _ _); first | refine Ld1.h H ?_ | refine Ld1.rF ?_ | refine Ld1.r ?_) | ((with_reducible show Ld _ _ _ _); first | refine Ld.h H ?_ | refine Ld.r ?_) | ((with_reducible show Ix _ _ _ _ _); (first | refine Ix.h ?_ | refine Ix.ha ?_)) | (refine Al.hp H ?_; clear H; intro _ _ H _) | (refine St.h H ?_; clear H; intro _ H))
      ((conv => whnf); refine Dr.quiet T.ok mixed (by kernel_rfl) (fun W hW => ?_))
      repeat' (first | ((conv => whnf); first | (((with_reducible show Gd _ _ _); first | with_reducible refine Gd.t ?_ | with_reducible refine Gd.f ?_ | with_reducible refine Gd.dec (fun _ => ?_) (fun _ => ?_) | with_reducible refine Gd.beq (fun _ => ?_) (fun _ => ?_) | with_reducible refine Gd.bne (fun _ => ?_) (fun _ => ?_) | with_reducible refine Gd.not ?_ | refine Gd.t ?_ | refine Gd.f ?_ | with_reducible refine Gd.var (fun _ => ?_) (fun _ => ?_)) <;> first | (exfalso; omega) | skip) | ((with_reducible show QLd1 _ _ _); first | refine QLd1.h hW H ?_ | refine QLd1.rF hW ?_ | refine QLd1.r hW ?_) | ((with_reducible show QLd _ _ _ _); first | refine QLd.h hW H ?_ | refine QLd.r hW ?_) | ((with_reducible show Ix _ _ _ _ _); (first | refine Ix.h ?_ | refine Ix.ha ?_))) | ((conv => whnf); refine QCl.mk hW (fun _ ee => Cl.mk (hsf _ ee) (fun _ _ h => h)) ?_))
      clear hr hrow hsf hM
      (intro _ eT; replace H := H.ext eT; clear hW eT)
      repeat' ((conv => whnf); first | (((with_reducible show Gd _ _ _); first | with_reducible refine Gd.t ?_ | with_reducible refine Gd.f ?_ | with_reducible refine Gd.dec (fun _ => ?_) (fun _ => ?_) | with_reducible refine Gd.beq (fun _ => ?_) (fun _ => ?_) | with_reducible refine Gd.bne (fun _ => ?_) (fun _ => ?_) | with_reducible refine Gd.not ?_ | refine Gd.t ?_ | refine Gd.f ?_ | with_reducible refine Gd.var (fun _ => ?_) (fun _ => ?_)) <;> first | (exfalso; omega) | skip) | with_reducible refine Sq.mk ?_ | ((with_reducible show Ld1 _ _ _); first | refine Ld1.h H ?_ | refine Ld1.rF ?_ | refine Ld1.r ?_) | ((with_reducible show Ld _ _ _ _); first | refine Ld.h H ?_ | refine Ld.r ?_) | ((with_reducible show Ix _ _ _ _ _); (first | refine Ix.h ?_ | refine Ix.ha ?_)) | (refine Al.hp H ?_; clear H; intro _ _ H _) | (refine St.h H ?_; clear H; intro _ H))
      · have h0 := hstop (by assumption)
        rw [fs1_yes hfx h0] at hfs
        exact ⟨by rw [hC2]; simp only [hfs]; rfl, H.e⟩
      · exact ⟨k + 1, ⟨at_int rfl (w64 (by simp) (by omega) (by omega)), rfl, rfl, rfl, rfl, rfl, trivial⟩, rfl, ⟨by omega, hgo (by assumption), H⟩, by omega⟩
    · have hk : k = x.1.code.length := by omega
      subst hk
      rw [fs1_end (Nat.le_refl _)] at hfk
      repeat' ((conv => whnf); first | (((with_reducible show Gd _ _ _); first | with_reducible refine Gd.t ?_ | with_reducible refine Gd.f ?_ | with_reducible refine Gd.dec (fun _ => ?_) (fun _ => ?_) | with_reducible refine Gd.beq (fun _ => ?_) (fun _ => ?_) | with_reducible refine Gd.bne (fun _ => ?_) (fun _ => ?_) | with_reducible refine Gd.not ?_ | refine Gd.t ?_ | refine Gd.f ?_ | with_reducible refine Gd.var (fun _ => ?_) (fun _ => ?_)) <;> first | (exfalso; omega) | skip) | with_reducible refine Sq.mk ?_ | ((with_reducible show Ld1 _ _ _); first | refine Ld1.h H ?_ | refine Ld1.rF ?_ | refine Ld1.r ?_) | ((with_reducible show Ld _ _ _ _); first | refine Ld.h H ?_ | refine Ld.r ?_) | ((with_reducible show Ix _ _ _ _ _); (first | refine Ix.h ?_ | refine Ix.ha ?_)) | (refine Al.hp H ?_; clear H; intro _ _ H _) | (refine St.h H ?_; clear H; intro _ H))
      rw [fs1_no hfx (by rw [slot1, hfk]; rfl)] at hfs
      exact ⟨i + 1, ⟨at_int (m := ((i + 1 : Nat) : Int)) rfl (w64 (by simp) (by omega) (by omega)), rfl, rfl, trivial⟩, rfl, ⟨by omega, hfs, H.d0.d0⟩, by omega⟩
  have hi : i = l.length := by omega
  subst hi
  rw [fs1_end (by omega)] at hfs
  have hC3 : checkL (fns l) = (0, 0, 0) := by rw [hC2]; simp only [hfs]
  repeat' ((conv => whnf); first | (((with_reducible show Gd _ _ _); first | with_reducible refine Gd.t ?_ | with_reducible refine Gd.f ?_ | with_reducible refine Gd.dec (fun _ => ?_) (fun _ => ?_) | with_reducible refine Gd.beq (fun _ => ?_) (fun _ => ?_) | with_reducible refine Gd.bne (fun _ => ?_) (fun _ => ?_) | with_reducible refine Gd.not ?_ | refine Gd.t ?_ | refine Gd.f ?_ | with_reducible refine Gd.var (fun _ => ?_) (fun _ => ?_)) <;> first | (exfalso; omega) | skip) | with_reducible refine Sq.mk ?_ | ((with_reducible show Ld1 _ _ _); first | refine Ld1.h H ?_ | refine Ld1.rF ?_ | refine Ld1.r ?_) | ((with_reducible show Ld _ _ _ _); first | refine Ld.h H ?_ | refine Ld.r ?_) | ((with_reducible show Ix _ _ _ _ _); (first | refine Ix.h ?_ | refine Ix.ha ?_)) | (refine Al.hp H ?_; clear H; intro _ _ H _) | (refine St.h H ?_; clear H; intro _ H))
  exact ⟨by rw [hC3]; rfl, H.e⟩
end Go.Proofs.YtbbadmlekagloaaDoor
