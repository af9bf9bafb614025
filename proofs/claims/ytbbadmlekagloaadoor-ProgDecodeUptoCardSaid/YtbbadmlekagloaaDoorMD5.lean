/- own work: PhE, PhF, PhG, PhH, PhI, PhJ, PhK, PhL, PhP, PhQ, PhR, PhS -/
import Derived.Test.YtbbadmlekagloaaDoorMD4
namespace Go.Proofs.YtbbadmlekagloaaDoor
open Go Go.Sh
set_option linter.unusedVariables false
set_option linter.unusedSimpArgs false
attribute [local irreducible] Blk Ext RdS
theorem ins1_go {fs : List Fn} {f : Fn} (h : fs1 (insG fs f) f.code 0 = none) : ins1 fs f = if endsB f then none else some (53, f.code.length - 1) := by
  rw [ins1, h]
set_option maxHeartbeats 1000000 in
theorem rCheck_c (B : Option Addr) (l : List FE) (d : Nat) (w : World) (hB : RdP w B l) :
    Cl Tryd.prog 28 #[pv B l.length d] w (fun v w' => v = fvV (checkL (fns l)) ∧ Ext w w') (fun _ _ => False) := by
  refine calls_ex (args := [pv B l.length d]) T.ok Tryd.func28 rfl rfl rfl rfl ?_
  have H := Hp.begin nw w
  have hfl := fns_len l
  refine Sq.mk ?_
  ((conv => whnf); refine Al.hp H ?_; clear H; intro pp _ H _)
  ((conv => whnf); refine Al.hp H ?_; clear H; intro pr _ H _)
  repeat' ((conv => whnf); first | (((with_reducible show Gd _ _ _); first | with_reducible refine Gd.t ?_ | with_reducible refine Gd.f ?_ | with_reducible refine Gd.dec (fun _ => ?_) (fun _ => ?_) | with_reducible refine Gd.beq (fun _ => ?_) (fun _ => ?_) | with_reducible refine Gd.bne (fun _ => ?_) (fun _ => ?_) | with_reducible refine Gd.not ?_ | refine Gd.t ?_ | refine Gd.f ?_ | with_reducible refine Gd.var (fun _ => ?_) (fun _ => ?_)) <;> first | (exfalso; omega) | skip) | with_reducible refine Sq.mk ?_ | ((with_reducible show Ld1 _ _ _); first | refine Ld1.h H ?_ | refine Ld1.rF ?_ | refine Ld1.r ?_) | ((with_reducible show Ld _ _ _ _); first | refine Ld.h H ?_ | refine Ld.r ?_) | ((with_reducible show Ix _ _ _ _ _); (first | refine Ix.h ?_ | refine Ix.ha ?_)) | (refine Al.hp H ?_; clear H; intro _ _ H _) | (refine St.h H ?_; clear H; intro _ H))
  · refine ⟨?_, H.e⟩
    rw [checkL, if_pos (.inl (by omega))]; rfl
  · refine ⟨?_, H.e⟩
    rw [checkL, if_pos (.inr (by omega))]; rfl
  -- the shapes
  have hlo : ¬ ((fns l).length < 1 ∨ 32 < (fns l).length) := by omega
  refine Lp.g0 T.ok (σ := Nat) (fun i => [(3, .int .i64 (i : Int)), (1, .pointer (some ⟨pp, 0, none⟩)), (2, .pointer (some ⟨pr, 0, none⟩))])
    (fun i w' => i ≤ l.length ∧ fs1 (fun _ f => if shapedB f then none else some ()) (fns l) 0 = fs1 (fun _ f => if shapedB f then none else some ()) ((fns l).drop i) i ∧ Hp nw w w' [bk pr 48 (T.t48.zero.cells.toList), bk pp 46 (pv B l.length d).cells.toList]) (fun i _ => l.length - i) 0 rfl ⟨rfl, rfl, rfl, trivial⟩ ⟨Nat.zero_le _, rfl, H⟩ ?_
  clear H
  rintro i w5 ⟨hi, hfs, H⟩
  by_cases hlt : i < l.length
  · obtain ⟨x, hx⟩ : ∃ x, l[i]? = some x := ⟨_, List.getElem?_eq_getElem hlt⟩
    have hfx := fns_at hx
    have hB5 := RdS.from H.e hB.top
    repeat' (first | ((conv => whnf); first | (((with_reducible show Gd _ _ _); first | with_reducible refine Gd.t ?_ | with_reducible refine Gd.f ?_ | with_reducible refine Gd.dec (fun _ => ?_) (fun _ => ?_) | with_reducible refine Gd.beq (fun _ => ?_) (fun _ => ?_) | with_reducible refine Gd.bne (fun _ => ?_) (fun _ => ?_) | with_reducible refine Gd.not ?_ | refine Gd.t ?_ | refine Gd.f ?_ | with_reducible refine Gd.var (fun _ => ?_) (fun _ => ?_)) <;> first | (exfalso; omega) | skip) | with_reducible refine Sq.mk ?_ | ((with_reducible show Ld1 _ _ _); first | refine Ld1.h H ?_ | refine Ld1.rF ?_ | refine Ld1.r ?_) | ((with_reducible show Ld _ _ _ _); first | refine Ld.h H ?_ | refine Ld.r ?_) | ((with_reducible show Ix _ _ _ _ _); (first | refine Ix.h ?_ | refine Ix.ha ?_)) | (refine Al.hp H ?_; clear H; intro _ _ H _) | (refine St.h H ?_; clear H; intro _ H)) | (((conv => whnf); refine Cl.mk (shaped_c x.1 x.2.1 x.2.2 _) ?_); rintro _ _ ⟨rfl, hx⟩; replace H := H.ext hx; clear hx))
    · have hb : shapedB x.1 = true := by assumption
      rw [fs1_no hfx (by simp only [hb]; rfl)] at hfs
      exact ⟨i + 1, ⟨at_int (m := ((i + 1 : Nat) : Int)) rfl (w64 (by simp) (by omega) (by omega)), rfl, rfl, trivial⟩, rfl, ⟨by omega, hfs, H⟩, by omega⟩
    · have hb : shapedB x.1 = false := by assumption
      rw [fs1_yes hfx (b := ()) (by simp only [hb]; rfl)] at hfs
      refine ⟨?_, H.e⟩
      rw [checkL, if_neg hlo]; simp only [hfs] <;> rfl
  have hi : i = l.length := by omega
  subst hi
  rw [fs1_end (by omega)] at hfs
  have hsh := shaped_all hfs
  have hC1 : checkL (fns l) = match fs1 (fun _ f => ins1 (fns l) f) (fns l) 0 with
      | some (i, e, k) => (e, i, k)
      | none => match fs1 (fun _ f => slot1 f) (fns l) 0 with
        | some (i, e, k) => (e, i, k)
        | none => (0, 0, 0) := by rw [checkL, if_neg hlo]; simp only [hfs] <;> rfl
  clear hlo hfs hlt hi
  repeat' ((conv => whnf); first | (((with_reducible show Gd _ _ _); first | with_reducible refine Gd.t ?_ | with_reducible refine Gd.f ?_ | with_reducible refine Gd.dec (fun _ => ?_) (fun _ => ?_) | with_reducible refine Gd.beq (fun _ => ?_) (fun _ => ?_) | with_reducible refine Gd.bne (fun _ => ?_) (fun _ => ?_) | with_reducible refine Gd.not ?_ | refine Gd.t ?_ | refine Gd.f ?_ | with_reducible refine Gd.var (fun _ => ?_) (fun _ => ?_)) <;> first | (exfalso; omega) | skip) | with_reducible refine Sq.mk ?_ | ((with_reducible show Ld1 _ _ _); first | refine Ld1.h H ?_ | refine Ld1.rF ?_ | refine Ld1.r ?_) | ((with_reducible show Ld _ _ _ _); first | refine Ld.h H ?_ | refine Ld.r ?_) | ((with_reducible show Ix _ _ _ _ _); (first | refine Ix.h ?_ | refine Ix.ha ?_)) | (refine Al.hp H ?_; clear H; intro _ _ H _) | (refine St.h H ?_; clear H; intro _ H))
  -- the instructions
  refine Lp.g0 T.ok (σ := Nat) (fun i => [(5, .int .i64 (i : Int)), (1, .pointer (some ⟨pp, 0, none⟩)), (2, .pointer (some ⟨pr, 0, none⟩))])
    (fun i w' => i ≤ l.length ∧ fs1 (fun _ f => ins1 (fns l) f) (fns l) 0 = fs1 (fun _ f => ins1 (fns l) f) ((fns l).drop i) i ∧ Hp nw w w' [bk pr 48 (T.t48.zero.cells.toList), bk pp 46 (pv B l.length d).cells.toList]) (fun i _ => l.length - i) 0 rfl ⟨rfl, rfl, rfl, trivial⟩ ⟨Nat.zero_le _, rfl, H⟩ ?_
  clear H
  rintro i w6 ⟨hi, hfs, H⟩
  by_cases hlt : i < l.length
  · obtain ⟨x, hx⟩ : ∃ x, l[i]? = some x := ⟨_, List.getElem?_eq_getElem hlt⟩
    have hxm := List.mem_of_getElem? hx
    have hfx := fns_at hx
    have hB5 := RdS.from H.e hB.top
    have hshx := hsh x hxm
    obtain ⟨hl1, hl2⟩ := shaped_len hshx
    have hrx : 1 ≤ x.1.regs ∧ x.1.regs ≤ 16 := by simp only [shapedB, decide_eq_true_eq] at hshx; omega
    have hwl : IntKind.i64.wrap ((x.1.code.length : Int) - 1) = ((x.1.code.length - 1 : Nat) : Int) := w64 (by omega) (by omega) (by omega)
    repeat' ((conv => whnf); first | (((with_reducible show Gd _ _ _); first | with_reducible refine Gd.t ?_ | with_reducible refine Gd.f ?_ | with_reducible refine Gd.dec (fun _ => ?_) (fun _ => ?_) | with_reducible refine Gd.beq (fun _ => ?_) (fun _ => ?_) | with_reducible refine Gd.bne (fun _ => ?_) (fun _ => ?_) | with_reducible refine Gd.not ?_ | refine Gd.t ?_ | refine Gd.f ?_ | with_reducible refine Gd.var (fun _ => ?_) (fun _ => ?_)) <;> first | (exfalso; omega) | skip) | with_reducible refine Sq.mk ?_ | ((with_reducible show Ld1 _ _ _); first | refine Ld1.h H ?_ | refine Ld1.rF ?_ | refine Ld1.r ?_) | ((with_reducible show Ld _ _ _ _); first | refine Ld.h H ?_ | refine Ld.r ?_) | ((with_reducible show Ix _ _ _ _ _); (first | refine Ix.h ?_ | refine Ix.ha ?_)) | (refine St.h H ?_; clear H; intro _ H))
    ((conv => whnf); refine Al.hp H ?_; clear H; intro pc _ H _)
    repeat' ((conv => whnf); first | (((with_reducible show Gd _ _ _); first | with_reducible refine Gd.t ?_ | with_reducible refine Gd.f ?_ | with_reducible refine Gd.dec (fun _ => ?_) (fun _ => ?_) | with_reducible refine Gd.beq (fun _ => ?_) (fun _ => ?_) | with_reducible refine Gd.bne (fun _ => ?_) (fun _ => ?_) | with_reducible refine Gd.not ?_ | refine Gd.t ?_ | refine Gd.f ?_ | with_reducible refine Gd.var (fun _ => ?_) (fun _ => ?_)) <;> first | (exfalso; omega) | skip) | with_reducible refine Sq.mk ?_ | ((with_reducible show Ld1 _ _ _); first | refine Ld1.h H ?_ | refine Ld1.rF ?_ | refine Ld1.r ?_) | ((with_reducible show Ld _ _ _ _); first | refine Ld.h H ?_ | refine Ld.r ?_) | ((with_reducible show Ix _ _ _ _ _); (first | refine Ix.h ?_ | refine Ix.ha ?_)) | (refine Al.hp H ?_; clear H; intro _ _ H _) | (refine St.h H ?_; clear H; intro _ H))
    refine Lp.g0 T.ok (σ := Nat) (fun k => [(7, .int .i64 (k : Int)), (6, .pointer (some ⟨pc, 0, none⟩)), (5, .int .i64 (i : Int)), (1, .pointer (some ⟨pp, 0, none⟩)), (2, .pointer (some ⟨pr, 0, none⟩))])
      (fun k w' => k ≤ x.1.code.length ∧ fs1 (insG (fns l) x.1) x.1.code 0 = fs1 (insG (fns l) x.1) (x.1.code.drop k) k ∧ Hp nw w w' [bk pc 24 (x.1.v x.2.1 x.2.2).cells.toList, bk pr 48 (T.t48.zero.cells.toList), bk pp 46 (pv B l.length d).cells.toList]) (fun k _ => x.1.code.length - k) 0 rfl ⟨rfl, rfl, rfl, rfl, rfl, trivial⟩ ⟨Nat.zero_le _, rfl, H⟩ ?_
    clear H hB5
    rintro k w7 ⟨hk, hfk, H⟩
    by_cases hkl : k < x.1.code.length
    · obtain ⟨y, hy⟩ : ∃ y, x.1.code[k]? = some y := ⟨_, List.getElem?_eq_getElem hkl⟩
      have hA7 := RdS.from H.e (hB.code x hxm)
      have hB7 := RdS.from H.e hB.top
      repeat' ((conv => whnf); first | (((with_reducible show Gd _ _ _); first | with_reducible refine Gd.t ?_ | with_reducible refine Gd.f ?_ | with_reducible refine Gd.dec (fun _ => ?_) (fun _ => ?_) | with_reducible refine Gd.beq (fun _ => ?_) (fun _ => ?_) | with_reducible refine Gd.bne (fun _ => ?_) (fun _ => ?_) | with_reducible refine Gd.not ?_ | refine Gd.t ?_ | refine Gd.f ?_ | with_reducible refine Gd.var (fun _ => ?_) (fun _ => ?_)) <;> first | (exfalso; omega) | skip) | with_reducible refine Sq.mk ?_ | ((with_reducible show Ld1 _ _ _); first | refine Ld1.h H ?_ | refine Ld1.rF ?_ | refine Ld1.r ?_) | ((with_reducible show Ld _ _ _ _); first | refine Ld.h H ?_ | refine Ld.r ?_) | ((with_reducible show Ix _ _ _ _ _); (first | refine Ix.h ?_ | refine Ix.ha ?_)) | (refine Al.hp H ?_; clear H; intro _ _ H _) | (refine St.h H ?_; clear H; intro _ H))
      ((conv => whnf); refine Dr.quiet T.ok mixed (by kernel_rfl) (fun W hW => ?_))
      repeat' (first | ((conv => whnf); first | (((with_reducible show Gd _ _ _); first | with_reducible refine Gd.t ?_ | with_reducible refine Gd.f ?_ | with_reducible refine Gd.dec (fun _ => ?_) (fun _ => ?_) | with_reducible refine Gd.beq (fun _ => ?_) (fun _ => ?_) | with_reducible refine Gd.bne (fun _ => ?_) (fun _ => ?_) | with_reducible refine Gd.not ?_ | refine Gd.t ?_ | refine Gd.f ?_ | with_reducible refine Gd.var (fun _ => ?_) (fun _ => ?_)) <;> first | (exfalso; omega) | skip) | ((with_reducible show QLd1 _ _ _); first | refine QLd1.h hW H ?_ | refine QLd1.rF hW ?_ | refine QLd1.r hW ?_) | ((with_reducible show QLd _ _ _ _); first | refine QLd.h hW H ?_ | refine QLd.r hW ?_) | ((with_reducible show Ix _ _ _ _ _); (first | refine Ix.h ?_ | refine Ix.ha ?_))) | ((conv => whnf); refine QCl.mk hW (fun _ ee => Cl.mk (alone_c x.1 x.2.1 x.2.2 y _) (fun _ _ h => h)) ?_) | ((conv => whnf); refine QCl.mk hW (fun _ ee => Cl.mk (called_c x.1 x.2.1 x.2.2 y B l d _ (RdS.from ee hB7) hrx) (fun _ _ h => h)) ?_))
      all_goals
        (intro _ eT; replace H := H.ext eT; clear hW eT)
        repeat' ((conv => whnf); first | (((with_reducible show Gd _ _ _); first | with_reducible refine Gd.t ?_ | with_reducible refine Gd.f ?_ | with_reducible refine Gd.dec (fun _ => ?_) (fun _ => ?_) | with_reducible refine Gd.beq (fun _ => ?_) (fun _ => ?_) | with_reducible refine Gd.bne (fun _ => ?_) (fun _ => ?_) | with_reducible refine Gd.not ?_ | refine Gd.t ?_ | refine Gd.f ?_ | with_reducible refine Gd.var (fun _ => ?_) (fun _ => ?_)) <;> first | (exfalso; omega) | skip) | with_reducible refine Sq.mk ?_ | ((with_reducible show Ld1 _ _ _); first | refine Ld1.h H ?_ | refine Ld1.rF ?_ | refine Ld1.r ?_) | ((with_reducible show Ld _ _ _ _); first | refine Ld.h H ?_ | refine Ld.r ?_) | ((with_reducible show Ix _ _ _ _ _); (first | refine Ix.h ?_ | refine Ix.ha ?_)) | (refine Al.hp H ?_; clear H; intro _ _ H _) | (refine St.h H ?_; clear H; intro _ H))
      · have hg : insG (fns l) x.1 k y = none := by
          rw [insG, (by assumption : aloneB x.1 y = true), (by assumption : calledB (fns l) x.1 y = true)]; rfl
        rw [fs1_no hy hg] at hfk
        exact ⟨k + 1, ⟨at_int rfl (w64 (by simp) (by omega) (by omega)), rfl, rfl, rfl, rfl, trivial⟩, rfl, ⟨by omega, hfk, H⟩, by omega⟩
      all_goals
        have hg : insG (fns l) x.1 k y = some () := by
          first | rw [insG, (by assumption : aloneB x.1 y = true), (by assumption : calledB (fns l) x.1 y = false)]; rfl | rw [insG, (by assumption : aloneB x.1 y = false)]; rfl
        rw [fs1_yes hy hg] at hfk
        rw [fs1_yes hfx (by rw [ins1, hfk])] at hfs
        exact ⟨by rw [hC1]; simp only [hfs] <;> rfl, H.e⟩
    · have hk : k = x.1.code.length := by omega
      subst hk
      rw [fs1_end (Nat.le_refl _)] at hfk
      have hi1 := ins1_go hfk
      repeat' (first | ((conv => whnf); first | (((with_reducible show Gd _ _ _); first | with_reducible refine Gd.t ?_ | with_reducible refine Gd.f ?_ | with_reducible refine Gd.dec (fun _ => ?_) (fun _ => ?_) | with_reducible refine Gd.beq (fun _ => ?_) (fun _ => ?_) | with_reducible refine Gd.bne (fun _ => ?_) (fun _ => ?_) | with_reducible refine Gd.not ?_ | refine Gd.t ?_ | refine Gd.f ?_ | with_reducible refine Gd.var (fun _ => ?_) (fun _ => ?_)) <;> first | (exfalso; omega) | skip) | with_reducible refine Sq.mk ?_ | ((with_reducible show Ld1 _ _ _); first | refine Ld1.h H ?_ | refine Ld1.rF ?_ | refine Ld1.r ?_) | ((with_reducible show Ld _ _ _ _); first | refine Ld.h H ?_ | refine Ld.r ?_) | ((with_reducible show Ix _ _ _ _ _); (first | refine Ix.h ?_ | refine Ix.ha ?_)) | (refine Al.hp H ?_; clear H; intro _ _ H _) | (refine St.h H ?_; clear H; intro _ H)) | (((conv => whnf); refine Cl.mk (ends_c x.1 x.2.1 x.2.2 _ (RdS.from H.e (hB.code x hxm)) hl1 hl2) ?_); rintro _ _ ⟨rfl, hx⟩; replace H := H.ext hx; clear hx))
      · rw [fs1_no hfx (by rw [hi1, if_pos (by assumption)])] at hfs
        exact ⟨i + 1, ⟨at_int (m := ((i + 1 : Nat) : Int)) rfl (w64 (by simp) (by omega) (by omega)), rfl, rfl, trivial⟩, rfl, ⟨by omega, hfs, H.d0⟩, by omega⟩
      · rw [(by assumption : endsB x.1 = false)] at hi1
        rw [fs1_yes hfx hi1] at hfs
        exact ⟨by rw [hC1]; simp only [hfs]; rw [hwl]; rfl, H.e⟩
  have hi : i = l.length := by omega
  subst hi
  rw [fs1_end (by omega)] at hfs
  have hsd := all_sound hsh hfs
  have hC2 : checkL (fns l) = match fs1 (fun _ f => slot1 f) (fns l) 0 with
        | some (i, e, k) => (e, i, k)
        | none => (0, 0, 0) := by rw [hC1]; simp only [hfs]
  clear hC1 hfs hlt hi
  repeat' ((conv => whnf); first | (((with_reducible show Gd _ _ _); first | with_reducible refine Gd.t ?_ | with_reducible refine Gd.f ?_ | with_reducible refine Gd.dec (fun _ => ?_) (fun _ => ?_) | with_reducible refine Gd.beq (fun _ => ?_) (fun _ => ?_) | with_reducible refine Gd.bne (fun _ => ?_) (fun _ => ?_) | with_reducible refine Gd.not ?_ | refine Gd.t ?_ | refine Gd.f ?_ | with_reducible refine Gd.var (fun _ => ?_) (fun _ => ?_)) <;> first | (exfalso; omega) | skip) | with_reducible refine Sq.mk ?_ | ((with_reducible show Ld1 _ _ _); first | refine Ld1.h H ?_ | refine Ld1.rF ?_ | refine Ld1.r ?_) | ((with_reducible show Ld _ _ _ _); first | refine Ld.h H ?_ | refine Ld.r ?_) | ((with_reducible show Ix _ _ _ _ _); (first | refine Ix.h ?_ | refine Ix.ha ?_)) | (refine Al.hp H ?_; clear H; intro _ _ H _) | (refine St.h H ?_; clear H; intro _ H))
  -- the slots
  refine Lp.g0 T.ok (σ := Nat) (fun i => [(9, .int .i64 (i : Int)), (1, .pointer (some ⟨pp, 0, none⟩)), (2, .pointer (some ⟨pr, 0, none⟩))])
    (fun i w' => i ≤ l.length ∧ fs1 (fun _ f => slot1 f) (fns l) 0 = fs1 (fun _ f => slot1 f) ((fns l).drop i) i ∧ Hp nw w w' [bk pr 48 (T.t48.zero.cells.toList), bk pp 46 (pv B l.length d).cells.toList]) (fun i _ => l.length - i) 0 rfl ⟨rfl, rfl, rfl, trivial⟩ ⟨Nat.zero_le _, rfl, H⟩ ?_
  clear H
  rintro i w8 ⟨hi, hfs, H⟩
  by_cases hlt : i < l.length
  · obtain ⟨x, hx⟩ : ∃ x, l[i]? = some x := ⟨_, List.getElem?_eq_getElem hlt⟩
    have hxm := List.mem_of_getElem? hx
    have hfx := fns_at hx
    have hB5 := RdS.from H.e hB.top
    have hshx := hsh x hxm
    have hS := hsd x hxm
    obtain ⟨hl1, hl2⟩ := shaped_len hshx
    obtain ⟨m, hm, hm8⟩ := slots_nat hshx
    have hmt : x.1.slots.toNat = m := by omega
    repeat' ((conv => whnf); first | (((with_reducible show Gd _ _ _); first | with_reducible refine Gd.t ?_ | with_reducible refine Gd.f ?_ | with_reducible refine Gd.dec (fun _ => ?_) (fun _ => ?_) | with_reducible refine Gd.beq (fun _ => ?_) (fun _ => ?_) | with_reducible refine Gd.bne (fun _ => ?_) (fun _ => ?_) | with_reducible refine Gd.not ?_ | refine Gd.t ?_ | refine Gd.f ?_ | with_reducible refine Gd.var (fun _ => ?_) (fun _ => ?_)) <;> first | (exfalso; omega) | skip) | with_reducible refine Sq.mk ?_ | ((with_reducible show Ld1 _ _ _); first | refine Ld1.h H ?_ | refine Ld1.rF ?_ | refine Ld1.r ?_) | ((with_reducible show Ld _ _ _ _); first | refine Ld.h H ?_ | refine Ld.r ?_) | ((with_reducible show Ix _ _ _ _ _); (first | refine Ix.h ?_ | refine Ix.ha ?_)) | (refine St.h H ?_; clear H; intro _ H))
    ((conv => whnf); refine Al.hp H ?_; clear H; intro pc _ H _)
    repeat' ((conv => whnf); first | (((with_reducible show Gd _ _ _); first | with_reducible refine Gd.t ?_ | with_reducible refine Gd.f ?_ | with_reducible refine Gd.dec (fun _ => ?_) (fun _ => ?_) | with_reducible refine Gd.beq (fun _ => ?_) (fun _ => ?_) | with_reducible refine Gd.bne (fun _ => ?_) (fun _ => ?_) | with_reducible refine Gd.not ?_ | refine Gd.t ?_ | refine Gd.f ?_ | with_reducible refine Gd.var (fun _ => ?_) (fun _ => ?_)) <;> first | (exfalso; omega) | skip) | with_reducible refine Sq.mk ?_ | ((with_reducible show Ld1 _ _ _); first | refine Ld1.h H ?_ | refine Ld1.rF ?_ | refine Ld1.r ?_) | ((with_reducible show Ld _ _ _ _); first | refine Ld.h H ?_ | refine Ld.r ?_) | ((with_reducible show Ix _ _ _ _ _); (first | refine Ix.h ?_ | refine Ix.ha ?_)) | (refine Al.hp H ?_; clear H; intro _ _ H _) | (refine St.h H ?_; clear H; intro _ H))
    clear hB5
    ((conv => whnf); refine Cl.mk (Flow_yes x.1 x.2.1 x.2.2 m _ (RdS.from H.e (hB.code x hxm)) hS hm hm8) ?_)
    rintro _ w9 ⟨p, ps, rfl, hpl2, hM, e⟩
    replace H := H.fr0 (mx_new hM e) (.inl rfl)
    clear hM e
    obtain ⟨bb, H⟩ : ∃ bb, Hp nw w w9 [mxk bb p x.1.code.length m ps (flwG x.1), bk pc 24 (x.1.v x.2.1 x.2.2).cells.toList, bk pr 48 (T.t48.zero.cells.toList), bk pp 46 (pv B l.length d).cells.toList] := ⟨_, H⟩
    repeat' ((conv => whnf); first | (((with_reducible show Gd _ _ _); first | with_reducible refine Gd.t ?_ | with_reducible refine Gd.f ?_ | with_reducible refine Gd.dec (fun _ => ?_) (fun _ => ?_) | with_reducible refine Gd.beq (fun _ => ?_) (fun _ => ?_) | with_reducible refine Gd.bne (fun _ => ?_) (fun _ => ?_) | with_reducible refine Gd.not ?_ | refine Gd.t ?_ | refine Gd.f ?_ | with_reducible refine Gd.var (fun _ => ?_) (fun _ => ?_)) <;> first | (exfalso; omega) | skip) | with_reducible refine Sq.mk ?_ | ((with_reducible show Ld1 _ _ _); first | refine Ld1.h H ?_ | refine Ld1.rF ?_ | refine Ld1.r ?_) | ((with_reducible show Ld _ _ _ _); first | refine Ld.h H ?_ | refine Ld.r ?_) | ((with_reducible show Ix _ _ _ _ _); (first | refine Ix.h ?_ | refine Ix.ha ?_)) | (refine Al.hp H ?_; clear H; intro _ _ H _) | (refine St.h H ?_; clear H; intro _ H))
    refine Lp.g0 T.ok (σ := Nat) (fun k => [(12, .int .i64 (k : Int)), (11, .slice (some ⟨p, 0, none⟩) x.1.code.length x.1.code.length), (10, .pointer (some ⟨pc, 0, none⟩)), (9, .int .i64 (i : Int)), (1, .pointer (some ⟨pp, 0, none⟩)), (2, .pointer (some ⟨pr, 0, none⟩))])
      (fun k w' => k ≤ x.1.code.length ∧ fs1 (slotG x.1) x.1.code 0 = fs1 (slotG x.1) (x.1.code.drop k) k ∧ Hp nw w w' [mxk bb p x.1.code.length m ps (flwG x.1), bk pc 24 (x.1.v x.2.1 x.2.2).cells.toList, bk pr 48 (T.t48.zero.cells.toList), bk pp 46 (pv B l.length d).cells.toList]) (fun k _ => x.1.code.length - k) 0 rfl ⟨rfl, rfl, rfl, rfl, rfl, rfl, trivial⟩ ⟨Nat.zero_le _, rfl, H⟩ ?_
    clear H
    rintro k w7 ⟨hk, hfk, H⟩
    by_cases hkl : k < x.1.code.length
    · obtain ⟨y, hy⟩ : ∃ y, x.1.code[k]? = some y := ⟨_, List.getElem?_eq_getElem hkl⟩
      obtain ⟨q, hq⟩ : ∃ q, ps[k]? = some q := ⟨_, List.getElem?_eq_getElem (by omega)⟩
      obtain ⟨h5, h7⟩ := sound_at hS hy
      have hgo : rowFault y (rowL m (flwG x.1 k)) = 0 → fs1 (slotG x.1) x.1.code 0 = fs1 (slotG x.1) (x.1.code.drop (k + 1)) (k + 1) := fun h0 => by
        rw [hfk, fs1_no hy]
        simp only [slotG, hmt]; rw [if_pos h0]
      have hstop : rowFault y (rowL m (flwG x.1 k)) ≠ 0 → slot1 x.1 = some (rowFault y (rowL m (flwG x.1 k)), k) := fun h0 => by
        have hg : slotG x.1 k y = some (rowFault y (rowL m (flwG x.1 k))) := by simp only [slotG, hmt]; rw [if_neg h0]
        rw [slot1, hfk, fs1_yes hy hg]; rfl
      have hA7 := RdS.from H.e (hB.code x hxm)
      have hM : Mx _ bb p x.1.code.length m ps (flwG x.1) := H.atC 0 rfl
      have hr := hM.rd (by omega)
      have hat := hM.at hq
      have hrow := rd_full (hM.row k q hq) (fun _ _ => rfl)
      have hlen := hM.len
      have hlen2 := rowL_len m (flwG x.1 k)
      have hsf : ∀ w', Ext w7 w' → Cl Tryd.prog 63 #[y.v, .slice (some ⟨q, 0, none⟩) m m] w' (fun v w'' => v = .int .i64 (rowFault y (rowL m (flwG x.1 k))) ∧ Ext w' w'') (fun _ _ => False) := fun w' ee => by
        have := slotFault_c y (some ⟨q, 0, none⟩) (rowL m (flwG x.1 k)) m w' (RdS.from ee hrow) (by omega) (fun h => by have := h5 h; omega) (fun h => by have := h7 h; omega)
        rw [hlen2] at this
        exact this
      repeat' ((conv => whnf); first | (((with_reducible show Gd _ _ _); first | with_reducible refine Gd.t ?_ | with_reducible refine Gd.f ?_ | with_reducible refine Gd.dec (fun _ => ?_) (fun _ => ?_) | with_reducible refine Gd.beq (fun _ => ?_) (fun _ => ?_) | with_reducible refine Gd.bne (fun _ => ?_) (fun _ => ?_) | with_reducible refine Gd.not ?_ | refine Gd.t ?_ | refine Gd.f ?_ | with_reducible refine Gd.var (fun _ => ?_) (fun _ => ?_)) <;> first | (exfalso; omega) | skip) | with_reducible refine Sq.mk ?_ | ((with_reducible show Ld1 _ _ _); first | refine Ld1.h H ?_ | refine Ld1.rF ?_ | refine Ld1.r ?_) | ((with_reducible show Ld _ _ _ _); first | refine Ld.h H ?_ | refine Ld.r ?_) | ((with_reducible show Ix _ _ _ _ _); (first | refine Ix.h ?_ | refine Ix.ha ?_)) | (refine Al.hp H ?_; clear H; intro _ _ H _) | (refine St.h H ?_; clear H; intro _ H))
      ((conv => whnf); refine Dr.quiet T.ok mixed (by kernel_rfl) (fun W hW => ?_))
      repeat' (first | ((conv => whnf); first | (((with_reducible show Gd _ _ _); first | with_reducible refine Gd.t ?_ | with_reducible refine Gd.f ?_ | with_reducible refine Gd.dec (fun _ => ?_) (fun _ => ?_) | with_reducible refine Gd.beq (fun _ => ?_) (fun _ => ?_) | with_reducible refine Gd.bne (fun _ => ?_) (fun _ => ?_) | with_reducible refine Gd.not ?_ | refine Gd.t ?_ | refine Gd.f ?_ | with_reducible refine Gd.var (fun _ => ?_) (fun _ => ?_)) <;> first | (exfalso; omega) | skip) | ((with_reducible show QLd1 _ _ _); first | refine QLd1.h hW H ?_ | refine QLd1.rF hW ?_ | refine QLd1.r hW ?_) | ((with_reducible show QLd _ _ _ _); first | refine QLd.h hW H ?_ | refine QLd.r hW ?_) | ((with_reducible show Ix _ _ _ _ _); (first | refine Ix.h ?_ | refine Ix.ha ?_))) | ((conv => whnf); refine QCl.mk hW (fun _ ee => Cl.mk (hsf _ ee) (fun _ _ h => h)) ?_))
      clear hr hrow hsf hM
      (intro _ eT; replace H := H.ext eT; clear hW eT)
      repeat' ((conv => whnf); first | (((with_reducible show Gd _ _ _); first | with_reducible refine Gd.t ?_ | with_reducible refine Gd.f ?_ | with_reducible refine Gd.dec (fun _ => ?_) (fun _ => ?_) | with_reducible refine Gd.beq (fun _ => ?_) (fun _ => ?_) | with_reducible refine Gd.bne (fun _ => ?_) (fun _ => ?_) | with_reducible refine Gd.not ?_ | refine Gd.t ?_ | refine Gd.f ?_ | with_reducible refine Gd.var (fun _ => ?_) (fun _ => ?_)) <;> first | (exfalso; omega) | skip) | with_reducible refine Sq.mk ?_ | ((with_reducible show Ld1 _ _ _); first | refine Ld1.h H ?_ | refine Ld1.rF ?_ | refine Ld1.r ?_) | ((with_reducible show Ld _ _ _ _); first | refine Ld.h H ?_ | refine Ld.r ?_) | ((with_reducible show Ix _ _ _ _ _); (first | refine Ix.h ?_ | refine Ix.ha ?_)) | (refine Al.hp H ?_; clear H; intro _ _ H _) | (refine St.h H ?_; clear H; intro _ H))
      · have h0 := hstop (by assumption)
        rw [fs1_yes hfx h0] at hfs
        exact ⟨by rw [hC2]; simp only [hfs] <;> rfl, H.e⟩
      · exact ⟨k + 1, ⟨at_int rfl (w64 (by simp) (by omega) (by omega)), rfl, rfl, rfl, rfl, rfl, trivial⟩, rfl, ⟨by omega, hgo (by assumption), H⟩, by omega⟩
    · have hk : k = x.1.code.length := by omega
      subst hk
      rw [fs1_end (Nat.le_refl _)] at hfk
      repeat' ((conv => whnf); first | (((with_reducible show Gd _ _ _); first | with_reducible refine Gd.t ?_ | with_reducible refine Gd.f ?_ | with_reducible refine Gd.dec (fun _ => ?_) (fun _ => ?_) | with_reducible refine Gd.beq (fun _ => ?_) (fun _ => ?_) | with_reducible refine Gd.bne (fun _ => ?_) (fun _ => ?_) | with_reducible refine Gd.not ?_ | refine Gd.t ?_ | refine Gd.f ?_ | with_reducible refine Gd.var (fun _ => ?_) (fun _ => ?_)) <;> first | (exfalso; omega) | skip) | with_reducible refine Sq.mk ?_ | ((with_reducible show Ld1 _ _ _); first | refine Ld1.h H ?_ | refine Ld1.rF ?_ | refine Ld1.r ?_) | ((with_reducible show Ld _ _ _ _); first | refine Ld.h H ?_ | refine Ld.r ?_) | ((with_reducible show Ix _ _ _ _ _); (first | refine Ix.h ?_ | refine Ix.ha ?_)) | (refine Al.hp H ?_; clear H; intro _ _ H _) | (refine St.h H ?_; clear H; intro _ H))
      rw [fs1_no hfx (by rw [slot1, hfk]; rfl)] at hfs
      exact ⟨i + 1, ⟨at_int (m := ((i + 1 : Nat) : Int)) rfl (w64 (by simp) (by omega) (by omega)), rfl, rfl, trivial⟩, rfl, ⟨by omega, hfs, H.d0.d0⟩, by omega⟩
  have hi : i = l.length := by omega
  subst hi
  rw [fs1_end (by omega)] at hfs
  have hC3 : checkL (fns l) = (0, 0, 0) := by rw [hC2]; simp only [hfs]
  repeat' ((conv => whnf); first | (((with_reducible show Gd _ _ _); first | with_reducible refine Gd.t ?_ | with_reducible refine Gd.f ?_ | with_reducible refine Gd.dec (fun _ => ?_) (fun _ => ?_) | with_reducible refine Gd.beq (fun _ => ?_) (fun _ => ?_) | with_reducible refine Gd.bne (fun _ => ?_) (fun _ => ?_) | with_reducible refine Gd.not ?_ | refine Gd.t ?_ | refine Gd.f ?_ | with_reducible refine Gd.var (fun _ => ?_) (fun _ => ?_)) <;> first | (exfalso; omega) | skip) | with_reducible refine Sq.mk ?_ | ((with_reducible show Ld1 _ _ _); first | refine Ld1.h H ?_ | refine Ld1.rF ?_ | refine Ld1.r ?_) | ((with_reducible show Ld _ _ _ _); first | refine Ld.h H ?_ | refine Ld.r ?_) | ((with_reducible show Ix _ _ _ _ _); (first | refine Ix.h ?_ | refine Ix.ha ?_)) | (refine Al.hp H ?_; clear H; intro _ _ H _) | (refine St.h H ?_; clear H; intro _ H))
  exact ⟨by rw [hC3]; rfl, H.e⟩
end Go.Proofs.YtbbadmlekagloaaDoor
namespace Go.Proofs.YtbbadmlekagloaaDoor
open Go Go.Sh
set_option linter.unusedVariables false
set_option linter.unusedSimpArgs false
attribute [local irreducible] Blk Ext RdS
theorem same_c (A B : Option Addr) (l m : List FE) (c d : Nat) (w : World) (hA : RdP w A l) (hB : RdP w B m) (hl : l.length ≤ 1048576) (hc : ∀ x ∈ l, x.1.code.length ≤ 1048576) :
    Cl Tryd.prog 46 #[pv A l.length c, pv B m.length d] w (fun v w' => v = .bool (decide (fns l = fns m)) ∧ Ext w w') (fun _ _ => False) := by
  refine calls_ex (args := [pv A l.length c, pv B m.length d]) T.ok Tryd.func46 rfl rfl rfl rfl ?_
  have H := Hp.begin nw w
  refine Sq.mk ?_
  ((conv => whnf); refine Al.hp H ?_; clear H; intro pp _ H _)
  ((conv => whnf); refine Al.hp H ?_; clear H; intro pq _ H _)
  repeat' ((conv => whnf); first | (((with_reducible show Gd _ _ _); first | with_reducible refine Gd.t ?_ | with_reducible refine Gd.f ?_ | with_reducible refine Gd.dec (fun _ => ?_) (fun _ => ?_) | with_reducible refine Gd.beq (fun _ => ?_) (fun _ => ?_) | with_reducible refine Gd.bne (fun _ => ?_) (fun _ => ?_) | with_reducible refine Gd.not ?_ | refine Gd.t ?_ | refine Gd.f ?_ | with_reducible refine Gd.var (fun _ => ?_) (fun _ => ?_)) <;> first | (exfalso; omega) | skip) | with_reducible refine Sq.mk ?_ | ((with_reducible show Ld1 _ _ _); first | refine Ld1.h H ?_ | refine Ld1.rF ?_ | refine Ld1.r ?_) | ((with_reducible show Ld _ _ _ _); first | refine Ld.h H ?_ | refine Ld.r ?_) | ((with_reducible show Ix _ _ _ _ _); (first | refine Ix.h ?_ | refine Ix.ha ?_)) | (refine Al.hp H ?_; clear H; intro _ _ H _) | (refine St.h H ?_; clear H; intro _ H))
  · refine ⟨b_eq ?_, H.e⟩
    rw [eq_comm, decide_eq_false_iff_not]
    intro h
    have := congrArg List.length h
    rw [fns_len, fns_len] at this
    omega
  have hlm : l.length = m.length := by omega
  refine Lp.g0 T.ok (σ := Nat) (fun i => [(5, .int .i64 (i : Int)), (2, .pointer (some ⟨pp, 0, none⟩)), (3, .pointer (some ⟨pq, 0, none⟩))])
    (fun i w' => i ≤ l.length ∧ (fns l).take i = (fns m).take i ∧ Hp nw w w' [bk pq 46 (pv B m.length d).cells.toList, bk pp 46 (pv A l.length c).cells.toList]) (fun i _ => l.length - i) 0 rfl ⟨rfl, rfl, rfl, trivial⟩ ⟨Nat.zero_le _, by simp, H⟩ ?_
  clear H
  rintro i w5 ⟨hi, htk, H⟩
  by_cases hlt : i < l.length
  · obtain ⟨x, hx⟩ : ∃ x, l[i]? = some x := ⟨_, List.getElem?_eq_getElem hlt⟩
    obtain ⟨y, hy⟩ : ∃ y, m[i]? = some y := ⟨_, List.getElem?_eq_getElem (by omega)⟩
    have hA5 := hA.ext H.e
    have hB5 := hB.ext H.e
    have hAt := hA5.top
    have hBt := hB5.top
    have hxm := List.mem_of_getElem? hx
    have hym := List.mem_of_getElem? hy
    repeat' ((conv => whnf); first | (((with_reducible show Gd _ _ _); first | with_reducible refine Gd.t ?_ | with_reducible refine Gd.f ?_ | with_reducible refine Gd.dec (fun _ => ?_) (fun _ => ?_) | with_reducible refine Gd.beq (fun _ => ?_) (fun _ => ?_) | with_reducible refine Gd.bne (fun _ => ?_) (fun _ => ?_) | with_reducible refine Gd.not ?_ | refine Gd.t ?_ | refine Gd.f ?_ | with_reducible refine Gd.var (fun _ => ?_) (fun _ => ?_)) <;> first | (exfalso; omega) | skip) | with_reducible refine Sq.mk ?_ | ((with_reducible show Ld1 _ _ _); first | refine Ld1.h H ?_ | refine Ld1.rF ?_ | refine Ld1.r ?_) | ((with_reducible show Ld _ _ _ _); first | refine Ld.h H ?_ | refine Ld.r ?_) | ((with_reducible show Ix _ _ _ _ _); (first | refine Ix.h ?_ | refine Ix.ha ?_)) | (refine Al.hp H ?_; clear H; intro _ _ H _) | (refine St.h H ?_; clear H; intro _ H))
    ((conv => whnf); refine Dr.quiet T.ok mixed (by kernel_rfl) (fun W hW => ?_))
    repeat' (first | ((conv => whnf); first | (((with_reducible show Gd _ _ _); first | with_reducible refine Gd.t ?_ | with_reducible refine Gd.f ?_ | with_reducible refine Gd.dec (fun _ => ?_) (fun _ => ?_) | with_reducible refine Gd.beq (fun _ => ?_) (fun _ => ?_) | with_reducible refine Gd.bne (fun _ => ?_) (fun _ => ?_) | with_reducible refine Gd.not ?_ | refine Gd.t ?_ | refine Gd.f ?_ | with_reducible refine Gd.var (fun _ => ?_) (fun _ => ?_)) <;> first | (exfalso; omega) | skip) | ((with_reducible show QLd1 _ _ _); first | refine QLd1.h hW H ?_ | refine QLd1.rF hW ?_ | refine QLd1.r hW ?_) | ((with_reducible show QLd _ _ _ _); first | refine QLd.h hW H ?_ | refine QLd.r hW ?_) | ((with_reducible show Ix _ _ _ _ _); (first | refine Ix.h ?_ | refine Ix.ha ?_))) | ((conv => whnf); refine QCl.mk hW (fun _ ee => Cl.mk (sameFunc_c x.1 y.1 x.2.1 y.2.1 x.2.2 y.2.2 _ (RdS.from ee (hA5.code x hxm)) (RdS.from ee (hB5.code y hym)) (hc x hxm)) (fun _ _ h => h)) ?_))
    clear hA5 hB5 hAt hBt
    (intro _ eT; replace H := H.ext eT; clear hW eT)
    repeat' ((conv => whnf); first | (((with_reducible show Gd _ _ _); first | with_reducible refine Gd.t ?_ | with_reducible refine Gd.f ?_ | with_reducible refine Gd.dec (fun _ => ?_) (fun _ => ?_) | with_reducible refine Gd.beq (fun _ => ?_) (fun _ => ?_) | with_reducible refine Gd.bne (fun _ => ?_) (fun _ => ?_) | with_reducible refine Gd.not ?_ | refine Gd.t ?_ | refine Gd.f ?_ | with_reducible refine Gd.var (fun _ => ?_) (fun _ => ?_)) <;> first | (exfalso; omega) | skip) | with_reducible refine Sq.mk ?_ | ((with_reducible show Ld1 _ _ _); first | refine Ld1.h H ?_ | refine Ld1.rF ?_ | refine Ld1.r ?_) | ((with_reducible show Ld _ _ _ _); first | refine Ld.h H ?_ | refine Ld.r ?_) | ((with_reducible show Ix _ _ _ _ _); (first | refine Ix.h ?_ | refine Ix.ha ?_)) | (refine Al.hp H ?_; clear H; intro _ _ H _) | (refine St.h H ?_; clear H; intro _ H))
    · rename_i hxy
      exact ⟨i + 1, ⟨at_int (m := ((i + 1 : Nat) : Int)) rfl (w64 (by simp) (by omega) (by omega)), rfl, rfl, trivial⟩, rfl, ⟨by omega, take_next htk (fns_at hx) (by rw [hxy]; exact fns_at hy), H⟩, by omega⟩
    · rename_i hxy
      refine ⟨b_eq ?_, H.e⟩
      rw [eq_comm, decide_eq_false_iff_not]
      intro h
      have h1 := fns_at hx
      rw [h, fns_at hy] at h1
      exact hxy (Option.some.inj h1).symm
  · have hi : i = l.length := by omega
    subst hi
    repeat' ((conv => whnf); first | (((with_reducible show Gd _ _ _); first | with_reducible refine Gd.t ?_ | with_reducible refine Gd.f ?_ | with_reducible refine Gd.dec (fun _ => ?_) (fun _ => ?_) | with_reducible refine Gd.beq (fun _ => ?_) (fun _ => ?_) | with_reducible refine Gd.bne (fun _ => ?_) (fun _ => ?_) | with_reducible refine Gd.not ?_ | refine Gd.t ?_ | refine Gd.f ?_ | with_reducible refine Gd.var (fun _ => ?_) (fun _ => ?_)) <;> first | (exfalso; omega) | skip) | with_reducible refine Sq.mk ?_ | ((with_reducible show Ld1 _ _ _); first | refine Ld1.h H ?_ | refine Ld1.rF ?_ | refine Ld1.r ?_) | ((with_reducible show Ld _ _ _ _); first | refine Ld.h H ?_ | refine Ld.r ?_) | ((with_reducible show Ix _ _ _ _ _); (first | refine Ix.h ?_ | refine Ix.ha ?_)) | (refine Al.hp H ?_; clear H; intro _ _ H _) | (refine St.h H ?_; clear H; intro _ H))
    refine ⟨b_eq ?_, H.e⟩
    rw [eq_comm, decide_eq_true_eq]
    exact take_all (by rw [fns_len, fns_len]; exact hlm) (by rw [fns_len]; exact htk)
end Go.Proofs.YtbbadmlekagloaaDoor
namespace Go.Proofs.YtbbadmlekagloaaDoor
open Go Go.Sh
set_option linter.unusedVariables false
set_option linter.unusedSimpArgs false
attribute [local irreducible] Blk Ext RdS
/-- blocks of code, one apart from the other -/
def CodeBlks (qs : List Nat) (cs : List (List Ins)) (w : World) : Prop := qs.length = cs.length ∧ qs.Nodup ∧ ∀ (i q : Nat) (c : List Ins), qs[i]? = some q → cs[i]? = some c → Blk w q 35 (c.flatMap Ins.enc)
abbrev cdk (qs : List Nat) (cs : List (List Ins)) : Ck := ⟨fun k => k ∈ qs, CodeBlks qs cs, true, false⟩
theorem cdk_ok {qs : List Nat} {cs : List (List Ins)} {w : World} (h : CodeBlks qs cs w) : (cdk qs cs).Ok w := by
  obtain ⟨h1, h2, h3⟩ := h
  refine ⟨⟨h1, h2, h3⟩, fun k hk => ?_, fun w' _ hb => ⟨h1, h2, fun i q c hq hc => ?_⟩⟩
  · obtain ⟨i, hi⟩ := List.getElem?_of_mem hk
    obtain ⟨c, hc⟩ : ∃ c, cs[i]? = some c := ⟨_, List.getElem?_eq_getElem (by rw [← h1]; exact (List.getElem?_eq_some_iff.1 hi).1)⟩
    exact (h3 i k c hi hc).lt
  · have := h3 i q c hq hc
    unfold Blk at this ⊢; rw [hb q (List.mem_of_getElem? hq)]; exact this
theorem cdk_nil (w : World) : CodeBlks [] [] w := ⟨rfl, List.nodup_nil, fun i q c h => by simp at h⟩
theorem Hp.cdSnoc {S : Nat → Prop} {w0 w : World} {Γ : List Ck} {q : Nat} {c : List Ins} {qs : List Nat} {cs : List (List Ins)} (H : Hp S w0 w (bk q 35 (c.flatMap Ins.enc) :: cdk qs cs :: Γ)) : Hp S w0 w (cdk (qs ++ [q]) (cs ++ [c]) :: Γ) := by
  refine H.join2 rfl rfl (.inl rfl) (fun k hk => ?_) fun hd h1 h2 => cdk_ok ?_
  · rcases List.mem_append.1 hk with h | h
    · exact .inr h
    · exact .inl (by simpa using h)
  · obtain ⟨g1, g2, g3⟩ := h2.holds
    have hq : q ∉ qs := fun h => hd q ⟨rfl, h⟩
    refine ⟨by simp [g1], ?_, fun i q' c' hi hc => ?_⟩
    · rw [List.nodup_append]
      exact ⟨g2, by simp, fun a ha b hb => by simp at hb; subst hb; exact fun e => hq (e ▸ ha)⟩
    · rcases Nat.lt_or_ge i qs.length with hlt | hge
      · rw [List.getElem?_append_left hlt] at hi
        rw [List.getElem?_append_left (by omega)] at hc
        exact g3 i q' c' hi hc
      · have : i = qs.length := by have := (List.getElem?_eq_some_iff.1 hi).1; simp at this; omega
        subst this
        rw [List.getElem?_append_right (Nat.le_refl _)] at hi
        rw [List.getElem?_append_right (by omega), g1] at hc
        simp at hi hc
        subst hi hc
        exact h1.holds
/-- an element of one of them is written -/
theorem St.cd {S : Nat → Prop} {w0 w : World} {Γ Γ' : List Ck} {k : World → Prop} {qs : List Nat} {cs : List (List Ins)} {i j q : Nat} {c : List Ins} {x : Ins} (H : Hp S w0 w Γ) (hq : qs[i]? = some q) (hc : cs[i]? = some c) (hj : j < c.length) (hk : ∀ w', Hp S w0 w' Γ' → k w')
    (u : Upd1 Γ (cdk qs cs) (cdk qs (cs.set i (c.set j x))) Γ' := by (repeat (first | exact Upd1.head | apply Upd1.tail))) : St w ((gA (some ⟨q, 0, none⟩)).add (j * 5)) (Ins.enc x) k := by
  obtain ⟨L, R, h2, rfl⟩ := u.sp
  obtain ⟨g1, g2, g3⟩ : CodeBlks qs cs w := H.mem (c := cdk qs cs) (by rw [h2.eq]; simp)
  refine St.elb (g3 i q c hq hc) (fun _ _ => rfl) rfl hj rfl fun w' u hb => hk w' (H.putS h2 (Hp.one (((Tch.refl _ _).upd u (.inl (List.mem_of_getElem? hq)))) (cdk_ok ⟨by simpa using g1, g2, fun i' q' c' hi' hc' => ?_⟩) (fun k hk => .inl hk)) rfl (.inl rfl))
  by_cases e : i' = i
  · subst e
    have hlt := (List.getElem?_eq_some_iff.1 hc).1
    rw [List.getElem?_set_self hlt] at hc'
    rw [hq] at hi'
    simp at hi' hc'
    subst hi' hc'
    exact hb
  · rw [List.getElem?_set_ne (fun h => e h.symm)] at hc'
    have hne : q' ≠ q := fun h => by
      subst h
      have h1 := (List.getElem?_eq_some_iff.1 hi')
      have h2 := (List.getElem?_eq_some_iff.1 hq)
      have h3 := List.pairwise_iff_getElem.1 g2
      rcases Nat.lt_trichotomy i' i with hlt | heq | hgt
      · exact h3 i' i h1.1 h2.1 hlt (h1.2.trans h2.2.symm)
      · exact e heq
      · exact h3 i i' h2.1 h1.1 hgt (h2.2.trans h1.2.symm)
    exact (g3 i' q' c' hi' hc').upd u hne
def lai (f : Fn) (q : Nat) : FE := (f, some ⟨q, 0, none⟩, f.code.length + 2)
def zipE (fs : List Fn) (qs : List Nat) : List FE := List.zipWith lai fs qs
def cdV (f : Fn) (q : Nat) : Value := .slice (some ⟨q, 0, none⟩) (f.code.length + 2) (f.code.length + 2)
def zipV (fs : List Fn) (qs : List Nat) : List Value := List.zipWith cdV fs qs
def spC (f : Fn) : List Ins := f.code ++ [oddI 0, oddI 1]
def zF : FE := (⟨0, 0, 0, []⟩, none, 0)
def markF : FE := (⟨-5, 0, 0, []⟩, none, 0)
theorem zip_snoc {α : Type} (g : Fn → Nat → α) {f : Fn} {q : Nat} : ∀ {fs : List Fn} {qs : List Nat}, fs[qs.length]? = some f → List.zipWith g fs (qs ++ [q]) = List.zipWith g fs qs ++ [g f q]
  | [], qs, h => by simp at h
  | f0 :: r, [], h => by simp at h; subst h; simp
  | f0 :: r, q0 :: qs, h => by simp at h; simp [zip_snoc g h]
theorem zip_len {α : Type} (g : Fn → Nat → α) {fs : List Fn} {qs : List Nat} (h : qs.length ≤ fs.length) : (List.zipWith g fs qs).length = qs.length := by simp; omega
theorem set_end {α : Type} {l r : List α} {x z : α} {n : Nat} (h : n = l.length) : (l ++ z :: r).set n x = l ++ [x] ++ r := by
  subst h; simp
/-- a program laid anew -/
def Wrapped (fs : List Fn) (w : World) (v : Value) (w' : World) : Prop := ∃ pf qs C cc, v = .agg #[.slice (some ⟨pf, 0, none⟩) fs.length (fs.length + 1), .slice (some ⟨pf, 0, none⟩) (fs.length + 1) (fs.length + 1), .slice C fs.length cc] ∧ qs.length = fs.length ∧
  Hp nw w w' [cdk qs (fs.map spC), qu vals 1 22 C cc (zipV fs qs), bk pf 24 ((zipE fs qs ++ [markF]).flatMap FE.enc)]
theorem wrap_c (A : Option Addr) (l : List FE) (c : Nat) (w : World) (hA : RdP w A l) (hl : l.length ≤ 1048576) (hc : ∀ x ∈ l, x.1.code.length ≤ 1048576) :
    Cl Tryd.prog 29 #[pv A l.length c] w (Wrapped (fns l) w) (fun _ _ => False) := by
  have hfl := fns_len l
  have hw1 : IntKind.i64.wrap ((l.length : Int) + 1) = ((l.length + 1 : Nat) : Int) := w64 (by simp) (by omega) (by omega)
  refine calls_ex (args := [pv A l.length c]) T.ok Tryd.func29 rfl rfl rfl rfl ?_
  have H := Hp.begin nw w
  refine Sq.mk ?_
  ((conv => whnf); refine Al.hp H ?_; clear H; intro pp _ H _)
  ((conv => whnf); refine Al.hp H ?_; clear H; intro pr _ H _)
  repeat' ((conv => whnf); first | (((with_reducible show Gd _ _ _); first | with_reducible refine Gd.t ?_ | with_reducible refine Gd.f ?_ | with_reducible refine Gd.dec (fun _ => ?_) (fun _ => ?_) | with_reducible refine Gd.beq (fun _ => ?_) (fun _ => ?_) | with_reducible refine Gd.bne (fun _ => ?_) (fun _ => ?_) | with_reducible refine Gd.not ?_ | refine Gd.t ?_ | refine Gd.f ?_ | with_reducible refine Gd.var (fun _ => ?_) (fun _ => ?_)) <;> first | (exfalso; omega) | skip) | with_reducible refine Sq.mk ?_ | ((with_reducible show Ld1 _ _ _); first | refine Ld1.h H ?_ | refine Ld1.rF ?_ | refine Ld1.r ?_) | ((with_reducible show Ld _ _ _ _); first | refine Ld.h H ?_ | refine Ld.r ?_) | ((with_reducible show Ix _ _ _ _ _); (first | refine Ix.h ?_ | refine Ix.ha ?_)) | (refine St.h H ?_; clear H; intro _ H))
  ((conv => whnf); refine Al.hp H ?_; clear H; intro pg _ H _)
  repeat' ((conv => whnf); first | (((with_reducible show Gd _ _ _); first | with_reducible refine Gd.t ?_ | with_reducible refine Gd.f ?_ | with_reducible refine Gd.dec (fun _ => ?_) (fun _ => ?_) | with_reducible refine Gd.beq (fun _ => ?_) (fun _ => ?_) | with_reducible refine Gd.bne (fun _ => ?_) (fun _ => ?_) | with_reducible refine Gd.not ?_ | refine Gd.t ?_ | refine Gd.f ?_ | with_reducible refine Gd.var (fun _ => ?_) (fun _ => ?_)) <;> first | (exfalso; omega) | skip) | with_reducible refine Sq.mk ?_ | ((with_reducible show Ld1 _ _ _); first | refine Ld1.h H ?_ | refine Ld1.rF ?_ | refine Ld1.r ?_) | ((with_reducible show Ld _ _ _ _); first | refine Ld.h H ?_ | refine Ld.r ?_) | ((with_reducible show Ix _ _ _ _ _); (first | refine Ix.h ?_ | refine Ix.ha ?_)) | (refine Al.hp H ?_; clear H; intro _ _ H _) | (refine St.h H ?_; clear H; intro _ H))
  refine Sm.makeh (enc := FE.enc) (z := zF) (n := l.length + 1) H T.ok ?_ (by omega) (fun pf w2 H _ => ?_)
  · exact Nat.le_trans (Nat.mul_le_mul_left _ (show l.length + 1 ≤ 1048577 by omega)) (by decide)
  repeat' ((conv => whnf); first | (((with_reducible show Gd _ _ _); first | with_reducible refine Gd.t ?_ | with_reducible refine Gd.f ?_ | with_reducible refine Gd.dec (fun _ => ?_) (fun _ => ?_) | with_reducible refine Gd.beq (fun _ => ?_) (fun _ => ?_) | with_reducible refine Gd.bne (fun _ => ?_) (fun _ => ?_) | with_reducible refine Gd.not ?_ | refine Gd.t ?_ | refine Gd.f ?_ | with_reducible refine Gd.var (fun _ => ?_) (fun _ => ?_)) <;> first | (exfalso; omega) | skip) | with_reducible refine Sq.mk ?_ | ((with_reducible show Ld1 _ _ _); first | refine Ld1.h H ?_ | refine Ld1.rF ?_ | refine Ld1.r ?_) | ((with_reducible show Ld _ _ _ _); first | refine Ld.h H ?_ | refine Ld.r ?_) | ((with_reducible show Ix _ _ _ _ _); (first | refine Ix.h ?_ | refine Ix.ha ?_)) | (refine Al.hp H ?_; clear H; intro _ _ H _) | (refine St.h H ?_; clear H; intro _ H))
  replace H := H.fr0 (Hp.one (Tch.refl _ _) (cdk_ok (cdk_nil _)) (fun k hk => absurd hk (by simp))) (.inl rfl)
  replace H := H.nil vals 1 22
  refine Lp.g0 T.ok (σ := List Nat × Option Addr × Nat) (fun s => [(5, .int .i64 (s.1.length : Int)), (3, .int .i64 (l.length : Int)), (4, .pointer (some ⟨pg, 0, none⟩)), (1, .pointer (some ⟨pp, 0, none⟩)), (2, .pointer (some ⟨pr, 0, none⟩))])
    (fun s w' => s.1.length ≤ l.length ∧ Hp nw w w' [qu vals 1 22 s.2.1 s.2.2 (zipV (fns l) s.1), cdk s.1 (((fns l).take s.1.length).map spC), bk pf 24 ((zipE (fns l) s.1 ++ List.replicate (l.length + 1 - s.1.length) zF).flatMap FE.enc),
      bk pg 52 [.slice none 0 0, .slice (some ⟨pf, 0, none⟩) (l.length + 1) (l.length + 1), .slice s.2.1 s.1.length s.2.2], bk pr 52 T.t52.zero.cells.toList, bk pp 46 (pv A l.length c).cells.toList]) (fun s _ => l.length - s.1.length) ([], none, 0) rfl ⟨rfl, rfl, rfl, rfl, rfl, trivial⟩ ⟨Nat.zero_le _, by simp only [zipE, zipV, List.zipWith_nil_right]; exact H⟩ ?_
  clear H
  rintro ⟨qs, C, cc⟩ w5 ⟨hi, H⟩
  simp only at hi H ⊢
  have hzl : (zipE (fns l) qs).length = qs.length := zip_len lai (by omega)
  have hvl : (zipV (fns l) qs).length = qs.length := zip_len cdV (by omega)
  by_cases hlt : qs.length < l.length
  · obtain ⟨x, hx⟩ : ∃ x, l[qs.length]? = some x := ⟨_, List.getElem?_eq_getElem hlt⟩
    have hxm := List.mem_of_getElem? hx
    have hfx := fns_at hx
    have hA5 := RdS.from H.e hA.top
    have hcx := hc x hxm
    repeat' ((conv => whnf); first | (((with_reducible show Gd _ _ _); first | with_reducible refine Gd.t ?_ | with_reducible refine Gd.f ?_ | with_reducible refine Gd.dec (fun _ => ?_) (fun _ => ?_) | with_reducible refine Gd.beq (fun _ => ?_) (fun _ => ?_) | with_reducible refine Gd.bne (fun _ => ?_) (fun _ => ?_) | with_reducible refine Gd.not ?_ | refine Gd.t ?_ | refine Gd.f ?_ | with_reducible refine Gd.var (fun _ => ?_) (fun _ => ?_)) <;> first | (exfalso; omega) | skip) | with_reducible refine Sq.mk ?_ | ((with_reducible show Ld1 _ _ _); first | refine Ld1.h H ?_ | refine Ld1.rF ?_ | refine Ld1.r ?_) | ((with_reducible show Ld _ _ _ _); first | refine Ld.h H ?_ | refine Ld.r ?_) | ((with_reducible show Ix _ _ _ _ _); (first | refine Ix.h ?_ | refine Ix.ha ?_)) | (refine Al.hp H ?_; clear H; intro _ _ H _) | (refine St.h H ?_; clear H; intro _ H))
    clear hA5
    ((conv => whnf); refine Cl.mk (spare_c x.1 x.2.1 x.2.2 _ (RdS.from H.e (hA.code x hxm)) hcx) ?_)
    rintro _ w6 ⟨q, rfl, hqlo, hbq, e⟩
    replace H := H.fr0 (Hp.one (Tch.of_ext e) (bk_ok hbq) (fun k hk => .inr (by subst hk; exact hqlo))) (.inl rfl)
    clear hbq e hqlo
    repeat' ((conv => whnf); first | (((with_reducible show Gd _ _ _); first | with_reducible refine Gd.t ?_ | with_reducible refine Gd.f ?_ | with_reducible refine Gd.dec (fun _ => ?_) (fun _ => ?_) | with_reducible refine Gd.beq (fun _ => ?_) (fun _ => ?_) | with_reducible refine Gd.bne (fun _ => ?_) (fun _ => ?_) | with_reducible refine Gd.not ?_ | refine Gd.t ?_ | refine Gd.f ?_ | with_reducible refine Gd.var (fun _ => ?_) (fun _ => ?_)) <;> first | (exfalso; omega) | skip) | with_reducible refine Sq.mk ?_ | ((with_reducible show Ld1 _ _ _); first | refine Ld1.h H ?_ | refine Ld1.rF ?_ | refine Ld1.r ?_) | ((with_reducible show Ld _ _ _ _); first | refine Ld.h H ?_ | refine Ld.r ?_) | ((with_reducible show Ix _ _ _ _ _); (first | refine Ix.h ?_ | refine Ix.ha ?_)) | (refine St.h H ?_; clear H; intro _ H))
    ((conv => whnf); refine Al.hp H ?_; clear H; intro pt _ H _)
    repeat' ((conv => whnf); first | (((with_reducible show Gd _ _ _); first | with_reducible refine Gd.t ?_ | with_reducible refine Gd.f ?_ | with_reducible refine Gd.dec (fun _ => ?_) (fun _ => ?_) | with_reducible refine Gd.beq (fun _ => ?_) (fun _ => ?_) | with_reducible refine Gd.bne (fun _ => ?_) (fun _ => ?_) | with_reducible refine Gd.not ?_ | refine Gd.t ?_ | refine Gd.f ?_ | with_reducible refine Gd.var (fun _ => ?_) (fun _ => ?_)) <;> first | (exfalso; omega) | skip) | with_reducible refine Sq.mk ?_ | ((with_reducible show Ld1 _ _ _); first | refine Ld1.h H ?_ | refine Ld1.rF ?_ | refine Ld1.r ?_) | ((with_reducible show Ld _ _ _ _); first | refine Ld.h H ?_ | refine Ld.r ?_) | ((with_reducible show Ix _ _ _ _ _); (first | refine Ix.h ?_ | refine Ix.ha ?_)) | (refine Al.hp H ?_; clear H; intro _ _ H _) | (refine St.h H ?_; clear H; intro _ H))
    have hrp := H.rdb (enc := FE.enc) (sz := 4) 4 rfl (fun _ _ => rfl)
    have hrl : (zipE (fns l) qs ++ List.replicate (l.length + 1 - qs.length) zF).length = l.length + 1 := by simp [hzl]; omega
    repeat' ((conv => whnf); first | (((with_reducible show Gd _ _ _); first | with_reducible refine Gd.t ?_ | with_reducible refine Gd.f ?_ | with_reducible refine Gd.dec (fun _ => ?_) (fun _ => ?_) | with_reducible refine Gd.beq (fun _ => ?_) (fun _ => ?_) | with_reducible refine Gd.bne (fun _ => ?_) (fun _ => ?_) | with_reducible refine Gd.not ?_ | refine Gd.t ?_ | refine Gd.f ?_ | with_reducible refine Gd.var (fun _ => ?_) (fun _ => ?_)) <;> first | (exfalso; omega) | skip) | with_reducible refine Sq.mk ?_ | ((with_reducible show Ld1 _ _ _); first | refine Ld1.h H ?_ | refine Ld1.rF ?_ | refine Ld1.r ?_) | ((with_reducible show Ld _ _ _ _); first | refine Ld.h H ?_ | refine Ld.r ?_) | ((with_reducible show Ix _ _ _ _ _); (first | refine Ix.h ?_ | refine Ix.ha ?_)) | (refine Al.hp H ?_; clear H; intro _ _ H _) | (refine St.h H ?_; clear H; intro _ H))
    refine St.el (enc := FE.enc) (x := lai x.1 q) (j := qs.length) H (fun _ _ => rfl) rfl (by rw [hrl]; omega) rfl ?_
    clear H hrp
    rintro w7 H
    have hset : (zipE (fns l) qs ++ List.replicate (l.length + 1 - qs.length) zF).set qs.length (lai x.1 q) = zipE (fns l) (qs ++ [q]) ++ List.replicate (l.length + 1 - (qs ++ [q]).length) zF := by
      rw [show l.length + 1 - qs.length = (l.length + 1 - (qs ++ [q]).length) + 1 by simp; omega, List.replicate_succ, set_end hzl.symm, zipE, zipE, zip_snoc lai hfx]
    rw [hset] at H
    replace H := H.d0
    repeat' ((conv => whnf); first | (((with_reducible show Gd _ _ _); first | with_reducible refine Gd.t ?_ | with_reducible refine Gd.f ?_ | with_reducible refine Gd.dec (fun _ => ?_) (fun _ => ?_) | with_reducible refine Gd.beq (fun _ => ?_) (fun _ => ?_) | with_reducible refine Gd.bne (fun _ => ?_) (fun _ => ?_) | with_reducible refine Gd.not ?_ | refine Gd.t ?_ | refine Gd.f ?_ | with_reducible refine Gd.var (fun _ => ?_) (fun _ => ?_)) <;> first | (exfalso; omega) | skip) | with_reducible refine Sq.mk ?_ | ((with_reducible show Ld1 _ _ _); first | refine Ld1.h H ?_ | refine Ld1.rF ?_ | refine Ld1.r ?_) | ((with_reducible show Ld _ _ _ _); first | refine Ld.h H ?_ | refine Ld.r ?_) | ((with_reducible show Ix _ _ _ _ _); (first | refine Ix.h ?_ | refine Ix.ha ?_)) | (refine Al.hp H ?_; clear H; intro _ _ H _) | (refine St.h H ?_; clear H; intro _ H))
    refine Sm.lith (cs := [cdV x.1 q]) H T.ok (fun p8 w8 H _ => ?_)
    refine Sm.ap1 (enc := vals) (cdV x.1 q) H T.ok ?_ (by omega) (fun C' cc' w9 H => ?_) (hn := hvl.symm)
    · exact Nat.le_trans (Nat.mul_le_mul_right _ (show qs.length + 1 ≤ 1048577 by omega)) (by decide)
    have hz : zipV (fns l) qs ++ [cdV x.1 q] = zipV (fns l) (qs ++ [q]) := by rw [zipV, zipV, zip_snoc cdV hfx]
    rw [hz] at H
    simp only [List.cons_append, List.nil_append] at H
    repeat' ((conv => whnf); first | (((with_reducible show Gd _ _ _); first | with_reducible refine Gd.t ?_ | with_reducible refine Gd.f ?_ | with_reducible refine Gd.dec (fun _ => ?_) (fun _ => ?_) | with_reducible refine Gd.beq (fun _ => ?_) (fun _ => ?_) | with_reducible refine Gd.bne (fun _ => ?_) (fun _ => ?_) | with_reducible refine Gd.not ?_ | refine Gd.t ?_ | refine Gd.f ?_ | with_reducible refine Gd.var (fun _ => ?_) (fun _ => ?_)) <;> first | (exfalso; omega) | skip) | with_reducible refine Sq.mk ?_ | ((with_reducible show Ld1 _ _ _); first | refine Ld1.h H ?_ | refine Ld1.rF ?_ | refine Ld1.r ?_) | ((with_reducible show Ld _ _ _ _); first | refine Ld.h H ?_ | refine Ld.r ?_) | ((with_reducible show Ix _ _ _ _ _); (first | refine Ix.h ?_ | refine Ix.ha ?_)) | (refine Al.hp H ?_; clear H; intro _ _ H _) | (refine St.h H ?_; clear H; intro _ H))
    replace H := Hp.cdSnoc (H.sel [0, 1, 0, 0, 0, 0, 0] rfl)
    have htk : ((fns l).take qs.length).map spC ++ [spC x.1] = ((fns l).take (qs ++ [q]).length).map spC := by
      obtain ⟨h1, h2⟩ := List.getElem?_eq_some_iff.1 hfx
      rw [List.length_append, List.length_singleton, List.take_succ_eq_append_getElem h1, List.map_append, h2]; rfl
    have hql : (qs ++ [q]).length = qs.length + 1 := by simp
    replace H := H.sel [1, 0, 0, 0, 0, 0] rfl
    refine ⟨(qs ++ [q], C', cc'), ⟨at_int rfl (w64 (by simp) (by omega) (by simp; omega)), rfl, rfl, rfl, rfl, trivial⟩, rfl, ⟨by simp only [hql]; omega, ?_⟩, by simp only [hql]; omega⟩
    simp only
    rw [← htk, hql]
    rw [hql] at H
    exact H
  · have hq : qs.length = l.length := by omega
    have hrp := H.rdb (enc := FE.enc) (sz := 4) 2 rfl (fun _ _ => rfl)
    have hrl : (zipE (fns l) qs ++ List.replicate (l.length + 1 - qs.length) zF).length = l.length + 1 := by simp [hzl]; omega
    repeat' ((conv => whnf); first | (((with_reducible show Gd _ _ _); first | with_reducible refine Gd.t ?_ | with_reducible refine Gd.f ?_ | with_reducible refine Gd.dec (fun _ => ?_) (fun _ => ?_) | with_reducible refine Gd.beq (fun _ => ?_) (fun _ => ?_) | with_reducible refine Gd.bne (fun _ => ?_) (fun _ => ?_) | with_reducible refine Gd.not ?_ | refine Gd.t ?_ | refine Gd.f ?_ | with_reducible refine Gd.var (fun _ => ?_) (fun _ => ?_)) <;> first | (exfalso; omega) | skip) | with_reducible refine Sq.mk ?_ | ((with_reducible show Ld1 _ _ _); first | refine Ld1.h H ?_ | refine Ld1.rF ?_ | refine Ld1.r ?_) | ((with_reducible show Ld _ _ _ _); first | refine Ld.h H ?_ | refine Ld.r ?_) | ((with_reducible show Ix _ _ _ _ _); (first | refine Ix.h ?_ | refine Ix.ha ?_)) | (refine Al.hp H ?_; clear H; intro _ _ H _) | (refine St.h H ?_; clear H; intro _ H))
    refine St.el (enc := FE.enc) (x := markF) (j := l.length) H (fun _ _ => rfl) rfl (by rw [hrl]; omega) rfl ?_
    clear H hrp
    rintro w7 H
    have hset : (zipE (fns l) qs ++ List.replicate (l.length + 1 - qs.length) zF).set l.length markF = zipE (fns l) qs ++ [markF] := by
      rw [show l.length + 1 - qs.length = 0 + 1 by omega, List.replicate_succ, set_end (by omega)]; simp
    rw [hset] at H
    repeat' ((conv => whnf); first | (((with_reducible show Gd _ _ _); first | with_reducible refine Gd.t ?_ | with_reducible refine Gd.f ?_ | with_reducible refine Gd.dec (fun _ => ?_) (fun _ => ?_) | with_reducible refine Gd.beq (fun _ => ?_) (fun _ => ?_) | with_reducible refine Gd.bne (fun _ => ?_) (fun _ => ?_) | with_reducible refine Gd.not ?_ | refine Gd.t ?_ | refine Gd.f ?_ | with_reducible refine Gd.var (fun _ => ?_) (fun _ => ?_)) <;> first | (exfalso; omega) | skip) | with_reducible refine Sq.mk ?_ | ((with_reducible show Ld1 _ _ _); first | refine Ld1.h H ?_ | refine Ld1.rF ?_ | refine Ld1.r ?_) | ((with_reducible show Ld _ _ _ _); first | refine Ld.h H ?_ | refine Ld.r ?_) | ((with_reducible show Ix _ _ _ _ _); (first | refine Ix.h ?_ | refine Ix.ha ?_)) | (refine Al.hp H ?_; clear H; intro _ _ H _) | (refine St.h H ?_; clear H; intro _ H))
    refine Sm.cutHi T.ok rfl rfl rfl rfl rfl (by omega) ?_
    repeat' ((conv => whnf); first | (((with_reducible show Gd _ _ _); first | with_reducible refine Gd.t ?_ | with_reducible refine Gd.f ?_ | with_reducible refine Gd.dec (fun _ => ?_) (fun _ => ?_) | with_reducible refine Gd.beq (fun _ => ?_) (fun _ => ?_) | with_reducible refine Gd.bne (fun _ => ?_) (fun _ => ?_) | with_reducible refine Gd.not ?_ | refine Gd.t ?_ | refine Gd.f ?_ | with_reducible refine Gd.var (fun _ => ?_) (fun _ => ?_)) <;> first | (exfalso; omega) | skip) | with_reducible refine Sq.mk ?_ | ((with_reducible show Ld1 _ _ _); first | refine Ld1.h H ?_ | refine Ld1.rF ?_ | refine Ld1.r ?_) | ((with_reducible show Ld _ _ _ _); first | refine Ld.h H ?_ | refine Ld.r ?_) | ((with_reducible show Ix _ _ _ _ _); (first | refine Ix.h ?_ | refine Ix.ha ?_)) | (refine Al.hp H ?_; clear H; intro _ _ H _) | (refine St.h H ?_; clear H; intro _ H))
    refine ⟨pf, qs, C, cc, ?_, by omega, ?_⟩
    · rw [hfl, ← hq]; rfl
    · rw [hq, ← hfl, List.take_length] at H
      exact H.sel [1, 0, 0] rfl
end Go.Proofs.YtbbadmlekagloaaDoor
namespace Go.Proofs.YtbbadmlekagloaaDoor
open Go Go.Sh
set_option linter.unusedVariables false
set_option linter.unusedSimpArgs false
attribute [local irreducible] Blk Ext RdS
theorem zip_at {α : Type} (g : Fn → Nat → α) {fs : List Fn} {qs : List Nat} {i : Nat} {f : Fn} {q : Nat} (hf : fs[i]? = some f) (hq : qs[i]? = some q) : (List.zipWith g fs qs)[i]? = some (g f q) := by
  rw [List.getElem?_zipWith, hf, hq]
theorem fns_zip {fs : List Fn} {qs : List Nat} (h : qs.length = fs.length) : fns (zipE fs qs) = fs := by
  apply List.ext_getElem?
  intro i
  simp only [fns, zipE, List.getElem?_map, List.getElem?_zipWith]
  rcases hf : fs[i]? with _ | f
  · simp
  · obtain ⟨q, hq⟩ : ∃ q, qs[i]? = some q := ⟨_, List.getElem?_eq_getElem (by rw [h]; exact (List.getElem?_eq_some_iff.1 hf).1)⟩
    simp [hq, lai]
/-- a program laid anew reads as it should -/
theorem rdp_zip {fs : List Fn} {qs : List Nat} {pf : Nat} {w : World} {tl : List FE} (h : qs.length = fs.length) (hf : RdS FE.enc 4 w (some ⟨pf, 0, none⟩) (zipE fs qs ++ tl)) (hc : CodeBlks qs (fs.map spC) w) : RdP w (some ⟨pf, 0, none⟩) (zipE fs qs) := by
  refine ⟨?_, fun x hx => ?_⟩
  · have := RdS.take (k := (zipE fs qs).length) hf
    rw [List.take_left] at this
    exact this
  · obtain ⟨i, hi⟩ := List.getElem?_of_mem hx
    obtain ⟨g1, g2, g3⟩ := hc
    rw [zipE, List.getElem?_zipWith] at hi
    rcases hfi : fs[i]? with _ | f
    · rw [hfi] at hi; simp at hi
    rcases hqi : qs[i]? with _ | q
    · rw [hfi, hqi] at hi; simp at hi
    rw [hfi, hqi] at hi
    simp at hi
    subst hi
    exact rd_pre (g3 i q (spC f) hqi (by simp [hfi]))
theorem untouched_c (fs : List Fn) (pf : Nat) (qs : List Nat) (C : Option Addr) (cc : Nat) (A : Option Addr) (l : List FE) (c : Nat) (w : World) (hA : RdP w A l) (hfs : fns l = fs) (hl : l.length ≤ 1048576) (hc : ∀ x ∈ l, x.1.code.length ≤ 1048576) (hq : qs.length = fs.length)
    (hcd : CodeBlks qs (fs.map spC) w) (hV : RdS vals 1 w C (zipV fs qs)) (hpf : RdS FE.enc 4 w (some ⟨pf, 0, none⟩) (zipE fs qs ++ [markF])) :
    Cl Tryd.prog 31 #[.agg #[.slice (some ⟨pf, 0, none⟩) l.length (l.length + 1), .slice (some ⟨pf, 0, none⟩) (l.length + 1) (l.length + 1), .slice C l.length cc], pv A l.length c] w (fun v w' => v = .bool true ∧ Ext w w') (fun _ _ => False) := by
  have hfl := fns_len l
  subst hfs
  have hzl : (zipE (fns l) qs).length = l.length := by rw [zipE, zip_len lai (by omega)]; omega
  have hvl : (zipV (fns l) qs).length = l.length := by rw [zipV, zip_len cdV (by omega)]; omega
  have hZ := rdp_zip hq hpf hcd
  have hlm : (zipE (fns l) qs ++ [markF]).length = l.length + 1 := by simp [hzl]
  have hlast : (zipE (fns l) qs ++ [markF])[l.length]? = some markF := by
    rw [List.getElem?_append_right (by omega), hzl]; simp
  have hcz : ∀ x ∈ zipE (fns l) qs, x.1.code.length ≤ 1048576 := fun x hx => by
    have h1 : x.1 ∈ fns l := by rw [← fns_zip hq]; exact List.mem_map.2 ⟨x, hx, rfl⟩
    obtain ⟨y, hy, e⟩ := List.mem_map.1 h1
    rw [← e]; exact hc y hy
  refine calls_ex (args := [.agg #[.slice (some ⟨pf, 0, none⟩) l.length (l.length + 1), .slice (some ⟨pf, 0, none⟩) (l.length + 1) (l.length + 1), .slice C l.length cc], pv A l.length c]) T.ok Tryd.func31 rfl rfl rfl rfl ?_
  have H := Hp.begin nw w
  refine Sq.mk ?_
  ((conv => whnf); refine Al.hp H ?_; clear H; intro pg _ H _)
  ((conv => whnf); refine Al.hp H ?_; clear H; intro pp _ H _)
  repeat' ((conv => whnf); first | (((with_reducible show Gd _ _ _); first | with_reducible refine Gd.t ?_ | with_reducible refine Gd.f ?_ | with_reducible refine Gd.dec (fun _ => ?_) (fun _ => ?_) | with_reducible refine Gd.beq (fun _ => ?_) (fun _ => ?_) | with_reducible refine Gd.bne (fun _ => ?_) (fun _ => ?_) | with_reducible refine Gd.not ?_ | refine Gd.t ?_ | refine Gd.f ?_ | with_reducible refine Gd.var (fun _ => ?_) (fun _ => ?_)) <;> first | (exfalso; omega) | skip) | with_reducible refine Sq.mk ?_ | ((with_reducible show Ld1 _ _ _); first | refine Ld1.h H ?_ | refine Ld1.rF ?_ | refine Ld1.r ?_) | ((with_reducible show Ld _ _ _ _); first | refine Ld.h H ?_ | refine Ld.r ?_) | ((with_reducible show Ix _ _ _ _ _); (first | refine Ix.h ?_ | refine Ix.ha ?_)) | (refine Al.hp H ?_; clear H; intro _ _ H _) | (refine St.h H ?_; clear H; intro _ H))
  have hsame : ∀ w', Ext w w' → Cl Tryd.prog 46 #[pv (some ⟨pf, 0, none⟩) l.length (l.length + 1), pv A l.length c] w' (fun v w'' => v = .bool true ∧ Ext w' w'') (fun _ _ => False) := fun w' e => by
    have := same_c (some ⟨pf, 0, none⟩) A (zipE (fns l) qs) l (l.length + 1) c w' (hZ.ext e) (hA.ext e) (by omega) hcz
    rw [hzl, decide_eq_true (fns_zip hq)] at this
    exact this
  ((conv => whnf); refine Dr.quiet T.ok mixed (by kernel_rfl) (fun W hW => ?_))
  have e5 := H.e
  have hpf5 := RdS.from H.e hpf
  repeat' (first | ((conv => whnf); first | (((with_reducible show Gd _ _ _); first | with_reducible refine Gd.t ?_ | with_reducible refine Gd.f ?_ | with_reducible refine Gd.dec (fun _ => ?_) (fun _ => ?_) | with_reducible refine Gd.beq (fun _ => ?_) (fun _ => ?_) | with_reducible refine Gd.bne (fun _ => ?_) (fun _ => ?_) | with_reducible refine Gd.not ?_ | refine Gd.t ?_ | refine Gd.f ?_ | with_reducible refine Gd.var (fun _ => ?_) (fun _ => ?_)) <;> first | (exfalso; omega) | skip) | ((with_reducible show QLd1 _ _ _); first | refine QLd1.h hW H ?_ | refine QLd1.rF hW ?_ | refine QLd1.r hW ?_) | ((with_reducible show QLd _ _ _ _); first | refine QLd.h hW H ?_ | refine QLd.r hW ?_) | ((with_reducible show Ix _ _ _ _ _); (first | refine Ix.h ?_ | refine Ix.ha ?_))) | ((conv => whnf); refine QSm.cutHi (i := l.length) hW T.ok (by omega) ?_) | (exfalso; exact absurd (rfl : markF.1.params = -5) (by assumption)) | ((conv => whnf); refine QCl.mk hW (fun _ ee => Cl.mk (hsame _ (Ext.trans e5 ee)) (fun _ _ h => h)) ?_))
  clear hpf5
  (intro _ eT; replace H := H.ext eT; clear hW eT)
  repeat' ((conv => whnf); first | (((with_reducible show Gd _ _ _); first | with_reducible refine Gd.t ?_ | with_reducible refine Gd.f ?_ | with_reducible refine Gd.dec (fun _ => ?_) (fun _ => ?_) | with_reducible refine Gd.beq (fun _ => ?_) (fun _ => ?_) | with_reducible refine Gd.bne (fun _ => ?_) (fun _ => ?_) | with_reducible refine Gd.not ?_ | refine Gd.t ?_ | refine Gd.f ?_ | with_reducible refine Gd.var (fun _ => ?_) (fun _ => ?_)) <;> first | (exfalso; omega) | skip) | with_reducible refine Sq.mk ?_ | ((with_reducible show Ld1 _ _ _); first | refine Ld1.h H ?_ | refine Ld1.rF ?_ | refine Ld1.r ?_) | ((with_reducible show Ld _ _ _ _); first | refine Ld.h H ?_ | refine Ld.r ?_) | ((with_reducible show Ix _ _ _ _ _); (first | refine Ix.h ?_ | refine Ix.ha ?_)) | (refine Al.hp H ?_; clear H; intro _ _ H _) | (refine St.h H ?_; clear H; intro _ H))
  refine Lp.g0 T.ok (σ := Nat) (fun i => [(6, .int .i64 (i : Int)), (5, .int .i64 (l.length : Int)), (2, .pointer (some ⟨pg, 0, none⟩)), (3, .pointer (some ⟨pp, 0, none⟩))])
    (fun i w' => i ≤ l.length ∧ Hp nw w w' [bk pp 46 (pv A l.length c).cells.toList, bk pg 52 [.slice (some ⟨pf, 0, none⟩) l.length (l.length + 1), .slice (some ⟨pf, 0, none⟩) (l.length + 1) (l.length + 1), .slice C l.length cc]]) (fun i _ => l.length - i) 0 rfl ⟨rfl, rfl, rfl, rfl, trivial⟩ ⟨Nat.zero_le _, H⟩ ?_
  clear H e5
  rintro i w5 ⟨hi, H⟩
  by_cases hlt : i < l.length
  · obtain ⟨x, hx⟩ : ∃ x, l[i]? = some x := ⟨_, List.getElem?_eq_getElem hlt⟩
    obtain ⟨q, hqi⟩ : ∃ q, qs[i]? = some q := ⟨_, List.getElem?_eq_getElem (by omega)⟩
    have hfx := fns_at hx
    have hA5 := RdS.from H.e hA.top
    have hV5 := RdS.from H.e hV
    have hvi : (zipV (fns l) qs)[i]? = some (cdV x.1 q) := zip_at cdV hfx hqi
    have hcb := RdS.from H.e (rd_of_code (hcd.2.2 i q (spC x.1) hqi (by simp [hfx])))
    have hsl : (spC x.1).length = x.1.code.length + 2 := by simp [spC]
    have hs0 : (spC x.1)[x.1.code.length]? = some (oddI 0) := by simp [spC]
    have hs1 : (spC x.1)[x.1.code.length + 1]? = some (oddI 1) := by simp [spC]
    have hcx := hc x (List.mem_of_getElem? hx)
    have hw1 : IntKind.i64.wrap ((x.1.code.length : Int) + 1) = ((x.1.code.length + 1 : Nat) : Int) := w64 (by omega) (by omega) (by omega)
    repeat' ((conv => whnf); first | (((with_reducible show Gd _ _ _); first | with_reducible refine Gd.t ?_ | with_reducible refine Gd.f ?_ | with_reducible refine Gd.dec (fun _ => ?_) (fun _ => ?_) | with_reducible refine Gd.beq (fun _ => ?_) (fun _ => ?_) | with_reducible refine Gd.bne (fun _ => ?_) (fun _ => ?_) | with_reducible refine Gd.not ?_ | refine Gd.t ?_ | refine Gd.f ?_ | with_reducible refine Gd.var (fun _ => ?_) (fun _ => ?_)) <;> first | (exfalso; omega) | skip) | with_reducible refine Sq.mk ?_ | ((with_reducible show Ld1 _ _ _); first | refine Ld1.h H ?_ | refine Ld1.rF ?_ | refine Ld1.r ?_) | ((with_reducible show Ld _ _ _ _); first | refine Ld.h H ?_ | refine Ld.r ?_) | ((with_reducible show Ix _ _ _ _ _); (first | refine Ix.h ?_ | refine Ix.ha ?_)) | (refine Al.hp H ?_; clear H; intro _ _ H _) | (refine St.h H ?_; clear H; intro _ H))
    ((conv => whnf); refine Dr.quiet T.ok mixed (by kernel_rfl) (fun W hW => ?_))
    repeat' (first | ((conv => whnf); first | (((with_reducible show Gd _ _ _); first | with_reducible refine Gd.t ?_ | with_reducible refine Gd.f ?_ | with_reducible refine Gd.dec (fun _ => ?_) (fun _ => ?_) | with_reducible refine Gd.beq (fun _ => ?_) (fun _ => ?_) | with_reducible refine Gd.bne (fun _ => ?_) (fun _ => ?_) | with_reducible refine Gd.not ?_ | refine Gd.t ?_ | refine Gd.f ?_ | with_reducible refine Gd.var (fun _ => ?_) (fun _ => ?_)) <;> first | (exfalso; omega) | skip) | ((with_reducible show QLd1 _ _ _); first | refine QLd1.h hW H ?_ | refine QLd1.rF hW ?_ | refine QLd1.r hW ?_) | ((with_reducible show QLd _ _ _ _); first | refine QLd.h hW H ?_ | refine QLd.r hW ?_) | ((with_reducible show Ix _ _ _ _ _); (first | refine Ix.h ?_ | refine Ix.ha ?_))) | ((conv => whnf); refine QCl.mk hW (fun _ ee => Cl.mk (odd_c 0 _ (by decide)) (fun _ _ h => h)) ?_) | ((conv => whnf); refine QCl.mk hW (fun _ ee => Cl.mk (odd_c 1 _ (by decide)) (fun _ _ h => h)) ?_))
    clear hA5 hV5 hcb
    (intro _ eT; replace H := H.ext eT; clear hW eT)
    repeat' ((conv => whnf); first | (((with_reducible show Gd _ _ _); first | with_reducible refine Gd.t ?_ | with_reducible refine Gd.f ?_ | with_reducible refine Gd.dec (fun _ => ?_) (fun _ => ?_) | with_reducible refine Gd.beq (fun _ => ?_) (fun _ => ?_) | with_reducible refine Gd.bne (fun _ => ?_) (fun _ => ?_) | with_reducible refine Gd.not ?_ | refine Gd.t ?_ | refine Gd.f ?_ | with_reducible refine Gd.var (fun _ => ?_) (fun _ => ?_)) <;> first | (exfalso; omega) | skip) | with_reducible refine Sq.mk ?_ | ((with_reducible show Ld1 _ _ _); first | refine Ld1.h H ?_ | refine Ld1.rF ?_ | refine Ld1.r ?_) | ((with_reducible show Ld _ _ _ _); first | refine Ld.h H ?_ | refine Ld.r ?_) | ((with_reducible show Ix _ _ _ _ _); (first | refine Ix.h ?_ | refine Ix.ha ?_)) | (refine Al.hp H ?_; clear H; intro _ _ H _) | (refine St.h H ?_; clear H; intro _ H))
    exact ⟨i + 1, ⟨at_int (m := ((i + 1 : Nat) : Int)) rfl (w64 (by simp) (by omega) (by omega)), rfl, rfl, rfl, trivial⟩, rfl, ⟨by omega, H⟩, by omega⟩
  · repeat' ((conv => whnf); first | (((with_reducible show Gd _ _ _); first | with_reducible refine Gd.t ?_ | with_reducible refine Gd.f ?_ | with_reducible refine Gd.dec (fun _ => ?_) (fun _ => ?_) | with_reducible refine Gd.beq (fun _ => ?_) (fun _ => ?_) | with_reducible refine Gd.bne (fun _ => ?_) (fun _ => ?_) | with_reducible refine Gd.not ?_ | refine Gd.t ?_ | refine Gd.f ?_ | with_reducible refine Gd.var (fun _ => ?_) (fun _ => ?_)) <;> first | (exfalso; omega) | skip) | with_reducible refine Sq.mk ?_ | ((with_reducible show Ld1 _ _ _); first | refine Ld1.h H ?_ | refine Ld1.rF ?_ | refine Ld1.r ?_) | ((with_reducible show Ld _ _ _ _); first | refine Ld.h H ?_ | refine Ld.r ?_) | ((with_reducible show Ix _ _ _ _ _); (first | refine Ix.h ?_ | refine Ix.ha ?_)) | (refine Al.hp H ?_; clear H; intro _ _ H _) | (refine St.h H ?_; clear H; intro _ H))
    exact ⟨rfl, H.e⟩
end Go.Proofs.YtbbadmlekagloaaDoor
namespace Go.Proofs.YtbbadmlekagloaaDoor
open Go Go.Sh
set_option linter.unusedVariables false
set_option linter.unusedSimpArgs false
attribute [local irreducible] Blk Ext RdS
/-- lists of code that are written no more -/
abbrev rcs (l : List FE) : Ck := ⟨fun k => ∃ x ∈ l, x.1.code ≠ [] ∧ obk x.2.1 = some k, fun w => ∀ x ∈ l, RdC w x.2.1 x.1.code, false, false⟩
theorem rcs_ok {l : List FE} {w : World} (h : ∀ x ∈ l, RdC w x.2.1 x.1.code) : (rcs l).Ok w := by
  refine ⟨h, fun k hk => ?_, fun w' hs hb x hx => ?_⟩
  · obtain ⟨x, hx, h1, h2⟩ := hk
    exact RdS.lt (h x hx) h1 k h2
  · by_cases hl : x.1.code = []
    · rw [hl]; exact RdS.nil
    · exact RdS.keep (h x hx) hs fun b hb' _ => hb b ⟨x, hx, hl, hb'⟩
theorem Hp.rcSnoc {S : Nat → Prop} {w0 w : World} {Γ : List Ck} {x : FE} {l : List FE} (H : Hp S w0 w (rk Ins.enc 5 x.2.1 x.1.code :: rcs l :: Γ)) : Hp S w0 w (rcs (l ++ [x]) :: Γ) := by
  have hs := List.pairwise_cons.1 H.sep
  have hs2 := List.pairwise_cons.1 hs.2
  have h1 := (H.ok _ (List.mem_cons_self ..)).holds
  have h2 := (H.ok _ (List.mem_cons_of_mem _ (List.mem_cons_self ..))).holds
  have hfp : ∀ k, (rcs (l ++ [x])).fp k → (rk Ins.enc 5 x.2.1 x.1.code).fp k ∨ (rcs l).fp k := fun k ⟨y, hy, q1, q2⟩ => by
    rcases List.mem_append.1 hy with h | h
    · exact .inr ⟨y, h, q1, q2⟩
    · simp at h; subst h; exact .inl ⟨q1, q2⟩
  refine ⟨H.tch, fun b hb => ?_, List.pairwise_cons.2 ⟨fun b hb h k hk => ?_, hs2.2⟩, fun b hb hb' k hk => ?_⟩
  · rcases List.mem_cons.1 hb with rfl | hb
    · refine rcs_ok fun y hy => ?_
      rcases List.mem_append.1 hy with h | h
      · exact h2 y h
      · simp at h; subst h; exact h1
    · exact H.ok b (by simp [hb])
  · rcases hfp k hk.1 with h' | h'
    · exact hs.1 b (by simp [hb]) h k ⟨h', hk.2⟩
    · exact hs2.1 b hb h k ⟨h', hk.2⟩
  · rcases List.mem_cons.1 hb with rfl | hb
    · rcases hfp k hk with h | h
      · exact H.dom _ (List.mem_cons_self ..) (.inr rfl) k h
      · exact H.dom _ (List.mem_cons_of_mem _ (List.mem_cons_self ..)) (.inr rfl) k h
    · exact H.dom b (by simp [hb]) hb' k hk
def TurnedAll (l : List FE) (w : World) (v : Value) (w' : World) : Prop := ∃ C d l', v = pv C l'.length d ∧ fns l' = (fns l).map turnedF ∧ Hp nw w w' [rcs l', qu FE.enc 4 24 C d l']
theorem turnedAll_c (A : Option Addr) (l : List FE) (c : Nat) (w : World) (hA : RdP w A l) (hl : l.length ≤ 1048576) (hc : ∀ x ∈ l, x.1.code.length ≤ 1048576) :
    Cl Tryd.prog 68 #[pv A l.length c] w (TurnedAll l w) (fun _ _ => False) := by
  refine calls_ex (args := [pv A l.length c]) T.ok Tryd.func68 rfl rfl rfl rfl ?_
  have H := Hp.begin nw w
  refine Sq.mk ?_
  ((conv => whnf); refine Al.hp H ?_; clear H; intro pp _ H _)
  ((conv => whnf); refine Al.hp H ?_; clear H; intro pr _ H _)
  repeat' ((conv => whnf); first | (((with_reducible show Gd _ _ _); first | with_reducible refine Gd.t ?_ | with_reducible refine Gd.f ?_ | with_reducible refine Gd.dec (fun _ => ?_) (fun _ => ?_) | with_reducible refine Gd.beq (fun _ => ?_) (fun _ => ?_) | with_reducible refine Gd.bne (fun _ => ?_) (fun _ => ?_) | with_reducible refine Gd.not ?_ | refine Gd.t ?_ | refine Gd.f ?_ | with_reducible refine Gd.var (fun _ => ?_) (fun _ => ?_)) <;> first | (exfalso; omega) | skip) | with_reducible refine Sq.mk ?_ | ((with_reducible show Ld1 _ _ _); first | refine Ld1.h H ?_ | refine Ld1.rF ?_ | refine Ld1.r ?_) | ((with_reducible show Ld _ _ _ _); first | refine Ld.h H ?_ | refine Ld.r ?_) | ((with_reducible show Ix _ _ _ _ _); (first | refine Ix.h ?_ | refine Ix.ha ?_)) | (refine St.h H ?_; clear H; intro _ H))
  ((conv => whnf); refine Al.hp H ?_; clear H; intro pq _ H _)
  repeat' ((conv => whnf); first | (((with_reducible show Gd _ _ _); first | with_reducible refine Gd.t ?_ | with_reducible refine Gd.f ?_ | with_reducible refine Gd.dec (fun _ => ?_) (fun _ => ?_) | with_reducible refine Gd.beq (fun _ => ?_) (fun _ => ?_) | with_reducible refine Gd.bne (fun _ => ?_) (fun _ => ?_) | with_reducible refine Gd.not ?_ | refine Gd.t ?_ | refine Gd.f ?_ | with_reducible refine Gd.var (fun _ => ?_) (fun _ => ?_)) <;> first | (exfalso; omega) | skip) | with_reducible refine Sq.mk ?_ | ((with_reducible show Ld1 _ _ _); first | refine Ld1.h H ?_ | refine Ld1.rF ?_ | refine Ld1.r ?_) | ((with_reducible show Ld _ _ _ _); first | refine Ld.h H ?_ | refine Ld.r ?_) | ((with_reducible show Ix _ _ _ _ _); (first | refine Ix.h ?_ | refine Ix.ha ?_)) | (refine Al.hp H ?_; clear H; intro _ _ H _) | (refine St.h H ?_; clear H; intro _ H))
  replace H := H.nil FE.enc 4 24
  replace H := H.fr0 (Hp.one (Tch.refl _ _) (rcs_ok (l := []) (by simp)) (fun k hk => by obtain ⟨x, hx, _⟩ := hk; simp at hx)) (.inr rfl)
  refine Lp.g0 T.ok (σ := Nat × List FE × Option Addr × Nat) (fun s => [(4, .int .i64 (s.1 : Int)), (1, .pointer (some ⟨pp, 0, none⟩)), (2, .pointer (some ⟨pr, 0, none⟩)), (3, .pointer (some ⟨pq, 0, none⟩))])
    (fun s w' => s.1 ≤ l.length ∧ s.2.1.length = s.1 ∧ fns s.2.1 = ((fns l).take s.1).map turnedF ∧ Hp nw w w' [rcs s.2.1, qu FE.enc 4 24 s.2.2.1 s.2.2.2 s.2.1, bk pq 46 [.slice s.2.2.1 s.1 s.2.2.2], bk pr 46 T.t46.zero.cells.toList, bk pp 46 (pv A l.length c).cells.toList]) (fun s _ => l.length - s.1) (0, [], none, 0) rfl ⟨rfl, rfl, rfl, rfl, trivial⟩ ⟨Nat.zero_le _, rfl, rfl, H⟩ ?_
  clear H
  rintro ⟨i, l', C, d⟩ w5 ⟨hi, hli, hfn, H⟩
  simp only at hi hli hfn H ⊢
  by_cases hlt : i < l.length
  · obtain ⟨x, hx⟩ : ∃ x, l[i]? = some x := ⟨_, List.getElem?_eq_getElem hlt⟩
    have hxm := List.mem_of_getElem? hx
    have hA5 := RdS.from H.e hA.top
    have hcx := hc x hxm
    repeat' ((conv => whnf); first | (((with_reducible show Gd _ _ _); first | with_reducible refine Gd.t ?_ | with_reducible refine Gd.f ?_ | with_reducible refine Gd.dec (fun _ => ?_) (fun _ => ?_) | with_reducible refine Gd.beq (fun _ => ?_) (fun _ => ?_) | with_reducible refine Gd.bne (fun _ => ?_) (fun _ => ?_) | with_reducible refine Gd.not ?_ | refine Gd.t ?_ | refine Gd.f ?_ | with_reducible refine Gd.var (fun _ => ?_) (fun _ => ?_)) <;> first | (exfalso; omega) | skip) | with_reducible refine Sq.mk ?_ | ((with_reducible show Ld1 _ _ _); first | refine Ld1.h H ?_ | refine Ld1.rF ?_ | refine Ld1.r ?_) | ((with_reducible show Ld _ _ _ _); first | refine Ld.h H ?_ | refine Ld.r ?_) | ((with_reducible show Ix _ _ _ _ _); (first | refine Ix.h ?_ | refine Ix.ha ?_)) | (refine Al.hp H ?_; clear H; intro _ _ H _) | (refine St.h H ?_; clear H; intro _ H))
    clear hA5
    ((conv => whnf); refine Cl.mk (turned_c x.1 x.2.1 x.2.2 _ (RdS.from H.e (hA.code x hxm)) hcx) ?_)
    rintro _ w6 ⟨D, dc, rfl, hD, e, hfr, _⟩
    replace H := H.fr0 (rk_new hD e hfr) (.inr rfl)
    clear hD e hfr
    ((conv => whnf); refine Al.hp H ?_; clear H; intro pt _ H _)
    repeat' ((conv => whnf); first | (((with_reducible show Gd _ _ _); first | with_reducible refine Gd.t ?_ | with_reducible refine Gd.f ?_ | with_reducible refine Gd.dec (fun _ => ?_) (fun _ => ?_) | with_reducible refine Gd.beq (fun _ => ?_) (fun _ => ?_) | with_reducible refine Gd.bne (fun _ => ?_) (fun _ => ?_) | with_reducible refine Gd.not ?_ | refine Gd.t ?_ | refine Gd.f ?_ | with_reducible refine Gd.var (fun _ => ?_) (fun _ => ?_)) <;> first | (exfalso; omega) | skip) | with_reducible refine Sq.mk ?_ | ((with_reducible show Ld1 _ _ _); first | refine Ld1.h H ?_ | refine Ld1.rF ?_ | refine Ld1.r ?_) | ((with_reducible show Ld _ _ _ _); first | refine Ld.h H ?_ | refine Ld.r ?_) | ((with_reducible show Ix _ _ _ _ _); (first | refine Ix.h ?_ | refine Ix.ha ?_)) | (refine Al.hp H ?_; clear H; intro _ _ H _) | (refine St.h H ?_; clear H; intro _ H))
    refine Sm.lith (cs := FE.enc (turnedF x.1, D, dc)) H T.ok (fun p8 w8 H _ => ?_)
    refine Sm.ap1 (enc := FE.enc) ((turnedF x.1, D, dc) : FE) H T.ok ?_ (by omega) (fun C' d' w9 H => ?_) (hn := hli.symm)
    · exact Nat.le_trans (Nat.mul_le_mul_right _ (show i + 1 ≤ 1048577 by omega)) (by decide)
    simp only [List.cons_append, List.nil_append] at H
    repeat' ((conv => whnf); first | (((with_reducible show Gd _ _ _); first | with_reducible refine Gd.t ?_ | with_reducible refine Gd.f ?_ | with_reducible refine Gd.dec (fun _ => ?_) (fun _ => ?_) | with_reducible refine Gd.beq (fun _ => ?_) (fun _ => ?_) | with_reducible refine Gd.bne (fun _ => ?_) (fun _ => ?_) | with_reducible refine Gd.not ?_ | refine Gd.t ?_ | refine Gd.f ?_ | with_reducible refine Gd.var (fun _ => ?_) (fun _ => ?_)) <;> first | (exfalso; omega) | skip) | with_reducible refine Sq.mk ?_ | ((with_reducible show Ld1 _ _ _); first | refine Ld1.h H ?_ | refine Ld1.rF ?_ | refine Ld1.r ?_) | ((with_reducible show Ld _ _ _ _); first | refine Ld.h H ?_ | refine Ld.r ?_) | ((with_reducible show Ix _ _ _ _ _); (first | refine Ix.h ?_ | refine Ix.ha ?_)) | (refine Al.hp H ?_; clear H; intro _ _ H _) | (refine St.h H ?_; clear H; intro _ H))
    replace H := Hp.rcSnoc (x := (turnedF x.1, D, dc)) (H.sel [1, 1, 1, 1, 1, 1] rfl)
    refine ⟨(i + 1, l' ++ [(turnedF x.1, D, dc)], C', d'), ⟨at_int (m := ((i + 1 : Nat) : Int)) rfl (w64 (by simp) (by omega) (by omega)), rfl, rfl, rfl, trivial⟩, rfl, ⟨by simp only; omega, by simp [hli], ?_, H⟩, by simp only; omega⟩
    obtain ⟨h1, h2⟩ := List.getElem?_eq_some_iff.1 (fns_at hx)
    simp only
    rw [List.take_succ_eq_append_getElem h1, List.map_append, ← hfn, h2]
    simp [fns]
  · have hi : i = l.length := by omega
    subst hi
    rw [← fns_len, List.take_length] at hfn
    repeat' ((conv => whnf); first | (((with_reducible show Gd _ _ _); first | with_reducible refine Gd.t ?_ | with_reducible refine Gd.f ?_ | with_reducible refine Gd.dec (fun _ => ?_) (fun _ => ?_) | with_reducible refine Gd.beq (fun _ => ?_) (fun _ => ?_) | with_reducible refine Gd.bne (fun _ => ?_) (fun _ => ?_) | with_reducible refine Gd.not ?_ | refine Gd.t ?_ | refine Gd.f ?_ | with_reducible refine Gd.var (fun _ => ?_) (fun _ => ?_)) <;> first | (exfalso; omega) | skip) | with_reducible refine Sq.mk ?_ | ((with_reducible show Ld1 _ _ _); first | refine Ld1.h H ?_ | refine Ld1.rF ?_ | refine Ld1.r ?_) | ((with_reducible show Ld _ _ _ _); first | refine Ld.h H ?_ | refine Ld.r ?_) | ((with_reducible show Ix _ _ _ _ _); (first | refine Ix.h ?_ | refine Ix.ha ?_)) | (refine Al.hp H ?_; clear H; intro _ _ H _) | (refine St.h H ?_; clear H; intro _ H))
    exact ⟨C, d, l', by rw [hli]; rfl, hfn, H.sel [0, 0] rfl⟩
end Go.Proofs.YtbbadmlekagloaaDoor
namespace Go.Proofs.YtbbadmlekagloaaDoor
open Go Go.Sh
set_option linter.unusedVariables false
set_option linter.unusedSimpArgs false
attribute [local irreducible] Blk Ext RdS
/-- a piece of the caller's memory that is read alone -/
theorem Hp.addOld {S : Nat → Prop} {w : World} {Γ : List Ck} {c : Ck} (H : Hp S w w Γ) (h : c.Ok w) (ho : c.own = false) (hold : c.old = true) (hd : ∀ a ∈ Γ, ∀ k, ¬ (c.fp k ∧ a.fp k)) : Hp S w w (c :: Γ) :=
  ⟨H.tch, fun b hb => by rcases List.mem_cons.1 hb with rfl | hb; exact h; exact H.ok b hb, List.pairwise_cons.2 ⟨fun a ha _ k => hd a ha k, H.sep⟩, fun b hb hn k hk => by
    rcases List.mem_cons.1 hb with rfl | hb
    · rcases hn with h | h
      · rw [ho] at h; simp at h
      · rw [hold] at h; simp at h
    · exact H.dom b hb hn k hk⟩
abbrev rko {α : Type} (enc : α → List Value) (sz : Nat) (A : Option Addr) (l : List α) : Ck := ⟨fun k => l ≠ [] ∧ obk A = some k, fun w => RdS enc sz w A l, false, true⟩
theorem rko_ok {α : Type} {enc : α → List Value} {sz : Nat} {A : Option Addr} {l : List α} {w : World} (h : RdS enc sz w A l) : (rko enc sz A l).Ok w := ⟨(rk_ok h).holds, (rk_ok h).lt, (rk_ok h).loc⟩
/-- the codes when those ahead of i are laid, and of i the places ahead of k -/
def layC (fs ts : List Fn) (i k : Nat) : List (List Ins) := (List.range fs.length).map fun j => match fs[j]?, ts[j]? with
  | some f, some t => if j < i then spC f else if j = i then f.code.take k ++ t.code.drop k ++ [oddI 0, oddI 1] else spC t
  | _, _ => []
theorem layC_len (fs ts : List Fn) (i k : Nat) : (layC fs ts i k).length = fs.length := by simp [layC]
theorem layC_at {fs ts : List Fn} {i k : Nat} {f t : Fn} (hf : fs[i]? = some f) (ht : ts[i]? = some t) : (layC fs ts i k)[i]? = some (f.code.take k ++ t.code.drop k ++ [oddI 0, oddI 1]) := by
  have := (List.getElem?_eq_some_iff.1 hf).1
  simp only [layC, List.getElem?_map, List.getElem?_range this, Option.map_some, hf, ht]
  simp
theorem layC_set {fs ts : List Fn} {i k : Nat} {f t : Fn} {x : Ins} (hf : fs[i]? = some f) (ht : ts[i]? = some t) (hl : t.code.length = f.code.length) (hx : f.code[k]? = some x) : (layC fs ts i k).set i ((f.code.take k ++ t.code.drop k ++ [oddI 0, oddI 1]).set k x) = layC fs ts i (k + 1) := by
  rw [lay_set hl hx]
  apply List.ext_getElem?
  intro j
  by_cases e : j = i
  · subst e
    have hlt := (List.getElem?_eq_some_iff.1 hf).1
    rw [List.getElem?_set_self (by rw [layC_len]; exact hlt), layC_at hf ht]
  · rw [List.getElem?_set_ne (fun h => e h.symm)]
    simp only [layC, List.getElem?_map]
    rcases hr : (List.range fs.length)[j]? with _ | j'
    · rfl
    · have : j' = j := by have := List.getElem?_range (n := fs.length) (i := j) (by have := (List.getElem?_eq_some_iff.1 hr).1; simpa using this); rw [hr] at this; simpa using this
      subst this
      simp [e]
theorem layC_next {fs ts : List Fn} {i : Nat} {f t : Fn} (hf : fs[i]? = some f) (ht : ts[i]? = some t) (hl : t.code.length = f.code.length) : layC fs ts i f.code.length = layC fs ts (i + 1) 0 := by
  apply List.ext_getElem?
  intro j
  simp only [layC, List.getElem?_map]
  rcases hr : (List.range fs.length)[j]? with _ | j'
  · rfl
  · have : j' = j := by have := List.getElem?_range (n := fs.length) (i := j) (by have := (List.getElem?_eq_some_iff.1 hr).1; simpa using this); rw [hr] at this; simpa using this
    subst this
    simp only [Option.map_some]
    congr 1
    rcases Nat.lt_trichotomy j' i with h | h | h
    · rcases fs[j']? with _ | g <;> rcases ts[j']? with _ | u <;> simp [h, show j' < i + 1 by omega]
    · subst h; rw [hf, ht]
      simp only [Nat.lt_irrefl, if_false, if_true, show j' < j' + 1 by omega]
      rw [List.take_length, List.drop_of_length_le (by omega), List.append_nil]; rfl
    · rcases fs[j']? with _ | g <;> rcases ts[j']? with _ | u <;> try rfl
      simp only [show ¬ j' < i by omega, show ¬ j' = i by omega, show ¬ j' < i + 1 by omega, if_false]
      by_cases e : j' = i + 1
      · simp [e, spC]
      · simp [e]
theorem layC_begin {fs ts : List Fn} (h : ts.length = fs.length) : layC fs ts 0 0 = ts.map spC := by
  apply List.ext_getElem?
  intro j
  simp only [layC, List.getElem?_map]
  by_cases hj : j < fs.length
  · obtain ⟨f, hf⟩ : ∃ f, fs[j]? = some f := ⟨_, List.getElem?_eq_getElem hj⟩
    obtain ⟨t, ht⟩ : ∃ t, ts[j]? = some t := ⟨_, List.getElem?_eq_getElem (by omega)⟩
    rw [List.getElem?_range hj]
    simp only [Option.map_some, hf, ht]
    by_cases e : j = 0
    · subst e; simp [spC]
    · simp [e]
  · rw [List.getElem?_eq_none (by simp; omega), List.getElem?_eq_none (by omega)]; rfl
theorem layC_end {fs ts : List Fn} (h : ts.length = fs.length) : layC fs ts fs.length 0 = fs.map spC := by
  apply List.ext_getElem?
  intro j
  simp only [layC, List.getElem?_map]
  by_cases hj : j < fs.length
  · obtain ⟨f, hf⟩ : ∃ f, fs[j]? = some f := ⟨_, List.getElem?_eq_getElem hj⟩
    obtain ⟨t, ht⟩ : ∃ t, ts[j]? = some t := ⟨_, List.getElem?_eq_getElem (by omega)⟩
    rw [List.getElem?_range hj]
    simp only [Option.map_some, hf, ht, hj, if_true]
  · rw [List.getElem?_eq_none (by simp; omega), List.getElem?_eq_none (by omega)]; rfl
theorem lay_c (fs ts : List Fn) (pf c2 : Nat) (qs : List Nat) (A : Option Addr) (l : List FE) (c : Nat) (wb w : World) (hb : Ext wb w) (hA : RdP wb A l) (hfs : fns l = fs) (htl : ts.length = fs.length) (htc : ∀ (i : Nat) (f t : Fn), fs[i]? = some f → ts[i]? = some t → t.code.length = f.code.length)
    (hl : l.length ≤ 1048576) (hc : ∀ x ∈ l, x.1.code.length ≤ 1048576) (hq : qs.length = fs.length) (hql : ∀ q ∈ qs, wb.heap.size ≤ q) (hcd : CodeBlks qs (ts.map spC) w) (hpf : RdS FE.enc 4 w (some ⟨pf, 0, none⟩) (zipE ts qs)) (hne : pf ∉ qs) :
    Cl Tryd.prog 69 #[pv (some ⟨pf, 0, none⟩) l.length c2, pv A l.length c] w (fun _ w' => Hp (fun k => k ∈ qs) w w' [cdk qs (fs.map spC)]) (fun _ _ => False) := by
  have hfl := fns_len l
  subst hfs
  have hzl : (zipE ts qs).length = l.length := by rw [zipE, zip_len lai (by omega)]; omega
  refine calls_ex (args := [pv (some ⟨pf, 0, none⟩) l.length c2, pv A l.length c]) T.ok Tryd.func69 rfl rfl rfl rfl ?_
  have HB : BaseOk (fun k => k ∈ qs) wb w := ⟨hb, hql⟩
  have H := Hp.addOld (Hp.start (S := fun k => k ∈ qs) (cdk_ok hcd) (fun k hk => hk)) (rko_ok hpf) rfl rfl (fun a ha k ⟨h1, h2⟩ => by
    simp at ha; subst ha
    have : pf = k := by have := h1.2; simpa [obk] using this
    exact hne (this ▸ h2))
  rw [← layC_begin (by omega : ts.length = (fns l).length)] at H
  refine Sq.mk ?_
  ((conv => whnf); refine Al.hp H ?_; clear H; intro pp _ H _)
  ((conv => whnf); refine Al.hp H ?_; clear H; intro pq _ H _)
  repeat' ((conv => whnf); first | (((with_reducible show Gd _ _ _); first | with_reducible refine Gd.t ?_ | with_reducible refine Gd.f ?_ | with_reducible refine Gd.dec (fun _ => ?_) (fun _ => ?_) | with_reducible refine Gd.beq (fun _ => ?_) (fun _ => ?_) | with_reducible refine Gd.bne (fun _ => ?_) (fun _ => ?_) | with_reducible refine Gd.not ?_ | refine Gd.t ?_ | refine Gd.f ?_ | with_reducible refine Gd.var (fun _ => ?_) (fun _ => ?_)) <;> first | (exfalso; omega) | skip) | with_reducible refine Sq.mk ?_ | ((with_reducible show Ld1 _ _ _); first | refine Ld1.h H ?_ | refine Ld1.rF ?_ | refine Ld1.r ?_) | ((with_reducible show Ld _ _ _ _); first | refine Ld.h H ?_ | refine Ld.r ?_) | ((with_reducible show Ix _ _ _ _ _); (first | refine Ix.h ?_ | refine Ix.ha ?_)) | (refine Al.hp H ?_; clear H; intro _ _ H _) | (refine St.h H ?_; clear H; intro _ H))
  refine Lp.g0 T.ok (σ := Nat) (fun i => [(4, .int .i64 (i : Int)), (2, .pointer (some ⟨pp, 0, none⟩)), (3, .pointer (some ⟨pq, 0, none⟩))])
    (fun i w' => i ≤ l.length ∧ Hp (fun k => k ∈ qs) w w' [bk pq 46 (pv A l.length c).cells.toList, bk pp 46 (pv (some ⟨pf, 0, none⟩) l.length c2).cells.toList, rko FE.enc 4 (some ⟨pf, 0, none⟩) (zipE ts qs), cdk qs (layC (fns l) ts i 0)]) (fun i _ => l.length - i) 0 rfl ⟨rfl, rfl, rfl, trivial⟩ ⟨Nat.zero_le _, H⟩ ?_
  clear H
  rintro i w5 ⟨hi, H⟩
  by_cases hlt : i < l.length
  · obtain ⟨x, hx⟩ : ∃ x, l[i]? = some x := ⟨_, List.getElem?_eq_getElem hlt⟩
    obtain ⟨q, hqi⟩ : ∃ q, qs[i]? = some q := ⟨_, List.getElem?_eq_getElem (by omega)⟩
    obtain ⟨t, hti⟩ : ∃ t, ts[i]? = some t := ⟨_, List.getElem?_eq_getElem (by omega)⟩
    have hxm := List.mem_of_getElem? hx
    have hfx := fns_at hx
    have htl2 := htc i x.1 t hfx hti
    have hzi : (zipE ts qs)[i]? = some (lai t q) := zip_at lai hti hqi
    have hcx := hc x hxm
    repeat' ((conv => whnf); first | (((with_reducible show Gd _ _ _); first | with_reducible refine Gd.t ?_ | with_reducible refine Gd.f ?_ | with_reducible refine Gd.dec (fun _ => ?_) (fun _ => ?_) | with_reducible refine Gd.beq (fun _ => ?_) (fun _ => ?_) | with_reducible refine Gd.bne (fun _ => ?_) (fun _ => ?_) | with_reducible refine Gd.not ?_ | refine Gd.t ?_ | refine Gd.f ?_ | with_reducible refine Gd.var (fun _ => ?_) (fun _ => ?_)) <;> first | (exfalso; omega) | skip) | with_reducible refine Sq.mk ?_ | ((with_reducible show Ld1 _ _ _); first | refine Ld1.h H ?_ | refine Ld1.rF ?_ | refine Ld1.r ?_) | ((with_reducible show Ld _ _ _ _); first | refine Ld.h H ?_ | refine Ld.r ?_) | ((with_reducible show Ix _ _ _ _ _); (first | refine Ix.h ?_ | refine Ix.ha ?_)) | (refine Al.hp H ?_; clear H; intro _ _ H _) | (refine St.h H ?_; clear H; intro _ H))
    refine Lp.g0 T.ok (σ := Nat) (fun k => [(5, .int .i64 (k : Int)), (4, .int .i64 (i : Int)), (2, .pointer (some ⟨pp, 0, none⟩)), (3, .pointer (some ⟨pq, 0, none⟩))])
      (fun k w' => k ≤ x.1.code.length ∧ Hp (fun k => k ∈ qs) w w' [bk pq 46 (pv A l.length c).cells.toList, bk pp 46 (pv (some ⟨pf, 0, none⟩) l.length c2).cells.toList, rko FE.enc 4 (some ⟨pf, 0, none⟩) (zipE ts qs), cdk qs (layC (fns l) ts i k)]) (fun k _ => x.1.code.length - k) 0 rfl ⟨rfl, rfl, rfl, rfl, trivial⟩ ⟨Nat.zero_le _, H⟩ ?_
    clear H
    rintro k w6 ⟨hk, H⟩
    have hAt := RdS.from (H.base2 HB) hA.top
    by_cases hkl : k < x.1.code.length
    · obtain ⟨y, hy⟩ : ∃ y, x.1.code[k]? = some y := ⟨_, List.getElem?_eq_getElem hkl⟩
      have hxc := RdS.from (H.base2 HB) (hA.code x hxm)
      have hzr : RdS FE.enc 4 w6 (some ⟨pf, 0, none⟩) (zipE ts qs) := H.atC 2 rfl
      have hcb : CodeBlks qs (layC (fns l) ts i k) w6 := H.atC 3 rfl
      have hqr := rd_pre (hcb.2.2 i q _ hqi (layC_at hfx hti))
      have hql2 : (x.1.code.take k ++ t.code.drop k ++ [oddI 0, oddI 1]).length = x.1.code.length + 2 := by simp; omega
      have hlaiv : (lai t q).1.code.length = x.1.code.length := htl2
      have hql3 : (x.1.code.take k ++ t.code.drop k).length = (lai t q).1.code.length := by simp [lai]; omega
      repeat' ((conv => whnf); first | (((with_reducible show Gd _ _ _); first | with_reducible refine Gd.t ?_ | with_reducible refine Gd.f ?_ | with_reducible refine Gd.dec (fun _ => ?_) (fun _ => ?_) | with_reducible refine Gd.beq (fun _ => ?_) (fun _ => ?_) | with_reducible refine Gd.bne (fun _ => ?_) (fun _ => ?_) | with_reducible refine Gd.not ?_ | refine Gd.t ?_ | refine Gd.f ?_ | with_reducible refine Gd.var (fun _ => ?_) (fun _ => ?_)) <;> first | (exfalso; omega) | skip) | with_reducible refine Sq.mk ?_ | ((with_reducible show Ld1 _ _ _); first | refine Ld1.h H ?_ | refine Ld1.rF ?_ | refine Ld1.r ?_) | ((with_reducible show Ld _ _ _ _); first | refine Ld.h H ?_ | refine Ld.r ?_) | ((with_reducible show Ix _ _ _ _ _); (first | refine Ix.h ?_ | refine Ix.ha ?_)) | (refine Al.hp H ?_; clear H; intro _ _ H _) | (refine St.h H ?_; clear H; intro _ H))
      ((conv => whnf); refine Dr.tail T.ok mixed 17 (by kernel_rfl) (fun W wT hW eT _ => ?_); (repeat' ((conv => whnf); first | (((with_reducible show Gd _ _ _); first | with_reducible refine Gd.t ?_ | with_reducible refine Gd.f ?_ | with_reducible refine Gd.dec (fun _ => ?_) (fun _ => ?_) | with_reducible refine Gd.beq (fun _ => ?_) (fun _ => ?_) | with_reducible refine Gd.bne (fun _ => ?_) (fun _ => ?_) | with_reducible refine Gd.not ?_ | refine Gd.t ?_ | refine Gd.f ?_ | with_reducible refine Gd.var (fun _ => ?_) (fun _ => ?_)) <;> first | (exfalso; omega) | skip) | ((with_reducible show QLd1 _ _ _); first | refine QLd1.h hW H ?_ | refine QLd1.rF hW ?_ | refine QLd1.r hW ?_) | ((with_reducible show QLd _ _ _ _); first | refine QLd.h hW H ?_ | refine QLd.r hW ?_) | ((with_reducible show Ix _ _ _ _ _); (first | refine Ix.h ?_ | refine Ix.ha ?_)))); replace H := H.ext eT; clear hW eT)
      (conv => whnf)
      refine St.cd (cs := layC (fns l) ts i k) (x := y) H hqi (layC_at hfx hti) (by rw [hql2]; omega) (fun w7 H7 => ?_)
      clear H
      have H := H7
      rw [layC_set hfx hti htl2 hy] at H
      clear H7 hAt hxc hzr hcb hqr
      repeat' ((conv => whnf); first | (((with_reducible show Gd _ _ _); first | with_reducible refine Gd.t ?_ | with_reducible refine Gd.f ?_ | with_reducible refine Gd.dec (fun _ => ?_) (fun _ => ?_) | with_reducible refine Gd.beq (fun _ => ?_) (fun _ => ?_) | with_reducible refine Gd.bne (fun _ => ?_) (fun _ => ?_) | with_reducible refine Gd.not ?_ | refine Gd.t ?_ | refine Gd.f ?_ | with_reducible refine Gd.var (fun _ => ?_) (fun _ => ?_)) <;> first | (exfalso; omega) | skip) | with_reducible refine Sq.mk ?_ | ((with_reducible show Ld1 _ _ _); first | refine Ld1.h H ?_ | refine Ld1.rF ?_ | refine Ld1.r ?_) | ((with_reducible show Ld _ _ _ _); first | refine Ld.h H ?_ | refine Ld.r ?_) | ((with_reducible show Ix _ _ _ _ _); (first | refine Ix.h ?_ | refine Ix.ha ?_)) | (refine Al.hp H ?_; clear H; intro _ _ H _) | (refine St.h H ?_; clear H; intro _ H))
      exact ⟨k + 1, ⟨at_int rfl (w64 (by simp) (by omega) (by omega)), rfl, rfl, rfl, trivial⟩, rfl, ⟨by omega, H⟩, by omega⟩
    · have hk : k = x.1.code.length := by omega
      subst hk
      repeat' ((conv => whnf); first | (((with_reducible show Gd _ _ _); first | with_reducible refine Gd.t ?_ | with_reducible refine Gd.f ?_ | with_reducible refine Gd.dec (fun _ => ?_) (fun _ => ?_) | with_reducible refine Gd.beq (fun _ => ?_) (fun _ => ?_) | with_reducible refine Gd.bne (fun _ => ?_) (fun _ => ?_) | with_reducible refine Gd.not ?_ | refine Gd.t ?_ | refine Gd.f ?_ | with_reducible refine Gd.var (fun _ => ?_) (fun _ => ?_)) <;> first | (exfalso; omega) | skip) | with_reducible refine Sq.mk ?_ | ((with_reducible show Ld1 _ _ _); first | refine Ld1.h H ?_ | refine Ld1.rF ?_ | refine Ld1.r ?_) | ((with_reducible show Ld _ _ _ _); first | refine Ld.h H ?_ | refine Ld.r ?_) | ((with_reducible show Ix _ _ _ _ _); (first | refine Ix.h ?_ | refine Ix.ha ?_)) | (refine Al.hp H ?_; clear H; intro _ _ H _) | (refine St.h H ?_; clear H; intro _ H))
      rw [layC_next hfx hti htl2] at H
      exact ⟨i + 1, ⟨at_int (m := ((i + 1 : Nat) : Int)) rfl (w64 (by simp) (by omega) (by omega)), rfl, rfl, trivial⟩, rfl, ⟨by omega, H⟩, by omega⟩
  · repeat' ((conv => whnf); first | (((with_reducible show Gd _ _ _); first | with_reducible refine Gd.t ?_ | with_reducible refine Gd.f ?_ | with_reducible refine Gd.dec (fun _ => ?_) (fun _ => ?_) | with_reducible refine Gd.beq (fun _ => ?_) (fun _ => ?_) | with_reducible refine Gd.bne (fun _ => ?_) (fun _ => ?_) | with_reducible refine Gd.not ?_ | refine Gd.t ?_ | refine Gd.f ?_ | with_reducible refine Gd.var (fun _ => ?_) (fun _ => ?_)) <;> first | (exfalso; omega) | skip) | with_reducible refine Sq.mk ?_ | ((with_reducible show Ld1 _ _ _); first | refine Ld1.h H ?_ | refine Ld1.rF ?_ | refine Ld1.r ?_) | ((with_reducible show Ld _ _ _ _); first | refine Ld.h H ?_ | refine Ld.r ?_) | ((with_reducible show Ix _ _ _ _ _); (first | refine Ix.h ?_ | refine Ix.ha ?_)) | (refine Al.hp H ?_; clear H; intro _ _ H _) | (refine St.h H ?_; clear H; intro _ H))
    have hi : i = l.length := by omega
    rw [hi, ← hfl, layC_end (by omega)] at H
    exact H.sel [3] rfl
end Go.Proofs.YtbbadmlekagloaaDoor
namespace Go.Proofs.YtbbadmlekagloaaDoor
open Go Go.Sh
set_option linter.unusedVariables false
set_option linter.unusedSimpArgs false
attribute [local irreducible] Blk Ext RdS
theorem Hp.dis {S : Nat → Prop} {w0 w : World} {Γ : List Ck} {c d : Ck} (H : Hp S w0 w Γ) (i j : Nat) (hi : Γ[i]? = some c) (hj : Γ[j]? = some d) (hlt : i < j) (ho : c.own = true ∨ d.own = true) : ∀ k, ¬ (c.fp k ∧ d.fp k) := by
  obtain ⟨h1, h2⟩ := List.getElem?_eq_some_iff.1 hi
  obtain ⟨h3, h4⟩ := List.getElem?_eq_some_iff.1 hj
  have := List.pairwise_iff_getElem.1 H.sep i j h1 h3 hlt
  rw [h2, h4] at this
  exact this ho
theorem turnZip (fs : List Fn) (qs : List Nat) : (zipE (fs.map turnedF) qs).flatMap FE.enc = (zipE fs qs).flatMap FE.enc := by
  induction fs generalizing qs with
  | nil => rfl
  | cons f r ih =>
    cases qs with
    | nil => rfl
    | cons q qr =>
      have := ih qr
      simp only [zipE, List.map_cons, List.zipWith_cons_cons, List.flatMap_cons] at this ⊢
      rw [this]
      congr 1
      simp [FE.enc, lai, turned_len]
      exact ⟨rfl, rfl, rfl⟩
theorem bool_self {x : Int × Nat × Nat} : ((x.1 == x.1) && (((x.2.1 : Int) == (x.2.1 : Int)) && ((x.2.2 : Int) == (x.2.2 : Int)))) = true := by simp
theorem checkPlaced_c (A : Option Addr) (l : List FE) (c : Nat) (w : World) (hA : RdP w A l) (hG : RdG w) (hl : l.length ≤ 1048576) (hc : ∀ x ∈ l, x.1.code.length ≤ 1048576) :
    Cl Tryd.prog 32 #[pv A l.length c] w (fun v w' => v = .bool true ∧ Ext w w') (fun _ _ => False) := by
  have hfl := fns_len l
  refine calls_ex (args := [pv A l.length c]) T.ok Tryd.func32 rfl rfl rfl rfl ?_
  have H := Hp.begin nw w
  refine Sq.mk ?_
  ((conv => whnf); refine Al.hp H ?_; clear H; intro pp _ H _)
  repeat' ((conv => whnf); first | (((with_reducible show Gd _ _ _); first | with_reducible refine Gd.t ?_ | with_reducible refine Gd.f ?_ | with_reducible refine Gd.dec (fun _ => ?_) (fun _ => ?_) | with_reducible refine Gd.beq (fun _ => ?_) (fun _ => ?_) | with_reducible refine Gd.bne (fun _ => ?_) (fun _ => ?_) | with_reducible refine Gd.not ?_ | refine Gd.t ?_ | refine Gd.f ?_ | with_reducible refine Gd.var (fun _ => ?_) (fun _ => ?_)) <;> first | (exfalso; omega) | skip) | with_reducible refine Sq.mk ?_ | ((with_reducible show Ld1 _ _ _); first | refine Ld1.h H ?_ | refine Ld1.rF ?_ | refine Ld1.r ?_) | ((with_reducible show Ld _ _ _ _); first | refine Ld.h H ?_ | refine Ld.r ?_) | ((with_reducible show Ix _ _ _ _ _); (first | refine Ix.h ?_ | refine Ix.ha ?_)) | (refine Al.hp H ?_; clear H; intro _ _ H _) | (refine St.h H ?_; clear H; intro _ H))
  ((conv => whnf); refine Cl.mk (turnedAll_c A l c _ (hA.ext H.e) hl hc) ?_)
  rintro _ w2 ⟨C, d, l', rfl, hts, H'⟩
  replace H := H.fr0L H' (by simp [Ck.new])
  simp only [List.cons_append, List.nil_append] at H
  clear H'
  have hl' : l'.length = l.length := by have := congrArg List.length hts; simp [fns_len] at this; exact this
  have hc' : ∀ x ∈ l', x.1.code.length ≤ 1048576 := fun x hx => by
    have h1 : x.1 ∈ (fns l).map turnedF := by rw [← hts]; exact List.mem_map.2 ⟨x, hx, rfl⟩
    obtain ⟨f, hf, e⟩ := List.mem_map.1 h1
    obtain ⟨y, hy, e2⟩ := List.mem_map.1 hf
    rw [← e, turned_len, ← e2]
    exact hc y hy
  ((conv => whnf); refine Al.hp H ?_; clear H; intro pt _ H _)
  repeat' ((conv => whnf); first | (((with_reducible show Gd _ _ _); first | with_reducible refine Gd.t ?_ | with_reducible refine Gd.f ?_ | with_reducible refine Gd.dec (fun _ => ?_) (fun _ => ?_) | with_reducible refine Gd.beq (fun _ => ?_) (fun _ => ?_) | with_reducible refine Gd.bne (fun _ => ?_) (fun _ => ?_) | with_reducible refine Gd.not ?_ | refine Gd.t ?_ | refine Gd.f ?_ | with_reducible refine Gd.var (fun _ => ?_) (fun _ => ?_)) <;> first | (exfalso; omega) | skip) | with_reducible refine Sq.mk ?_ | ((with_reducible show Ld1 _ _ _); first | refine Ld1.h H ?_ | refine Ld1.rF ?_ | refine Ld1.r ?_) | ((with_reducible show Ld _ _ _ _); first | refine Ld.h H ?_ | refine Ld.r ?_) | ((with_reducible show Ix _ _ _ _ _); (first | refine Ix.h ?_ | refine Ix.ha ?_)) | (refine Al.hp H ?_; clear H; intro _ _ H _) | (refine St.h H ?_; clear H; intro _ H))
  ((conv => whnf); refine Cl.mk (wrap_c C l' d _ ⟨H.rdq 2 rfl, H.atC 1 rfl⟩ (by omega) hc') ?_)
  rintro _ w3 ⟨pf, qs, C2, cc, rfl, hqs, H'⟩
  replace H := H.fr0L H' (by simp [Ck.new])
  simp only [List.cons_append, List.nil_append] at H
  clear H'
  rw [fns_len] at hqs
  ((conv => whnf); refine Al.hp H ?_; clear H; intro pg _ H _)
  repeat' ((conv => whnf); first | (((with_reducible show Gd _ _ _); first | with_reducible refine Gd.t ?_ | with_reducible refine Gd.f ?_ | with_reducible refine Gd.dec (fun _ => ?_) (fun _ => ?_) | with_reducible refine Gd.beq (fun _ => ?_) (fun _ => ?_) | with_reducible refine Gd.bne (fun _ => ?_) (fun _ => ?_) | with_reducible refine Gd.not ?_ | refine Gd.t ?_ | refine Gd.f ?_ | with_reducible refine Gd.var (fun _ => ?_) (fun _ => ?_)) <;> first | (exfalso; omega) | skip) | with_reducible refine Sq.mk ?_ | ((with_reducible show Ld1 _ _ _); first | refine Ld1.h H ?_ | refine Ld1.rF ?_ | refine Ld1.r ?_) | ((with_reducible show Ld _ _ _ _); first | refine Ld.h H ?_ | refine Ld.r ?_) | ((with_reducible show Ix _ _ _ _ _); (first | refine Ix.h ?_ | refine Ix.ha ?_)) | (refine Al.hp H ?_; clear H; intro _ _ H _) | (refine St.h H ?_; clear H; intro _ H))
  have hql : qs.length = (fns l').length := by rw [fns_len]; exact hqs
  have hzl : (zipE (fns l') qs).length = (fns l').length := by rw [zipE, zip_len lai (by omega)]; omega
  have hck1 := Check_c (some ⟨pf, 0, none⟩) (zipE (fns l') qs) ((fns l').length + 1) _ (RdS.from H.e hG) (rdp_zip hql (H.rdb (enc := FE.enc) 3 rfl (fun _ _ => rfl)) (H.atC 1 rfl))
  rw [hzl, fns_zip hql] at hck1
  (((conv => whnf); refine Cl.mk (hck1) ?_); rintro _ _ ⟨rfl, hx⟩; replace H := H.ext hx; clear hx)
  repeat' ((conv => whnf); first | (((with_reducible show Gd _ _ _); first | with_reducible refine Gd.t ?_ | with_reducible refine Gd.f ?_ | with_reducible refine Gd.dec (fun _ => ?_) (fun _ => ?_) | with_reducible refine Gd.beq (fun _ => ?_) (fun _ => ?_) | with_reducible refine Gd.bne (fun _ => ?_) (fun _ => ?_) | with_reducible refine Gd.not ?_ | refine Gd.t ?_ | refine Gd.f ?_ | with_reducible refine Gd.var (fun _ => ?_) (fun _ => ?_)) <;> first | (exfalso; omega) | skip) | with_reducible refine Sq.mk ?_ | ((with_reducible show Ld1 _ _ _); first | refine Ld1.h H ?_ | refine Ld1.rF ?_ | refine Ld1.r ?_) | ((with_reducible show Ld _ _ _ _); first | refine Ld.h H ?_ | refine Ld.r ?_) | ((with_reducible show Ix _ _ _ _ _); (first | refine Ix.h ?_ | refine Ix.ha ?_)) | (refine St.h H ?_; clear H; intro _ H))
  ((conv => whnf); refine Al.hp H ?_; clear H; intro p1 _ H _)
  repeat' ((conv => whnf); first | (((with_reducible show Gd _ _ _); first | with_reducible refine Gd.t ?_ | with_reducible refine Gd.f ?_ | with_reducible refine Gd.dec (fun _ => ?_) (fun _ => ?_) | with_reducible refine Gd.beq (fun _ => ?_) (fun _ => ?_) | with_reducible refine Gd.bne (fun _ => ?_) (fun _ => ?_) | with_reducible refine Gd.not ?_ | refine Gd.t ?_ | refine Gd.f ?_ | with_reducible refine Gd.var (fun _ => ?_) (fun _ => ?_)) <;> first | (exfalso; omega) | skip) | with_reducible refine Sq.mk ?_ | ((with_reducible show Ld1 _ _ _); first | refine Ld1.h H ?_ | refine Ld1.rF ?_ | refine Ld1.r ?_) | ((with_reducible show Ld _ _ _ _); first | refine Ld.h H ?_ | refine Ld.r ?_) | ((with_reducible show Ix _ _ _ _ _); (first | refine Ix.h ?_ | refine Ix.ha ?_)) | (refine Al.hp H ?_; clear H; intro _ _ H _) | (refine St.h H ?_; clear H; intro _ H))
  have hfe : (fns l').length = l.length := by rw [fns_len]; exact hl'
  have hpq : pf ∉ qs := fun h => (Hp.dis H 2 4 rfl rfl (by decide) (.inl rfl)) pf ⟨h, rfl⟩
  have hqlo : ∀ q ∈ qs, w.heap.size ≤ q := fun q hq => by
    rcases H.dom (cdk qs ((fns l').map spC)) (List.mem_of_getElem? (i := 2) rfl) (.inl rfl) q hq with h | h
    · exact h.elim
    · exact h
  have htc : ∀ (i : Nat) (f t : Fn), (fns l)[i]? = some f → (fns l')[i]? = some t → t.code.length = f.code.length := fun i f t hf ht => by
    rw [hts, List.getElem?_map, hf] at ht
    simp at ht; subst ht
    exact turned_len f
  have hzr : RdS FE.enc 4 _ (some ⟨pf, 0, none⟩) (zipE (fns l') qs) := (rdp_zip hql (H.rdb (enc := FE.enc) 4 rfl (fun _ _ => rfl)) (H.atC 2 rfl)).top
  have hly := lay_c (fns l) (fns l') pf (l.length + 1) qs A l c w _ H.e hA rfl (by omega) htc hl hc (by omega) hqlo (H.atC 2 rfl) hzr hpq
  clear hzr
  rw [hfe]
  ((conv => whnf); refine Cl.mk (hly) ?_)
  rintro _ w6 H'
  replace H := H.upd (c := cdk qs ((fns l').map spC)) H' rfl (.inl rfl)
  clear H' hly
  have hz : (zipE (fns l') qs ++ [markF]).flatMap FE.enc = (zipE (fns l) qs ++ [markF]).flatMap FE.enc := by rw [List.flatMap_append, List.flatMap_append, hts, turnZip]
  rw [hz] at H
  have hzl2 : (zipE (fns l) qs).length = l.length := by rw [zipE, zip_len lai (by omega)]; omega
  repeat' ((conv => whnf); first | (((with_reducible show Gd _ _ _); first | with_reducible refine Gd.t ?_ | with_reducible refine Gd.f ?_ | with_reducible refine Gd.dec (fun _ => ?_) (fun _ => ?_) | with_reducible refine Gd.beq (fun _ => ?_) (fun _ => ?_) | with_reducible refine Gd.bne (fun _ => ?_) (fun _ => ?_) | with_reducible refine Gd.not ?_ | refine Gd.t ?_ | refine Gd.f ?_ | with_reducible refine Gd.var (fun _ => ?_) (fun _ => ?_)) <;> first | (exfalso; omega) | skip) | with_reducible refine Sq.mk ?_ | ((with_reducible show Ld1 _ _ _); first | refine Ld1.h H ?_ | refine Ld1.rF ?_ | refine Ld1.r ?_) | ((with_reducible show Ld _ _ _ _); first | refine Ld.h H ?_ | refine Ld.r ?_) | ((with_reducible show Ix _ _ _ _ _); (first | refine Ix.h ?_ | refine Ix.ha ?_)) | (refine Al.hp H ?_; clear H; intro _ _ H _) | (refine St.h H ?_; clear H; intro _ H))
  have hck2 := Check_c (some ⟨pf, 0, none⟩) (zipE (fns l) qs) (l.length + 1) _ (RdS.from H.e hG) (rdp_zip (by omega) (H.rdb (enc := FE.enc) 4 rfl (fun _ _ => rfl)) (H.atC 2 rfl))
  rw [hzl2, fns_zip (by omega)] at hck2
  rw [hfe] at H ⊢
  (((conv => whnf); refine Cl.mk (hck2) ?_); rintro _ _ ⟨rfl, hx⟩; replace H := H.ext hx; clear hx)
  clear hck2
  ((conv => whnf); refine Al.hp H ?_; clear H; intro p2 _ H _)
  repeat' ((conv => whnf); first | (((with_reducible show Gd _ _ _); first | with_reducible refine Gd.t ?_ | with_reducible refine Gd.f ?_ | with_reducible refine Gd.dec (fun _ => ?_) (fun _ => ?_) | with_reducible refine Gd.beq (fun _ => ?_) (fun _ => ?_) | with_reducible refine Gd.bne (fun _ => ?_) (fun _ => ?_) | with_reducible refine Gd.not ?_ | refine Gd.t ?_ | refine Gd.f ?_ | with_reducible refine Gd.var (fun _ => ?_) (fun _ => ?_)) <;> first | (exfalso; omega) | skip) | with_reducible refine Sq.mk ?_ | ((with_reducible show Ld1 _ _ _); first | refine Ld1.h H ?_ | refine Ld1.rF ?_ | refine Ld1.r ?_) | ((with_reducible show Ld _ _ _ _); first | refine Ld.h H ?_ | refine Ld.r ?_) | ((with_reducible show Ix _ _ _ _ _); (first | refine Ix.h ?_ | refine Ix.ha ?_)) | (refine Al.hp H ?_; clear H; intro _ _ H _) | (refine St.h H ?_; clear H; intro _ H))
  have hP1 := hA.ext H.e
  have hP2 : RdP _ C l' := ⟨H.rdq 8 rfl, H.atC 7 rfl⟩
  ((conv => whnf); refine Dr.quiet T.ok mixed (by kernel_rfl) (fun W hW => ?_))
  repeat' (first | ((conv => whnf); first | (((with_reducible show Gd _ _ _); first | with_reducible refine Gd.t ?_ | with_reducible refine Gd.f ?_ | with_reducible refine Gd.dec (fun _ => ?_) (fun _ => ?_) | with_reducible refine Gd.beq (fun _ => ?_) (fun _ => ?_) | with_reducible refine Gd.bne (fun _ => ?_) (fun _ => ?_) | with_reducible refine Gd.not ?_ | refine Gd.t ?_ | refine Gd.f ?_ | with_reducible refine Gd.var (fun _ => ?_) (fun _ => ?_)) <;> first | (exfalso; omega) | skip) | ((with_reducible show QLd1 _ _ _); first | refine QLd1.h hW H ?_ | refine QLd1.rF hW ?_ | refine QLd1.r hW ?_) | ((with_reducible show QLd _ _ _ _); first | refine QLd.h hW H ?_ | refine QLd.r hW ?_) | ((with_reducible show Ix _ _ _ _ _); (first | refine Ix.h ?_ | refine Ix.ha ?_))) | ((conv => whnf); refine QCl.mk hW (fun _ ee => Cl.mk (rCheck_c C l' d _ (hP2.ext ee)) (fun _ _ h => h)) ?_) | ((conv => whnf); refine QCl.mk hW (fun _ ee => Cl.mk (rCheck_c A l c _ (hP1.ext ee)) (fun _ _ h => h)) ?_))
  all_goals first | (exfalso; rename_i hx; simp at hx; done) | skip
  (intro _ eT; replace H := H.ext eT; clear hW eT)
  clear hP1 hP2
  repeat' ((conv => whnf); first | (((with_reducible show Gd _ _ _); first | with_reducible refine Gd.t ?_ | with_reducible refine Gd.f ?_ | with_reducible refine Gd.dec (fun _ => ?_) (fun _ => ?_) | with_reducible refine Gd.beq (fun _ => ?_) (fun _ => ?_) | with_reducible refine Gd.bne (fun _ => ?_) (fun _ => ?_) | with_reducible refine Gd.not ?_ | refine Gd.t ?_ | refine Gd.f ?_ | with_reducible refine Gd.var (fun _ => ?_) (fun _ => ?_)) <;> first | (exfalso; omega) | skip) | with_reducible refine Sq.mk ?_ | ((with_reducible show Ld1 _ _ _); first | refine Ld1.h H ?_ | refine Ld1.rF ?_ | refine Ld1.r ?_) | ((with_reducible show Ld _ _ _ _); first | refine Ld.h H ?_ | refine Ld.r ?_) | ((with_reducible show Ix _ _ _ _ _); (first | refine Ix.h ?_ | refine Ix.ha ?_)) | (refine Al.hp H ?_; clear H; intro _ _ H _) | (refine St.h H ?_; clear H; intro _ H))
  exact ⟨b_eq (by simp), H.e⟩
theorem progCheck_c (A : Option Addr) (l : List FE) (c : Nat) (w : World) (hA : RdP w A l) (hG : RdG w) (hl : l.length ≤ 1048576) (hc : ∀ x ∈ l, x.1.code.length ≤ 1048576) :
    Cl Tryd.prog 5 #[pv A l.length c] w (fun v w' => v = .bool true ∧ Ext w w') (fun _ _ => False) := by
  have hfl := fns_len l
  refine calls_ex (args := [pv A l.length c]) T.ok Tryd.func5 rfl rfl rfl rfl ?_
  have H := Hp.begin nw w
  refine Sq.mk ?_
  ((conv => whnf); refine Al.hp H ?_; clear H; intro pp _ H _)
  repeat' ((conv => whnf); first | (((with_reducible show Gd _ _ _); first | with_reducible refine Gd.t ?_ | with_reducible refine Gd.f ?_ | with_reducible refine Gd.dec (fun _ => ?_) (fun _ => ?_) | with_reducible refine Gd.beq (fun _ => ?_) (fun _ => ?_) | with_reducible refine Gd.bne (fun _ => ?_) (fun _ => ?_) | with_reducible refine Gd.not ?_ | refine Gd.t ?_ | refine Gd.f ?_ | with_reducible refine Gd.var (fun _ => ?_) (fun _ => ?_)) <;> first | (exfalso; omega) | skip) | with_reducible refine Sq.mk ?_ | ((with_reducible show Ld1 _ _ _); first | refine Ld1.h H ?_ | refine Ld1.rF ?_ | refine Ld1.r ?_) | ((with_reducible show Ld _ _ _ _); first | refine Ld.h H ?_ | refine Ld.r ?_) | ((with_reducible show Ix _ _ _ _ _); (first | refine Ix.h ?_ | refine Ix.ha ?_)) | (refine Al.hp H ?_; clear H; intro _ _ H _) | (refine St.h H ?_; clear H; intro _ H))
  (((conv => whnf); refine Cl.mk (rCheck_c A l c _ (hA.ext H.e)) ?_); rintro _ _ ⟨rfl, hx⟩; replace H := H.ext hx; clear hx)
  ((conv => whnf); refine Al.hp H ?_; clear H; intro p1 _ H _)
  repeat' ((conv => whnf); first | (((with_reducible show Gd _ _ _); first | with_reducible refine Gd.t ?_ | with_reducible refine Gd.f ?_ | with_reducible refine Gd.dec (fun _ => ?_) (fun _ => ?_) | with_reducible refine Gd.beq (fun _ => ?_) (fun _ => ?_) | with_reducible refine Gd.bne (fun _ => ?_) (fun _ => ?_) | with_reducible refine Gd.not ?_ | refine Gd.t ?_ | refine Gd.f ?_ | with_reducible refine Gd.var (fun _ => ?_) (fun _ => ?_)) <;> first | (exfalso; omega) | skip) | with_reducible refine Sq.mk ?_ | ((with_reducible show Ld1 _ _ _); first | refine Ld1.h H ?_ | refine Ld1.rF ?_ | refine Ld1.r ?_) | ((with_reducible show Ld _ _ _ _); first | refine Ld.h H ?_ | refine Ld.r ?_) | ((with_reducible show Ix _ _ _ _ _); (first | refine Ix.h ?_ | refine Ix.ha ?_)) | (refine Al.hp H ?_; clear H; intro _ _ H _) | (refine St.h H ?_; clear H; intro _ H))
  ((conv => whnf); refine Cl.mk (wrap_c A l c _ (hA.ext H.e) hl hc) ?_)
  rintro _ w3 ⟨pf, qs, C2, cc, rfl, hqs, H'⟩
  replace H := H.fr0L H' (by simp [Ck.new])
  simp only [List.cons_append, List.nil_append] at H
  clear H'
  rw [hfl]
  ((conv => whnf); refine Al.hp H ?_; clear H; intro pg _ H _)
  have hzl : (zipE (fns l) qs).length = l.length := by rw [zipE, zip_len lai (by omega)]; omega
  repeat' ((conv => whnf); first | (((with_reducible show Gd _ _ _); first | with_reducible refine Gd.t ?_ | with_reducible refine Gd.f ?_ | with_reducible refine Gd.dec (fun _ => ?_) (fun _ => ?_) | with_reducible refine Gd.beq (fun _ => ?_) (fun _ => ?_) | with_reducible refine Gd.bne (fun _ => ?_) (fun _ => ?_) | with_reducible refine Gd.not ?_ | refine Gd.t ?_ | refine Gd.f ?_ | with_reducible refine Gd.var (fun _ => ?_) (fun _ => ?_)) <;> first | (exfalso; omega) | skip) | with_reducible refine Sq.mk ?_ | ((with_reducible show Ld1 _ _ _); first | refine Ld1.h H ?_ | refine Ld1.rF ?_ | refine Ld1.r ?_) | ((with_reducible show Ld _ _ _ _); first | refine Ld.h H ?_ | refine Ld.r ?_) | ((with_reducible show Ix _ _ _ _ _); (first | refine Ix.h ?_ | refine Ix.ha ?_)) | (refine Al.hp H ?_; clear H; intro _ _ H _) | (refine St.h H ?_; clear H; intro _ H))
  have hck1 := Check_c (some ⟨pf, 0, none⟩) (zipE (fns l) qs) (l.length + 1) _ (RdS.from H.e hG) (rdp_zip hqs (H.rdb (enc := FE.enc) 3 rfl (fun _ _ => rfl)) (H.atC 1 rfl))
  rw [hzl, fns_zip hqs] at hck1
  (((conv => whnf); refine Cl.mk (hck1) ?_); rintro _ _ ⟨rfl, hx⟩; replace H := H.ext hx; clear hx)
  clear hck1
  ((conv => whnf); refine Al.hp H ?_; clear H; intro p2 _ H _)
  repeat' ((conv => whnf); first | (((with_reducible show Gd _ _ _); first | with_reducible refine Gd.t ?_ | with_reducible refine Gd.f ?_ | with_reducible refine Gd.dec (fun _ => ?_) (fun _ => ?_) | with_reducible refine Gd.beq (fun _ => ?_) (fun _ => ?_) | with_reducible refine Gd.bne (fun _ => ?_) (fun _ => ?_) | with_reducible refine Gd.not ?_ | refine Gd.t ?_ | refine Gd.f ?_ | with_reducible refine Gd.var (fun _ => ?_) (fun _ => ?_)) <;> first | (exfalso; omega) | skip) | with_reducible refine Sq.mk ?_ | ((with_reducible show Ld1 _ _ _); first | refine Ld1.h H ?_ | refine Ld1.rF ?_ | refine Ld1.r ?_) | ((with_reducible show Ld _ _ _ _); first | refine Ld.h H ?_ | refine Ld.r ?_) | ((with_reducible show Ix _ _ _ _ _); (first | refine Ix.h ?_ | refine Ix.ha ?_)) | (refine Al.hp H ?_; clear H; intro _ _ H _) | (refine St.h H ?_; clear H; intro _ H))
  have hck1 := Check_c (some ⟨pf, 0, none⟩) (zipE (fns l) qs) (l.length + 1) _ (RdS.from H.e hG) (rdp_zip hqs (H.rdb (enc := FE.enc) 4 rfl (fun _ _ => rfl)) (H.atC 2 rfl))
  rw [hzl, fns_zip hqs] at hck1
  (((conv => whnf); refine Cl.mk (hck1) ?_); rintro _ _ ⟨rfl, hx⟩; replace H := H.ext hx; clear hx)
  clear hck1
  ((conv => whnf); refine Al.hp H ?_; clear H; intro p3 _ H _)
  repeat' ((conv => whnf); first | (((with_reducible show Gd _ _ _); first | with_reducible refine Gd.t ?_ | with_reducible refine Gd.f ?_ | with_reducible refine Gd.dec (fun _ => ?_) (fun _ => ?_) | with_reducible refine Gd.beq (fun _ => ?_) (fun _ => ?_) | with_reducible refine Gd.bne (fun _ => ?_) (fun _ => ?_) | with_reducible refine Gd.not ?_ | refine Gd.t ?_ | refine Gd.f ?_ | with_reducible refine Gd.var (fun _ => ?_) (fun _ => ?_)) <;> first | (exfalso; omega) | skip) | with_reducible refine Sq.mk ?_ | ((with_reducible show Ld1 _ _ _); first | refine Ld1.h H ?_ | refine Ld1.rF ?_ | refine Ld1.r ?_) | ((with_reducible show Ld _ _ _ _); first | refine Ld.h H ?_ | refine Ld.r ?_) | ((with_reducible show Ix _ _ _ _ _); (first | refine Ix.h ?_ | refine Ix.ha ?_)) | (refine Al.hp H ?_; clear H; intro _ _ H _) | (refine St.h H ?_; clear H; intro _ H))
  all_goals first | (exfalso; rename_i hx; simp at hx; done) | skip
  have hut := untouched_c (fns l) pf qs C2 cc A l c _ (hA.ext H.e) rfl hl hc hqs (H.atC 3 rfl) (H.rdq 4 rfl) (H.rdb (enc := FE.enc) 5 rfl (fun _ _ => rfl))
  repeat' (first | ((conv => whnf); first | (((with_reducible show Gd _ _ _); first | with_reducible refine Gd.t ?_ | with_reducible refine Gd.f ?_ | with_reducible refine Gd.dec (fun _ => ?_) (fun _ => ?_) | with_reducible refine Gd.beq (fun _ => ?_) (fun _ => ?_) | with_reducible refine Gd.bne (fun _ => ?_) (fun _ => ?_) | with_reducible refine Gd.not ?_ | refine Gd.t ?_ | refine Gd.f ?_ | with_reducible refine Gd.var (fun _ => ?_) (fun _ => ?_)) <;> first | (exfalso; omega) | skip) | with_reducible refine Sq.mk ?_ | ((with_reducible show Ld1 _ _ _); first | refine Ld1.h H ?_ | refine Ld1.rF ?_ | refine Ld1.r ?_) | ((with_reducible show Ld _ _ _ _); first | refine Ld.h H ?_ | refine Ld.r ?_) | ((with_reducible show Ix _ _ _ _ _); (first | refine Ix.h ?_ | refine Ix.ha ?_)) | (refine Al.hp H ?_; clear H; intro _ _ H _) | (refine St.h H ?_; clear H; intro _ H)) | (((conv => whnf); refine Cl.mk (hut) ?_); rintro _ _ ⟨rfl, hx⟩; replace H := H.ext hx; clear hx) | (((conv => whnf); refine Cl.mk (checkPlaced_c A l c _ (hA.ext H.e) (RdS.from H.e hG) hl hc) ?_); rintro _ _ ⟨rfl, hx⟩; replace H := H.ext hx; clear hx))
  exact ⟨rfl, H.e⟩
end Go.Proofs.YtbbadmlekagloaaDoor
namespace Go.Proofs.YtbbadmlekagloaaDoor
open Go Go.Sh
set_option linter.unusedVariables false
set_option linter.unusedSimpArgs false
attribute [local irreducible] Blk Ext RdS
theorem run_rem {P : Program} {t : Nat} {a b : Int} {xo yo : Operand} (hb : b ≠ 0) (w : World) : (do eqGuard .rem t xo yo (.int .i64 a) (.int .i64 b); binOp .rem t (.int .i64 a) (.int .i64 b) : Sem Value).run P w = .ok (.int .i64 (a.tmod b)) w := by
  have hg : (eqGuard .rem t xo yo (.int .i64 a) (.int .i64 b)).run P w = .ok () w := by unfold eqGuard; simp
  simp [hg, binOp, Op.intDiv, hb]
def modN (x : Int) (n : Nat) : Nat := (if x.tmod n < 0 then x.tmod n + n else x.tmod n).toNat
theorem modN_lt (x : Int) {n : Nat} (h : 0 < n) : modN x n < n := by
  have h1 := Int.tmod_lt_of_pos x (show (0 : Int) < n by omega)
  have h2 := Int.lt_tmod_of_pos x (show (0 : Int) < n by omega)
  unfold modN
  split <;> omega
theorem modN_v (x : Int) {n : Nat} (h : 0 < n) : (if x.tmod n < 0 then x.tmod n + n else x.tmod n) = ((modN x n : Nat) : Int) := by
  have h2 := Int.lt_tmod_of_pos x (show (0 : Int) < n by omega)
  unfold modN
  split <;> omega
theorem mod_c (x : Int) (n : Nat) (w : World) (h : 0 < n) (hn : n ≤ 9223372036854775807) : Cl Tryd.prog 34 #[.int .i64 x, .int .i64 (n : Int)] w (fun v w' => v = .int .i64 (modN x n : Int) ∧ Ext w w') (fun _ _ => False) := by
  have h1 := Int.tmod_lt_of_pos x (show (0 : Int) < n by omega)
  have h2 := Int.lt_tmod_of_pos x (show (0 : Int) < n by omega)
  have hv := modN_v x h
  refine calls_ex (args := [.int .i64 x, .int .i64 (n : Int)]) T.ok Tryd.func34 rfl rfl rfl rfl ?_
  have H := Hp.begin nw w
  repeat' ((conv => whnf); first | (((with_reducible show Gd _ _ _); first | with_reducible refine Gd.t ?_ | with_reducible refine Gd.f ?_ | with_reducible refine Gd.dec (fun _ => ?_) (fun _ => ?_) | with_reducible refine Gd.beq (fun _ => ?_) (fun _ => ?_) | with_reducible refine Gd.bne (fun _ => ?_) (fun _ => ?_) | with_reducible refine Gd.not ?_ | refine Gd.t ?_ | refine Gd.f ?_ | with_reducible refine Gd.var (fun _ => ?_) (fun _ => ?_)) <;> first | (exfalso; omega) | skip) | with_reducible refine Sq.mk ?_ | ((with_reducible show Ld1 _ _ _); first | refine Ld1.h H ?_ | refine Ld1.rF ?_ | refine Ld1.r ?_) | ((with_reducible show Ld _ _ _ _); first | refine Ld.h H ?_ | refine Ld.r ?_) | ((with_reducible show Ix _ _ _ _ _); (first | refine Ix.h ?_ | refine Ix.ha ?_)) | (refine Al.hp H ?_; clear H; intro _ _ H _) | (refine St.h H ?_; clear H; intro _ H))
  refine Sm.ran (run_rem (by omega) _) ?_
  repeat' ((conv => whnf); first | (((with_reducible show Gd _ _ _); first | with_reducible refine Gd.t ?_ | with_reducible refine Gd.f ?_ | with_reducible refine Gd.dec (fun _ => ?_) (fun _ => ?_) | with_reducible refine Gd.beq (fun _ => ?_) (fun _ => ?_) | with_reducible refine Gd.bne (fun _ => ?_) (fun _ => ?_) | with_reducible refine Gd.not ?_ | refine Gd.t ?_ | refine Gd.f ?_ | with_reducible refine Gd.var (fun _ => ?_) (fun _ => ?_)) <;> first | (exfalso; omega) | skip) | with_reducible refine Sq.mk ?_ | ((with_reducible show Ld1 _ _ _); first | refine Ld1.h H ?_ | refine Ld1.rF ?_ | refine Ld1.r ?_) | ((with_reducible show Ld _ _ _ _); first | refine Ld.h H ?_ | refine Ld.r ?_) | ((with_reducible show Ix _ _ _ _ _); (first | refine Ix.h ?_ | refine Ix.ha ?_)) | (refine Al.hp H ?_; clear H; intro _ _ H _) | (refine St.h H ?_; clear H; intro _ H))
  · refine ⟨i_eq ?_, H.e⟩
    rw [if_pos (by assumption)] at hv
    rw [← hv]
    exact w64 rfl (by omega) (by omega)
  · refine ⟨i_eq ?_, H.e⟩
    rw [if_neg (by assumption)] at hv
    exact hv
/-- what Check says of a program that it takes -/
structure Valid (fs : List Fn) : Prop where
  len : 1 ≤ fs.length ∧ fs.length ≤ 32
  shaped : ∀ f ∈ fs, shapedB f = true
  ins : ∀ f ∈ fs, ∀ c ∈ f.code, aloneB f c = true ∧ calledB fs f c = true
  ends : ∀ f ∈ fs, endsB f = true
  slot : ∀ f ∈ fs, ∀ (i : Nat) (c : Ins), f.code[i]? = some c → rowFault c (rowL f.slots.toNat (flwG f i)) = 0
theorem fs1_all {α β : Type} {g : Nat → α → Option β} : ∀ {l : List α} {j : Nat}, fs1 g l j = none → ∀ (i : Nat) (x : α), l[i]? = some x → g (j + i) x = none
  | [], _, _, i, x, h => by simp at h
  | y :: r, j, hn, i, x, h => by
    cases hg : g j y with
    | some b => simp [fs1, hg] at hn
    | none =>
      simp only [fs1, hg] at hn
      cases i with
      | zero => simp at h; subst h; exact hg
      | succ i =>
        have := fs1_all hn i x (by simpa using h)
        rwa [show j + 1 + i = j + (i + 1) by omega] at this
theorem fs1_none {α β : Type} {g : Nat → α → Option β} : ∀ {l : List α} {j : Nat}, (∀ (i : Nat) (x : α), l[i]? = some x → g (j + i) x = none) → fs1 g l j = none
  | [], _, _ => rfl
  | y :: r, j, h => by
    have h0 := h 0 y rfl
    simp only [Nat.add_zero] at h0
    simp only [fs1, h0]
    exact fs1_none fun i x hx => by
      have := h (i + 1) x (by simpa using hx)
      rwa [show j + (i + 1) = j + 1 + i by omega] at this
theorem check_ok {fs : List Fn} : (checkL fs).1 = 0 ↔ Valid fs := by
  constructor
  · intro h
    unfold checkL at h
    split at h
    · simp at h
    rename_i hlen
    split at h
    · simp at h
    rename_i h1
    split at h
    · rename_i i e k h2
      exfalso
      have key : ∀ {l : List Fn} {j : Nat}, fs1 (fun _ f => ins1 fs f) l j = some (i, e, k) → e ≠ 0 := by
        intro l
        induction l with
        | nil => intro j h; simp [fs1] at h
        | cons x r ih =>
          intro j h
          cases hx : ins1 fs x with
          | none => simp only [fs1, hx] at h; exact ih h
          | some b =>
            simp only [fs1, hx, Option.some.injEq, Prod.mk.injEq] at h
            obtain ⟨_, rfl⟩ := h
            unfold ins1 at hx
            split at hx
            · simp at hx; omega
            · split at hx
              · simp at hx
              · simp at hx; omega
      exact key h2 h
    rename_i h2
    split at h
    · rename_i i e k h3
      exfalso
      have key : ∀ {l : List Fn} {j : Nat}, fs1 (fun _ f => slot1 f) l j = some (i, e, k) → e ≠ 0 := by
        intro l
        induction l with
        | nil => intro j h; simp [fs1] at h
        | cons x r ih =>
          intro j h
          cases hx : slot1 x with
          | none => simp only [fs1, hx] at h; exact ih h
          | some b =>
            simp only [fs1, hx, Option.some.injEq, Prod.mk.injEq] at h
            obtain ⟨_, rfl⟩ := h
            have key2 : ∀ {m : List Ins} {j : Nat} {q : Nat} {u : Int}, fs1 (slotG x) m j = some (q, u) → u ≠ 0 := by
              intro m
              induction m with
              | nil => intro j q u h; simp [fs1] at h
              | cons y s ih2 =>
                intro j q u h
                cases hy : slotG x j y with
                | none => simp only [fs1, hy] at h; exact ih2 h
                | some b =>
                  simp only [fs1, hy, Option.some.injEq, Prod.mk.injEq] at h
                  obtain ⟨_, rfl⟩ := h
                  unfold slotG at hy
                  split at hy
                  · simp at hy
                  · rename_i hne; simp at hy; rw [← hy]; exact hne
            unfold slot1 at hx
            rw [Option.map_eq_some_iff] at hx
            obtain ⟨⟨q, u⟩, h4, h5⟩ := hx
            simp at h5
            rw [← h5.1]
            exact key2 h4
      exact key h3 h
    rename_i h3
    have a1 := fs1_all h1
    have a2 := fs1_all h2
    have a3 := fs1_all h3
    have hsh : ∀ f ∈ fs, shapedB f = true := fun f hf => by
      obtain ⟨i, hi⟩ := List.getElem?_of_mem hf
      have := a1 i f hi
      by_cases hs : shapedB f = true
      · exact hs
      · simp [hs] at this
    refine ⟨by omega, hsh, fun f hf c hc => ?_, fun f hf => ?_, fun f hf i c hc => ?_⟩
    · obtain ⟨i, hi⟩ := List.getElem?_of_mem hf
      obtain ⟨k, hk⟩ := List.getElem?_of_mem hc
      have := a2 i f hi
      unfold ins1 at this
      split at this
      · simp at this
      rename_i h4
      have := fs1_all h4 k c hk
      unfold insG at this
      split at this
      · rename_i h5; simpa using h5
      · simp at this
    · obtain ⟨i, hi⟩ := List.getElem?_of_mem hf
      have := a2 i f hi
      unfold ins1 at this
      split at this
      · simp at this
      split at this
      · assumption
      · simp at this
    · obtain ⟨j, hj⟩ := List.getElem?_of_mem hf
      have := a3 j f hj
      unfold slot1 at this
      rw [Option.map_eq_none_iff] at this
      have := fs1_all this i c hc
      rw [Nat.zero_add] at this
      unfold slotG at this
      split at this
      · assumption
      · simp at this
  · intro h
    have h1 : fs1 (fun _ f => if shapedB f then none else some ()) fs 0 = none := fs1_none fun i f hf => by simp [h.shaped f (List.mem_of_getElem? hf)]
    have h2 : fs1 (fun _ f => ins1 fs f) fs 0 = none := fs1_none fun i f hf => by
      have hm := List.mem_of_getElem? hf
      have : fs1 (insG fs f) f.code 0 = none := fs1_none fun k c hc => by
        have := h.ins f hm c (List.mem_of_getElem? hc)
        simp [insG, this]
      rw [ins1, this]
      simp [h.ends f hm]
    have h3 : fs1 (fun _ f => slot1 f) fs 0 = none := fs1_none fun i f hf => by
      have hm := List.mem_of_getElem? hf
      have : fs1 (slotG f) f.code 0 = none := fs1_none fun k c hc => by
        have := h.slot f hm k c hc
        simp [slotG, this]
      rw [slot1, this]; rfl
    unfold checkL
    rw [if_neg (by have := h.len; omega)]
    simp only [h1, h2, h3]
theorem check_valid {fs : List Fn} (h : Valid fs) : checkL fs = (0, 0, 0) := by
  have h1 : fs1 (fun _ f => if shapedB f then none else some ()) fs 0 = none := fs1_none fun i f hf => by simp [h.shaped f (List.mem_of_getElem? hf)]
  have h2 : fs1 (fun _ f => ins1 fs f) fs 0 = none := fs1_none fun i f hf => by
    have hm := List.mem_of_getElem? hf
    have : fs1 (insG fs f) f.code 0 = none := fs1_none fun k c hc => by
      have := h.ins f hm c (List.mem_of_getElem? hc)
      simp [insG, this]
    rw [ins1, this]
    simp [h.ends f hm]
  have h3 : fs1 (fun _ f => slot1 f) fs 0 = none := fs1_none fun i f hf => by
    have hm := List.mem_of_getElem? hf
    have : fs1 (slotG f) f.code 0 = none := fs1_none fun k c hc => by
      have := h.slot f hm k c hc
      simp [slotG, this]
    rw [slot1, this]; rfl
  unfold checkL
  rw [if_neg (by have := h.len; omega)]
  simp only [h1, h2, h3]
theorem head_c (w : World) (hG : RdG w) : Cl Tryd.prog 33 #[] w (fun v w' => v = .bool true ∧ Ext w w') (fun _ _ => False) := by
  refine calls_ex (args := []) T.ok Tryd.func33 rfl rfl rfl rfl ?_
  have H := Hp.begin nw w
  repeat' ((conv => whnf); first | (((with_reducible show Gd _ _ _); first | with_reducible refine Gd.t ?_ | with_reducible refine Gd.f ?_ | with_reducible refine Gd.dec (fun _ => ?_) (fun _ => ?_) | with_reducible refine Gd.beq (fun _ => ?_) (fun _ => ?_) | with_reducible refine Gd.bne (fun _ => ?_) (fun _ => ?_) | with_reducible refine Gd.not ?_ | refine Gd.t ?_ | refine Gd.f ?_ | with_reducible refine Gd.var (fun _ => ?_) (fun _ => ?_)) <;> first | (exfalso; omega) | skip) | with_reducible refine Sq.mk ?_ | ((with_reducible show Ld1 _ _ _); first | refine Ld1.h H ?_ | refine Ld1.rF ?_ | refine Ld1.r ?_) | ((with_reducible show Ld _ _ _ _); first | refine Ld.h H ?_ | refine Ld.r ?_) | ((with_reducible show Ix _ _ _ _ _); (first | refine Ix.h ?_ | refine Ix.ha ?_)) | (refine Al.hp H ?_; clear H; intro _ _ H _) | (refine St.h H ?_; clear H; intro _ H))
  refine Sm.lith (cs := Ins.enc ⟨9, 0, 0, 0, 0⟩) H T.ok (fun p1 w1 H _ => ?_)
  repeat' ((conv => whnf); first | (((with_reducible show Gd _ _ _); first | with_reducible refine Gd.t ?_ | with_reducible refine Gd.f ?_ | with_reducible refine Gd.dec (fun _ => ?_) (fun _ => ?_) | with_reducible refine Gd.beq (fun _ => ?_) (fun _ => ?_) | with_reducible refine Gd.bne (fun _ => ?_) (fun _ => ?_) | with_reducible refine Gd.not ?_ | refine Gd.t ?_ | refine Gd.f ?_ | with_reducible refine Gd.var (fun _ => ?_) (fun _ => ?_)) <;> first | (exfalso; omega) | skip) | with_reducible refine Sq.mk ?_ | ((with_reducible show Ld1 _ _ _); first | refine Ld1.h H ?_ | refine Ld1.rF ?_ | refine Ld1.r ?_) | ((with_reducible show Ld _ _ _ _); first | refine Ld.h H ?_ | refine Ld.r ?_) | ((with_reducible show Ix _ _ _ _ _); (first | refine Ix.h ?_ | refine Ix.ha ?_)) | (refine Al.hp H ?_; clear H; intro _ _ H _) | (refine St.h H ?_; clear H; intro _ H))
  refine Sm.lith (cs := FE.enc (⟨0, 1, 0, [⟨9, 0, 0, 0, 0⟩]⟩, some ⟨p1, 0, none⟩, 1)) H T.ok (fun p2 w2 H _ => ?_)
  repeat' ((conv => whnf); first | (((with_reducible show Gd _ _ _); first | with_reducible refine Gd.t ?_ | with_reducible refine Gd.f ?_ | with_reducible refine Gd.dec (fun _ => ?_) (fun _ => ?_) | with_reducible refine Gd.beq (fun _ => ?_) (fun _ => ?_) | with_reducible refine Gd.bne (fun _ => ?_) (fun _ => ?_) | with_reducible refine Gd.not ?_ | refine Gd.t ?_ | refine Gd.f ?_ | with_reducible refine Gd.var (fun _ => ?_) (fun _ => ?_)) <;> first | (exfalso; omega) | skip) | with_reducible refine Sq.mk ?_ | ((with_reducible show Ld1 _ _ _); first | refine Ld1.h H ?_ | refine Ld1.rF ?_ | refine Ld1.r ?_) | ((with_reducible show Ld _ _ _ _); first | refine Ld.h H ?_ | refine Ld.r ?_) | ((with_reducible show Ix _ _ _ _ _); (first | refine Ix.h ?_ | refine Ix.ha ?_)) | (refine Al.hp H ?_; clear H; intro _ _ H _) | (refine St.h H ?_; clear H; intro _ H))
  have hP1 : RdP _ (some ⟨p2, 0, none⟩) [((⟨0, 1, 0, [⟨9, 0, 0, 0, 0⟩]⟩, some ⟨p1, 0, none⟩, 1) : FE)] := ⟨rd_full (H.blk 0 rfl) (fun _ _ => rfl), fun x hx => by simp at hx; subst hx; exact rd_full (H.blk 1 rfl) (fun _ _ => rfl)⟩
  have hc1 := Check_c _ _ 1 _ (RdS.from H.e hG) hP1
  have hv1 : checkL (fns [((⟨0, 1, 0, [⟨9, 0, 0, 0, 0⟩]⟩, some ⟨p1, 0, none⟩, 1) : FE)]) = (0, 0, 0) := by
    simp [checkL, fns, fs1, shapedB, ins1, insG, aloneB, belowB, calledB, endsB, slot1, slotG, rowFault, rowL]
  rw [hv1] at hc1
  (((conv => whnf); refine Cl.mk (hc1) ?_); rintro _ _ ⟨rfl, hx⟩; replace H := H.ext hx; clear hx)
  clear hc1 hP1 hv1
  repeat' ((conv => whnf); first | (((with_reducible show Gd _ _ _); first | with_reducible refine Gd.t ?_ | with_reducible refine Gd.f ?_ | with_reducible refine Gd.dec (fun _ => ?_) (fun _ => ?_) | with_reducible refine Gd.beq (fun _ => ?_) (fun _ => ?_) | with_reducible refine Gd.bne (fun _ => ?_) (fun _ => ?_) | with_reducible refine Gd.not ?_ | refine Gd.t ?_ | refine Gd.f ?_ | with_reducible refine Gd.var (fun _ => ?_) (fun _ => ?_)) <;> first | (exfalso; omega) | skip) | with_reducible refine Sq.mk ?_ | ((with_reducible show Ld1 _ _ _); first | refine Ld1.h H ?_ | refine Ld1.rF ?_ | refine Ld1.r ?_) | ((with_reducible show Ld _ _ _ _); first | refine Ld.h H ?_ | refine Ld.r ?_) | ((with_reducible show Ix _ _ _ _ _); (first | refine Ix.h ?_ | refine Ix.ha ?_)) | (refine Al.hp H ?_; clear H; intro _ _ H _) | (refine St.h H ?_; clear H; intro _ H))
  refine Sm.lith (cs := Ins.enc ⟨9, 1, 0, 0, 0⟩) H T.ok (fun p3 w3 H _ => ?_)
  repeat' ((conv => whnf); first | (((with_reducible show Gd _ _ _); first | with_reducible refine Gd.t ?_ | with_reducible refine Gd.f ?_ | with_reducible refine Gd.dec (fun _ => ?_) (fun _ => ?_) | with_reducible refine Gd.beq (fun _ => ?_) (fun _ => ?_) | with_reducible refine Gd.bne (fun _ => ?_) (fun _ => ?_) | with_reducible refine Gd.not ?_ | refine Gd.t ?_ | refine Gd.f ?_ | with_reducible refine Gd.var (fun _ => ?_) (fun _ => ?_)) <;> first | (exfalso; omega) | skip) | with_reducible refine Sq.mk ?_ | ((with_reducible show Ld1 _ _ _); first | refine Ld1.h H ?_ | refine Ld1.rF ?_ | refine Ld1.r ?_) | ((with_reducible show Ld _ _ _ _); first | refine Ld.h H ?_ | refine Ld.r ?_) | ((with_reducible show Ix _ _ _ _ _); (first | refine Ix.h ?_ | refine Ix.ha ?_)) | (refine Al.hp H ?_; clear H; intro _ _ H _) | (refine St.h H ?_; clear H; intro _ H))
  refine Sm.lith (cs := FE.enc (⟨0, 1, 0, [⟨9, 1, 0, 0, 0⟩]⟩, some ⟨p3, 0, none⟩, 1)) H T.ok (fun p4 w4 H _ => ?_)
  repeat' ((conv => whnf); first | (((with_reducible show Gd _ _ _); first | with_reducible refine Gd.t ?_ | with_reducible refine Gd.f ?_ | with_reducible refine Gd.dec (fun _ => ?_) (fun _ => ?_) | with_reducible refine Gd.beq (fun _ => ?_) (fun _ => ?_) | with_reducible refine Gd.bne (fun _ => ?_) (fun _ => ?_) | with_reducible refine Gd.not ?_ | refine Gd.t ?_ | refine Gd.f ?_ | with_reducible refine Gd.var (fun _ => ?_) (fun _ => ?_)) <;> first | (exfalso; omega) | skip) | with_reducible refine Sq.mk ?_ | ((with_reducible show Ld1 _ _ _); first | refine Ld1.h H ?_ | refine Ld1.rF ?_ | refine Ld1.r ?_) | ((with_reducible show Ld _ _ _ _); first | refine Ld.h H ?_ | refine Ld.r ?_) | ((with_reducible show Ix _ _ _ _ _); (first | refine Ix.h ?_ | refine Ix.ha ?_)) | (refine Al.hp H ?_; clear H; intro _ _ H _) | (refine St.h H ?_; clear H; intro _ H))
  have hP1 : RdP _ (some ⟨p4, 0, none⟩) [((⟨0, 1, 0, [⟨9, 1, 0, 0, 0⟩]⟩, some ⟨p3, 0, none⟩, 1) : FE)] := ⟨rd_full (H.blk 0 rfl) (fun _ _ => rfl), fun x hx => by simp at hx; subst hx; exact rd_full (H.blk 1 rfl) (fun _ _ => rfl)⟩
  have hc1 := Check_c _ _ 1 _ (RdS.from H.e hG) hP1
  have hv1 : checkL (fns [((⟨0, 1, 0, [⟨9, 1, 0, 0, 0⟩]⟩, some ⟨p3, 0, none⟩, 1) : FE)]) = (52, 0, 0) := by
    simp [checkL, fns, fs1, shapedB, ins1, insG, aloneB, belowB, calledB, endsB]
  rw [hv1] at hc1
  (((conv => whnf); refine Cl.mk (hc1) ?_); rintro _ _ ⟨rfl, hx⟩; replace H := H.ext hx; clear hx)
  clear hc1 hP1 hv1
  repeat' ((conv => whnf); first | (((with_reducible show Gd _ _ _); first | with_reducible refine Gd.t ?_ | with_reducible refine Gd.f ?_ | with_reducible refine Gd.dec (fun _ => ?_) (fun _ => ?_) | with_reducible refine Gd.beq (fun _ => ?_) (fun _ => ?_) | with_reducible refine Gd.bne (fun _ => ?_) (fun _ => ?_) | with_reducible refine Gd.not ?_ | refine Gd.t ?_ | refine Gd.f ?_ | with_reducible refine Gd.var (fun _ => ?_) (fun _ => ?_)) <;> first | (exfalso; omega) | skip) | with_reducible refine Sq.mk ?_ | ((with_reducible show Ld1 _ _ _); first | refine Ld1.h H ?_ | refine Ld1.rF ?_ | refine Ld1.r ?_) | ((with_reducible show Ld _ _ _ _); first | refine Ld.h H ?_ | refine Ld.r ?_) | ((with_reducible show Ix _ _ _ _ _); (first | refine Ix.h ?_ | refine Ix.ha ?_)) | (refine Al.hp H ?_; clear H; intro _ _ H _) | (refine St.h H ?_; clear H; intro _ H))
  exact ⟨rfl, H.e⟩
end Go.Proofs.YtbbadmlekagloaaDoor
namespace Go.Proofs.YtbbadmlekagloaaDoor
open Go Go.Sh
set_option linter.unusedVariables false
set_option linter.unusedSimpArgs false
attribute [local irreducible] Blk Ext RdS
/-- append(l, m...) by a literal, which is struck behind it -/
theorem apL {P : Program} {T : Tab} {S : Nat → Prop} {w0 w : World} {Γ L R : List Ck} {q c : Nat} {α : Type} {enc : α → List Value} {sz : Nat} {e : TypeId} {A : Option Addr} {l : List α} {ku : Value → World → Prop} {Y : List PanicEntry → World → Prop} (m : List α) (H : Hp S w0 w (bk q e (m.flatMap enc) :: Γ)) (hT : TabOk P T) {t ty : TypeId} {ti ei : TI} {n n2 c2 : Nat}
    (hlen : (l.length + m.length) * ei.bytes ≤ 140737488355328) (hlen2 : l.length + m.length ≤ 140737488355328)
    (hk : ∀ A' c' w', Hp S w0 w' (L ++ qu enc sz e A' c' (l ++ m) :: R) → ku (.slice A' (l ++ m).length c') w')
    (hne : m ≠ []) (hm : ∀ x ∈ m, (enc x).length = sz) (h1 : ∀ x ∈ m, ∀ v ∈ enc x, v.oneCell' = true)
    (u : Sp Γ L (qu enc sz e A c l) R := by (repeat (first | exact Sp.head | apply Sp.tail))) (hn : n = l.length := by first | rfl | assumption) (hn2 : n2 = m.length := by rfl)
    (ht : getT T.ts t = some ti := by rfl) (hd : ti.desc = .slice e := by rfl) (he : getT T.ts e = some ei := by rfl) (hsz : ei.size = sz := by rfl) (hz : ei.zero.cells.size = sz := by rfl) (hpos : 0 < sz := by decide)
    : Sm P (Builtin.append_ #[t, t] ty #[.slice A n c, .slice (some ⟨q, 0, none⟩) n2 c2]) w ku Y := by
  refine Sm.appm H hT (m := m) hn (rd_full (H.blk 0 rfl) hm) hn2 hne hm h1 hlen hlen2 (L := bk q e (m.flatMap enc) :: L) (R := R) (fun A' c' w' H' => hk A' c' w' (Hp.d0 H')) (.tail u) ht hd he hsz hz hpos
/-- a literal's block as a slice that may grow -/
theorem Hp.bq {S : Nat → Prop} {w0 w : World} {Γ : List Ck} {p sz : Nat} {t : TypeId} {α : Type} {enc : α → List Value} {l : List α} (H : Hp S w0 w (bk p t (l.flatMap enc) :: Γ)) (hm : ∀ x ∈ l, (enc x).length = sz) : Hp S w0 w (qu enc sz t (some ⟨p, 0, none⟩) l.length l :: Γ) := by
  have hs := List.pairwise_cons.1 H.sep
  have hfp : ∀ k, (qu enc sz t (some ⟨p, 0, none⟩) l.length l).fp k → (bk p t (l.flatMap enc)).fp k := fun k hk => by
    have : some p = some k := hk
    simpa using this.symm
  refine ⟨H.tch, fun b hb => ?_, List.pairwise_cons.2 ⟨fun b hb h k hk => hs.1 b hb (.inl rfl) k ⟨hfp k hk.1, hk.2⟩, hs.2⟩, fun b hb hb' k hk => ?_⟩
  · rcases List.mem_cons.1 hb with rfl | hb
    · exact qu_ok (Que.of_full (H.blk 0 rfl) (Nat.zero_le _) hm)
    · exact H.ok b (by simp [hb])
  · rcases List.mem_cons.1 hb with rfl | hb
    · exact H.dom _ (List.mem_cons_self ..) (.inl rfl) k (hfp k hk)
    · exact H.dom b (by simp [hb]) hb' k hk
def sumL (l : List Int) : Int := l.foldl (fun h x => IntKind.i64.wrap (IntKind.i64.wrap (h * 31) + x)) 0
theorem sumL_snoc (l : List Int) (x : Int) : sumL (l ++ [x]) = IntKind.i64.wrap (IntKind.i64.wrap (sumL l * 31) + x) := by simp [sumL]
theorem psum_c (A : Option Addr) (c : Nat) (l : List Int) (w : World) (hA : RdS ints 1 w A l) (hl : l.length ≤ 9223372036854775806) :
    Cl Tryd.prog 71 #[.slice A l.length c] w (fun v w' => v = .int .i64 (sumL l) ∧ Ext w w') (fun _ _ => False) := by
  refine calls_ex (args := [.slice A l.length c]) T.ok Tryd.func71 rfl rfl rfl rfl ?_
  have H := Hp.begin nw w
  repeat' ((conv => whnf); first | (((with_reducible show Gd _ _ _); first | with_reducible refine Gd.t ?_ | with_reducible refine Gd.f ?_ | with_reducible refine Gd.dec (fun _ => ?_) (fun _ => ?_) | with_reducible refine Gd.beq (fun _ => ?_) (fun _ => ?_) | with_reducible refine Gd.bne (fun _ => ?_) (fun _ => ?_) | with_reducible refine Gd.not ?_ | refine Gd.t ?_ | refine Gd.f ?_ | with_reducible refine Gd.var (fun _ => ?_) (fun _ => ?_)) <;> first | (exfalso; omega) | skip) | with_reducible refine Sq.mk ?_ | ((with_reducible show Ld1 _ _ _); first | refine Ld1.h H ?_ | refine Ld1.rF ?_ | refine Ld1.r ?_) | ((with_reducible show Ld _ _ _ _); first | refine Ld.h H ?_ | refine Ld.r ?_) | ((with_reducible show Ix _ _ _ _ _); (first | refine Ix.h ?_ | refine Ix.ha ?_)) | (refine Al.hp H ?_; clear H; intro _ _ H _) | (refine St.h H ?_; clear H; intro _ H))
  refine Lp.g0 T.ok (σ := Nat) (fun i => [(8, .int .i64 (i : Int)), (7, .int .i64 (l.length : Int)), (6, .slice A l.length c), (3, .int .i64 (sumL (l.take i)))])
    (fun i w' => i ≤ l.length ∧ Hp nw w w' []) (fun i _ => l.length - i) 0 rfl ⟨rfl, rfl, rfl, rfl, trivial⟩ ⟨Nat.zero_le _, H⟩ ?_
  clear H
  rintro i w5 ⟨hi, H⟩
  by_cases hlt : i < l.length
  · obtain ⟨x, hx⟩ : ∃ x, l[i]? = some x := ⟨_, List.getElem?_eq_getElem hlt⟩
    have hA5 := RdS.from H.e hA
    obtain ⟨h1, h2⟩ := List.getElem?_eq_some_iff.1 hx
    repeat' ((conv => whnf); first | (((with_reducible show Gd _ _ _); first | with_reducible refine Gd.t ?_ | with_reducible refine Gd.f ?_ | with_reducible refine Gd.dec (fun _ => ?_) (fun _ => ?_) | with_reducible refine Gd.beq (fun _ => ?_) (fun _ => ?_) | with_reducible refine Gd.bne (fun _ => ?_) (fun _ => ?_) | with_reducible refine Gd.not ?_ | refine Gd.t ?_ | refine Gd.f ?_ | with_reducible refine Gd.var (fun _ => ?_) (fun _ => ?_)) <;> first | (exfalso; omega) | skip) | with_reducible refine Sq.mk ?_ | ((with_reducible show Ld1 _ _ _); first | refine Ld1.h H ?_ | refine Ld1.rF ?_ | refine Ld1.r ?_) | ((with_reducible show Ld _ _ _ _); first | refine Ld.h H ?_ | refine Ld.r ?_) | ((with_reducible show Ix _ _ _ _ _); (first | refine Ix.h ?_ | refine Ix.ha ?_)) | (refine Al.hp H ?_; clear H; intro _ _ H _) | (refine St.h H ?_; clear H; intro _ H))
    refine ⟨i + 1, ⟨at_int (m := ((i + 1 : Nat) : Int)) rfl (w64 (by simp) (by omega) (by omega)), rfl, rfl, at_val rfl (i_eq ?_), trivial⟩, rfl, ⟨by omega, H⟩, by omega⟩
    rw [List.take_succ_eq_append_getElem h1, sumL_snoc, h2]
  · have hi : i = l.length := by omega
    subst hi
    repeat' ((conv => whnf); first | (((with_reducible show Gd _ _ _); first | with_reducible refine Gd.t ?_ | with_reducible refine Gd.f ?_ | with_reducible refine Gd.dec (fun _ => ?_) (fun _ => ?_) | with_reducible refine Gd.beq (fun _ => ?_) (fun _ => ?_) | with_reducible refine Gd.bne (fun _ => ?_) (fun _ => ?_) | with_reducible refine Gd.not ?_ | refine Gd.t ?_ | refine Gd.f ?_ | with_reducible refine Gd.var (fun _ => ?_) (fun _ => ?_)) <;> first | (exfalso; omega) | skip) | with_reducible refine Sq.mk ?_ | ((with_reducible show Ld1 _ _ _); first | refine Ld1.h H ?_ | refine Ld1.rF ?_ | refine Ld1.r ?_) | ((with_reducible show Ld _ _ _ _); first | refine Ld.h H ?_ | refine Ld.r ?_) | ((with_reducible show Ix _ _ _ _ _); (first | refine Ix.h ?_ | refine Ix.ha ?_)) | (refine Al.hp H ?_; clear H; intro _ _ H _) | (refine St.h H ?_; clear H; intro _ H))
    exact ⟨by rw [List.take_length]; rfl, H.e⟩
theorem rsum_c (A : Option Addr) (c : Nat) (l : List Int) (w : World) (hA : RdS ints 1 w A l) (hl : l.length ≤ 9223372036854775806) :
    Cl Tryd.prog 72 #[.slice A l.length c] w (fun v w' => v = .int .i64 (sumL l) ∧ Ext w w') (fun _ _ => False) := by
  refine calls_ex (args := [.slice A l.length c]) T.ok Tryd.func72 rfl rfl rfl rfl ?_
  have H := Hp.begin nw w
  repeat' ((conv => whnf); first | (((with_reducible show Gd _ _ _); first | with_reducible refine Gd.t ?_ | with_reducible refine Gd.f ?_ | with_reducible refine Gd.dec (fun _ => ?_) (fun _ => ?_) | with_reducible refine Gd.beq (fun _ => ?_) (fun _ => ?_) | with_reducible refine Gd.bne (fun _ => ?_) (fun _ => ?_) | with_reducible refine Gd.not ?_ | refine Gd.t ?_ | refine Gd.f ?_ | with_reducible refine Gd.var (fun _ => ?_) (fun _ => ?_)) <;> first | (exfalso; omega) | skip) | with_reducible refine Sq.mk ?_ | ((with_reducible show Ld1 _ _ _); first | refine Ld1.h H ?_ | refine Ld1.rF ?_ | refine Ld1.r ?_) | ((with_reducible show Ld _ _ _ _); first | refine Ld.h H ?_ | refine Ld.r ?_) | ((with_reducible show Ix _ _ _ _ _); (first | refine Ix.h ?_ | refine Ix.ha ?_)) | (refine Al.hp H ?_; clear H; intro _ _ H _) | (refine St.h H ?_; clear H; intro _ H))
  refine Lp.g0 T.ok (σ := Nat) (fun i => [(4, .int .i64 (i : Int)), (0, .slice A l.length c), (3, .int .i64 (sumL (l.take i)))])
    (fun i w' => i ≤ l.length ∧ Hp nw w w' []) (fun i _ => l.length - i) 0 rfl ⟨rfl, rfl, rfl, trivial⟩ ⟨Nat.zero_le _, H⟩ ?_
  clear H
  rintro i w5 ⟨hi, H⟩
  by_cases hlt : i < l.length
  · obtain ⟨x, hx⟩ : ∃ x, l[i]? = some x := ⟨_, List.getElem?_eq_getElem hlt⟩
    have hA5 := RdS.from H.e hA
    obtain ⟨h1, h2⟩ := List.getElem?_eq_some_iff.1 hx
    repeat' ((conv => whnf); first | (((with_reducible show Gd _ _ _); first | with_reducible refine Gd.t ?_ | with_reducible refine Gd.f ?_ | with_reducible refine Gd.dec (fun _ => ?_) (fun _ => ?_) | with_reducible refine Gd.beq (fun _ => ?_) (fun _ => ?_) | with_reducible refine Gd.bne (fun _ => ?_) (fun _ => ?_) | with_reducible refine Gd.not ?_ | refine Gd.t ?_ | refine Gd.f ?_ | with_reducible refine Gd.var (fun _ => ?_) (fun _ => ?_)) <;> first | (exfalso; omega) | skip) | with_reducible refine Sq.mk ?_ | ((with_reducible show Ld1 _ _ _); first | refine Ld1.h H ?_ | refine Ld1.rF ?_ | refine Ld1.r ?_) | ((with_reducible show Ld _ _ _ _); first | refine Ld.h H ?_ | refine Ld.r ?_) | ((with_reducible show Ix _ _ _ _ _); (first | refine Ix.h ?_ | refine Ix.ha ?_)) | (refine Al.hp H ?_; clear H; intro _ _ H _) | (refine St.h H ?_; clear H; intro _ H))
    refine ⟨i + 1, ⟨at_int (m := ((i + 1 : Nat) : Int)) rfl (w64 (by simp) (by omega) (by omega)), rfl, at_val rfl (i_eq ?_), trivial⟩, rfl, ⟨by omega, H⟩, by omega⟩
    rw [List.take_succ_eq_append_getElem h1, sumL_snoc, h2]
  · have hi : i = l.length := by omega
    subst hi
    repeat' ((conv => whnf); first | (((with_reducible show Gd _ _ _); first | with_reducible refine Gd.t ?_ | with_reducible refine Gd.f ?_ | with_reducible refine Gd.dec (fun _ => ?_) (fun _ => ?_) | with_reducible refine Gd.beq (fun _ => ?_) (fun _ => ?_) | with_reducible refine Gd.bne (fun _ => ?_) (fun _ => ?_) | with_reducible refine Gd.not ?_ | refine Gd.t ?_ | refine Gd.f ?_ | with_reducible refine Gd.var (fun _ => ?_) (fun _ => ?_)) <;> first | (exfalso; omega) | skip) | with_reducible refine Sq.mk ?_ | ((with_reducible show Ld1 _ _ _); first | refine Ld1.h H ?_ | refine Ld1.rF ?_ | refine Ld1.r ?_) | ((with_reducible show Ld _ _ _ _); first | refine Ld.h H ?_ | refine Ld.r ?_) | ((with_reducible show Ix _ _ _ _ _); (first | refine Ix.h ?_ | refine Ix.ha ?_)) | (refine Al.hp H ?_; clear H; intro _ _ H _) | (refine St.h H ?_; clear H; intro _ H))
    exact ⟨by rw [List.take_length]; rfl, H.e⟩
def insW (x : Ins) : List Int := [x.kd, x.a, x.b, x.c, x.k]
def funH (f : Fn) : List Int := [f.params, f.regs, f.slots, f.code.length]
def imgF (f : Fn) : List Int := funH f ++ f.code.flatMap insW
def imgP (fs : List Fn) : List Int := [1886156142, (fs.length : Int)] ++ fs.flatMap imgF
def imgS (fs : List Fn) : List Int := imgP fs ++ [sumL (imgP fs)]
theorem insW_len (l : List Ins) : (l.flatMap insW).length = l.length * 5 := flat_insW l
where flat_insW : ∀ l : List Ins, (l.flatMap insW).length = l.length * 5
  | [] => rfl
  | x :: r => by have := flat_insW r; simp [List.flatMap_cons, insW] at this ⊢; omega
theorem imgF_len {f : Fn} (h : f.code.length ≤ 512) : (imgF f).length ≤ 2564 := by
  rw [imgF, List.length_append, insW_len]; simp [funH]; omega
theorem imgFs_len : ∀ {fs : List Fn}, (∀ f ∈ fs, f.code.length ≤ 512) → (fs.flatMap imgF).length ≤ fs.length * 2564
  | [], _ => by simp
  | f :: r, h => by
    have h1 := imgF_len (h f (by simp))
    have h2 := imgFs_len (fs := r) (fun g hg => h g (by simp [hg]))
    simp only [List.flatMap_cons, List.length_append, List.length_cons]
    omega
/-- what Encode answers -/
def Encoded (fs : List Fn) (w : World) (v : Value) (w' : World) : Prop := ∃ C cc l, v = .tuple #[.slice C l.length cc, .int .i64 (checkL fs).1] ∧ (Valid fs → l = imgS fs) ∧ (¬ Valid fs → l = []) ∧ Hp nw w w' [qu ints 1 2 C cc l]
set_option maxHeartbeats 1000000 in
theorem pEncode_c (B : Option Addr) (l : List FE) (d : Nat) (w : World) (hG : RdG w) (hB : RdP w B l) :
    Cl Tryd.prog 40 #[pv B l.length d] w (Encoded (fns l) w) (fun _ _ => False) := by
  have hfl := fns_len l
  refine calls_ex (args := [pv B l.length d]) T.ok Tryd.func40 rfl rfl rfl rfl ?_
  have H := Hp.begin nw w
  refine Sq.mk ?_
  ((conv => whnf); refine Al.hp H ?_; clear H; intro pp _ H _)
  repeat' ((conv => whnf); first | (((with_reducible show Gd _ _ _); first | with_reducible refine Gd.t ?_ | with_reducible refine Gd.f ?_ | with_reducible refine Gd.dec (fun _ => ?_) (fun _ => ?_) | with_reducible refine Gd.beq (fun _ => ?_) (fun _ => ?_) | with_reducible refine Gd.bne (fun _ => ?_) (fun _ => ?_) | with_reducible refine Gd.not ?_ | refine Gd.t ?_ | refine Gd.f ?_ | with_reducible refine Gd.var (fun _ => ?_) (fun _ => ?_)) <;> first | (exfalso; omega) | skip) | with_reducible refine Sq.mk ?_ | ((with_reducible show Ld1 _ _ _); first | refine Ld1.h H ?_ | refine Ld1.rF ?_ | refine Ld1.r ?_) | ((with_reducible show Ld _ _ _ _); first | refine Ld.h H ?_ | refine Ld.r ?_) | ((with_reducible show Ix _ _ _ _ _); (first | refine Ix.h ?_ | refine Ix.ha ?_)) | (refine Al.hp H ?_; clear H; intro _ _ H _) | (refine St.h H ?_; clear H; intro _ H))
  (((conv => whnf); refine Cl.mk (Check_c B l d _ (RdS.from H.e hG) (hB.ext H.e)) ?_); rintro _ _ ⟨rfl, hx⟩; replace H := H.ext hx; clear hx)
  ((conv => whnf); refine Al.hp H ?_; clear H; intro pr _ H _)
  repeat' ((conv => whnf); first | (((with_reducible show Gd _ _ _); first | with_reducible refine Gd.t ?_ | with_reducible refine Gd.f ?_ | with_reducible refine Gd.dec (fun _ => ?_) (fun _ => ?_) | with_reducible refine Gd.beq (fun _ => ?_) (fun _ => ?_) | with_reducible refine Gd.bne (fun _ => ?_) (fun _ => ?_) | with_reducible refine Gd.not ?_ | refine Gd.t ?_ | refine Gd.f ?_ | with_reducible refine Gd.var (fun _ => ?_) (fun _ => ?_)) <;> first | (exfalso; omega) | skip) | with_reducible refine Sq.mk ?_ | ((with_reducible show Ld1 _ _ _); first | refine Ld1.h H ?_ | refine Ld1.rF ?_ | refine Ld1.r ?_) | ((with_reducible show Ld _ _ _ _); first | refine Ld.h H ?_ | refine Ld.r ?_) | ((with_reducible show Ix _ _ _ _ _); (first | refine Ix.h ?_ | refine Ix.ha ?_)) | (refine Al.hp H ?_; clear H; intro _ _ H _) | (refine St.h H ?_; clear H; intro _ H))
  · ((conv => whnf); refine Dr.quiet T.ok mixed (by kernel_rfl) (fun W hW => ?_))
    repeat' ((conv => whnf); first | (((with_reducible show Gd _ _ _); first | with_reducible refine Gd.t ?_ | with_reducible refine Gd.f ?_ | with_reducible refine Gd.dec (fun _ => ?_) (fun _ => ?_) | with_reducible refine Gd.beq (fun _ => ?_) (fun _ => ?_) | with_reducible refine Gd.bne (fun _ => ?_) (fun _ => ?_) | with_reducible refine Gd.not ?_ | refine Gd.t ?_ | refine Gd.f ?_ | with_reducible refine Gd.var (fun _ => ?_) (fun _ => ?_)) <;> first | (exfalso; omega) | skip) | ((with_reducible show QLd1 _ _ _); first | refine QLd1.h hW H ?_ | refine QLd1.rF hW ?_ | refine QLd1.r hW ?_) | ((with_reducible show QLd _ _ _ _); first | refine QLd.h hW H ?_ | refine QLd.r hW ?_) | ((with_reducible show Ix _ _ _ _ _); (first | refine Ix.h ?_ | refine Ix.ha ?_)))
    (intro _ eT; replace H := H.ext eT; clear hW eT)
    repeat' ((conv => whnf); first | (((with_reducible show Gd _ _ _); first | with_reducible refine Gd.t ?_ | with_reducible refine Gd.f ?_ | with_reducible refine Gd.dec (fun _ => ?_) (fun _ => ?_) | with_reducible refine Gd.beq (fun _ => ?_) (fun _ => ?_) | with_reducible refine Gd.bne (fun _ => ?_) (fun _ => ?_) | with_reducible refine Gd.not ?_ | refine Gd.t ?_ | refine Gd.f ?_ | with_reducible refine Gd.var (fun _ => ?_) (fun _ => ?_)) <;> first | (exfalso; omega) | skip) | with_reducible refine Sq.mk ?_ | ((with_reducible show Ld1 _ _ _); first | refine Ld1.h H ?_ | refine Ld1.rF ?_ | refine Ld1.r ?_) | ((with_reducible show Ld _ _ _ _); first | refine Ld.h H ?_ | refine Ld.r ?_) | ((with_reducible show Ix _ _ _ _ _); (first | refine Ix.h ?_ | refine Ix.ha ?_)) | (refine Al.hp H ?_; clear H; intro _ _ H _) | (refine St.h H ?_; clear H; intro _ H))
    replace H := H.nil ints 1 2
    exact ⟨none, 0, [], rfl, fun h => absurd (check_ok.2 h) (by assumption), fun _ => rfl, H.sel [0] rfl⟩
  rename_i hz
  have hz : (checkL (fns l)).1 = 0 := by first | exact hz | exact Classical.not_not.1 hz
  have hV := check_ok.1 hz
  have hlen := hV.len
  have hlc : ∀ f ∈ fns l, f.code.length ≤ 512 := fun f hf => (shaped_len (hV.shaped f hf)).2
  refine Sm.lith (cs := [.int .i64 1886156142, .int .i64 (l.length : Int)]) H T.ok (fun p1 w1 H _ => ?_)
  replace H : Hp nw w w1 [bk p1 2 ([1886156142, (l.length : Int)].flatMap ints), bk pr 48 (fvV (checkL (fns l))).cells.toList, bk pp 46 (pv B l.length d).cells.toList] := H
  replace H := Hp.bq (sz := 1) H (fun _ _ => rfl)
  repeat' ((conv => whnf); first | (((with_reducible show Gd _ _ _); first | with_reducible refine Gd.t ?_ | with_reducible refine Gd.f ?_ | with_reducible refine Gd.dec (fun _ => ?_) (fun _ => ?_) | with_reducible refine Gd.beq (fun _ => ?_) (fun _ => ?_) | with_reducible refine Gd.bne (fun _ => ?_) (fun _ => ?_) | with_reducible refine Gd.not ?_ | refine Gd.t ?_ | refine Gd.f ?_ | with_reducible refine Gd.var (fun _ => ?_) (fun _ => ?_)) <;> first | (exfalso; omega) | skip) | with_reducible refine Sq.mk ?_ | ((with_reducible show Ld1 _ _ _); first | refine Ld1.h H ?_ | refine Ld1.rF ?_ | refine Ld1.r ?_) | ((with_reducible show Ld _ _ _ _); first | refine Ld.h H ?_ | refine Ld.r ?_) | ((with_reducible show Ix _ _ _ _ _); (first | refine Ix.h ?_ | refine Ix.ha ?_)) | (refine Al.hp H ?_; clear H; intro _ _ H _) | (refine St.h H ?_; clear H; intro _ H))
  refine Lp.g0 T.ok (σ := Nat × Option Addr × Nat) (fun s => [(24, .int .i64 (s.1 : Int)), (23, .int .i64 (l.length : Int)), (22, .slice B l.length d), (5, .slice s.2.1 ([1886156142, (l.length : Int)] ++ ((fns l).take s.1).flatMap imgF).length s.2.2), (1, .pointer (some ⟨pp, 0, none⟩))])
    (fun s w' => s.1 ≤ l.length ∧ Hp nw w w' [qu ints 1 2 s.2.1 s.2.2 ([1886156142, (l.length : Int)] ++ ((fns l).take s.1).flatMap imgF)]) (fun s _ => l.length - s.1) (0, some ⟨p1, 0, none⟩, 2) rfl ⟨rfl, rfl, rfl, rfl, rfl, trivial⟩ ⟨Nat.zero_le _, H.sel [0] rfl⟩ ?_
  clear H
  rintro ⟨i, C, cc⟩ w5 ⟨hi, H⟩
  simp only at hi H ⊢
  have htk : (((fns l).take i).flatMap imgF).length ≤ i * 2564 := Nat.le_trans (imgFs_len (fs := (fns l).take i) (fun f hf => hlc f (List.mem_of_mem_take hf))) (Nat.mul_le_mul_right _ (by simp; omega))
  by_cases hlt : i < l.length
  · obtain ⟨x, hx⟩ : ∃ x, l[i]? = some x := ⟨_, List.getElem?_eq_getElem hlt⟩
    have hxm := List.mem_of_getElem? hx
    have hfx := fns_at hx
    have hx5 := hlc x.1 (List.mem_of_getElem? hfx)
    have hB5 := RdS.from H.e hB.top
    generalize hW0 : [1886156142, (l.length : Int)] ++ ((fns l).take i).flatMap imgF = W0 at H
    have hw0 : W0.length ≤ 2 + i * 2564 := by rw [← hW0]; simp only [List.length_append, List.length_cons, List.length_nil]; omega
    repeat' ((conv => whnf); first | (((with_reducible show Gd _ _ _); first | with_reducible refine Gd.t ?_ | with_reducible refine Gd.f ?_ | with_reducible refine Gd.dec (fun _ => ?_) (fun _ => ?_) | with_reducible refine Gd.beq (fun _ => ?_) (fun _ => ?_) | with_reducible refine Gd.bne (fun _ => ?_) (fun _ => ?_) | with_reducible refine Gd.not ?_ | refine Gd.t ?_ | refine Gd.f ?_ | with_reducible refine Gd.var (fun _ => ?_) (fun _ => ?_)) <;> first | (exfalso; omega) | skip) | with_reducible refine Sq.mk ?_ | ((with_reducible show Ld1 _ _ _); first | refine Ld1.h H ?_ | refine Ld1.rF ?_ | refine Ld1.r ?_) | ((with_reducible show Ld _ _ _ _); first | refine Ld.h H ?_ | refine Ld.r ?_) | ((with_reducible show Ix _ _ _ _ _); (first | refine Ix.h ?_ | refine Ix.ha ?_)) | (refine St.h H ?_; clear H; intro _ H))
    ((conv => whnf); refine Al.hp H ?_; clear H; intro pt _ H _)
    repeat' ((conv => whnf); first | (((with_reducible show Gd _ _ _); first | with_reducible refine Gd.t ?_ | with_reducible refine Gd.f ?_ | with_reducible refine Gd.dec (fun _ => ?_) (fun _ => ?_) | with_reducible refine Gd.beq (fun _ => ?_) (fun _ => ?_) | with_reducible refine Gd.bne (fun _ => ?_) (fun _ => ?_) | with_reducible refine Gd.not ?_ | refine Gd.t ?_ | refine Gd.f ?_ | with_reducible refine Gd.var (fun _ => ?_) (fun _ => ?_)) <;> first | (exfalso; omega) | skip) | with_reducible refine Sq.mk ?_ | ((with_reducible show Ld1 _ _ _); first | refine Ld1.h H ?_ | refine Ld1.rF ?_ | refine Ld1.r ?_) | ((with_reducible show Ld _ _ _ _); first | refine Ld.h H ?_ | refine Ld.r ?_) | ((with_reducible show Ix _ _ _ _ _); (first | refine Ix.h ?_ | refine Ix.ha ?_)) | (refine Al.hp H ?_; clear H; intro _ _ H _) | (refine St.h H ?_; clear H; intro _ H))
    clear hB5
    refine Sm.lith (cs := (funH x.1).flatMap ints) H T.ok (fun p2 w2 H _ => ?_)
    refine apL (enc := ints) (funH x.1) H T.ok ?_ ?_ (fun C' cc' w3 H => ?_) (by simp [funH]) (fun _ _ => rfl) (fun y _ v hv => by simp [ints] at hv; subst hv; rfl)
    · simp only [funH, List.length_cons, List.length_nil]; show (W0.length + 4) * 8 ≤ _; omega
    · simp only [funH, List.length_cons, List.length_nil]; omega
    simp only [List.cons_append, List.nil_append] at H
    have hfl4 : (W0 ++ funH x.1).length = W0.length + 4 := by simp [funH]
    repeat' ((conv => whnf); first | (((with_reducible show Gd _ _ _); first | with_reducible refine Gd.t ?_ | with_reducible refine Gd.f ?_ | with_reducible refine Gd.dec (fun _ => ?_) (fun _ => ?_) | with_reducible refine Gd.beq (fun _ => ?_) (fun _ => ?_) | with_reducible refine Gd.bne (fun _ => ?_) (fun _ => ?_) | with_reducible refine Gd.not ?_ | refine Gd.t ?_ | refine Gd.f ?_ | with_reducible refine Gd.var (fun _ => ?_) (fun _ => ?_)) <;> first | (exfalso; omega) | skip) | with_reducible refine Sq.mk ?_ | ((with_reducible show Ld1 _ _ _); first | refine Ld1.h H ?_ | refine Ld1.rF ?_ | refine Ld1.r ?_) | ((with_reducible show Ld _ _ _ _); first | refine Ld.h H ?_ | refine Ld.r ?_) | ((with_reducible show Ix _ _ _ _ _); (first | refine Ix.h ?_ | refine Ix.ha ?_)) | (refine Al.hp H ?_; clear H; intro _ _ H _) | (refine St.h H ?_; clear H; intro _ H))
    replace H := H.d0
    refine Lp.g0 T.ok (σ := Nat × Option Addr × Nat) (fun s => [(43, .int .i64 (s.1 : Int)), (42, .int .i64 (x.1.code.length : Int)), (41, .slice x.2.1 x.1.code.length x.2.2), (5, .slice s.2.1 (W0 ++ funH x.1 ++ (x.1.code.take s.1).flatMap insW).length s.2.2), (24, .int .i64 (i : Int)), (23, .int .i64 (l.length : Int)), (22, .slice B l.length d), (1, .pointer (some ⟨pp, 0, none⟩))])
      (fun s w' => s.1 ≤ x.1.code.length ∧ Hp nw w w' [qu ints 1 2 s.2.1 s.2.2 (W0 ++ funH x.1 ++ (x.1.code.take s.1).flatMap insW)]) (fun s _ => x.1.code.length - s.1) (0, C', cc') rfl ⟨rfl, rfl, rfl, at_val rfl (by simp), rfl, rfl, rfl, rfl, trivial⟩ ⟨Nat.zero_le _, by simpa using H⟩ ?_
    clear H
    rintro ⟨k, D, dc⟩ w6 ⟨hk, H⟩
    simp only at hk H ⊢
    generalize hW1 : W0 ++ funH x.1 ++ (x.1.code.take k).flatMap insW = W1 at H
    have hw1 : W1.length = W0.length + 4 + k * 5 := by rw [← hW1, List.length_append, hfl4, insW_len]; simp; omega
    by_cases hkl : k < x.1.code.length
    · obtain ⟨y, hy⟩ : ∃ y, x.1.code[k]? = some y := ⟨_, List.getElem?_eq_getElem hkl⟩
      have hA5 := RdS.from H.e (hB.code x hxm)
      repeat' ((conv => whnf); first | (((with_reducible show Gd _ _ _); first | with_reducible refine Gd.t ?_ | with_reducible refine Gd.f ?_ | with_reducible refine Gd.dec (fun _ => ?_) (fun _ => ?_) | with_reducible refine Gd.beq (fun _ => ?_) (fun _ => ?_) | with_reducible refine Gd.bne (fun _ => ?_) (fun _ => ?_) | with_reducible refine Gd.not ?_ | refine Gd.t ?_ | refine Gd.f ?_ | with_reducible refine Gd.var (fun _ => ?_) (fun _ => ?_)) <;> first | (exfalso; omega) | skip) | with_reducible refine Sq.mk ?_ | ((with_reducible show Ld1 _ _ _); first | refine Ld1.h H ?_ | refine Ld1.rF ?_ | refine Ld1.r ?_) | ((with_reducible show Ld _ _ _ _); first | refine Ld.h H ?_ | refine Ld.r ?_) | ((with_reducible show Ix _ _ _ _ _); (first | refine Ix.h ?_ | refine Ix.ha ?_)) | (refine St.h H ?_; clear H; intro _ H))
      ((conv => whnf); refine Al.hp H ?_; clear H; intro pu _ H _)
      repeat' ((conv => whnf); first | (((with_reducible show Gd _ _ _); first | with_reducible refine Gd.t ?_ | with_reducible refine Gd.f ?_ | with_reducible refine Gd.dec (fun _ => ?_) (fun _ => ?_) | with_reducible refine Gd.beq (fun _ => ?_) (fun _ => ?_) | with_reducible refine Gd.bne (fun _ => ?_) (fun _ => ?_) | with_reducible refine Gd.not ?_ | refine Gd.t ?_ | refine Gd.f ?_ | with_reducible refine Gd.var (fun _ => ?_) (fun _ => ?_)) <;> first | (exfalso; omega) | skip) | with_reducible refine Sq.mk ?_ | ((with_reducible show Ld1 _ _ _); first | refine Ld1.h H ?_ | refine Ld1.rF ?_ | refine Ld1.r ?_) | ((with_reducible show Ld _ _ _ _); first | refine Ld.h H ?_ | refine Ld.r ?_) | ((with_reducible show Ix _ _ _ _ _); (first | refine Ix.h ?_ | refine Ix.ha ?_)) | (refine Al.hp H ?_; clear H; intro _ _ H _) | (refine St.h H ?_; clear H; intro _ H))
      clear hA5
      refine Sm.lith (cs := (insW y).flatMap ints) H T.ok (fun p2 w2 H _ => ?_)
      refine apL (enc := ints) (insW y) H T.ok ?_ ?_ (fun D' dc' w3 H => ?_) (by simp [insW]) (fun _ _ => rfl) (fun y _ v hv => by simp [ints] at hv; subst hv; rfl)
      · simp only [insW, List.length_cons, List.length_nil]; show (W1.length + 5) * 8 ≤ _; omega
      · simp only [insW, List.length_cons, List.length_nil]; omega
      simp only [List.cons_append, List.nil_append] at H
      replace H := H.d0
      have hnx : W0 ++ funH x.1 ++ (x.1.code.take (k + 1)).flatMap insW = W1 ++ insW y := by
        obtain ⟨g1, g2⟩ := List.getElem?_eq_some_iff.1 hy
        rw [List.take_succ_eq_append_getElem g1, List.flatMap_append, ← List.append_assoc, hW1, g2]; simp
      repeat' ((conv => whnf); first | (((with_reducible show Gd _ _ _); first | with_reducible refine Gd.t ?_ | with_reducible refine Gd.f ?_ | with_reducible refine Gd.dec (fun _ => ?_) (fun _ => ?_) | with_reducible refine Gd.beq (fun _ => ?_) (fun _ => ?_) | with_reducible refine Gd.bne (fun _ => ?_) (fun _ => ?_) | with_reducible refine Gd.not ?_ | refine Gd.t ?_ | refine Gd.f ?_ | with_reducible refine Gd.var (fun _ => ?_) (fun _ => ?_)) <;> first | (exfalso; omega) | skip) | with_reducible refine Sq.mk ?_ | ((with_reducible show Ld1 _ _ _); first | refine Ld1.h H ?_ | refine Ld1.rF ?_ | refine Ld1.r ?_) | ((with_reducible show Ld _ _ _ _); first | refine Ld.h H ?_ | refine Ld.r ?_) | ((with_reducible show Ix _ _ _ _ _); (first | refine Ix.h ?_ | refine Ix.ha ?_)) | (refine Al.hp H ?_; clear H; intro _ _ H _) | (refine St.h H ?_; clear H; intro _ H))
      exact ⟨(k + 1, D', dc'), ⟨at_int rfl (w64 (by simp) (by omega) (by omega)), rfl, rfl, at_val rfl (by rw [hnx]), rfl, rfl, rfl, rfl, trivial⟩, rfl, ⟨by simp only; omega, by rw [hnx]; exact H⟩, by simp only; omega⟩
    · have hk : k = x.1.code.length := by omega
      subst hk
      have hnx : [1886156142, (l.length : Int)] ++ ((fns l).take (i + 1)).flatMap imgF = W1 := by
        obtain ⟨g1, g2⟩ := List.getElem?_eq_some_iff.1 hfx
        rw [List.take_succ_eq_append_getElem g1, List.flatMap_append, ← List.append_assoc, hW0, ← hW1, g2, List.take_length]
        simp [imgF]
      repeat' ((conv => whnf); first | (((with_reducible show Gd _ _ _); first | with_reducible refine Gd.t ?_ | with_reducible refine Gd.f ?_ | with_reducible refine Gd.dec (fun _ => ?_) (fun _ => ?_) | with_reducible refine Gd.beq (fun _ => ?_) (fun _ => ?_) | with_reducible refine Gd.bne (fun _ => ?_) (fun _ => ?_) | with_reducible refine Gd.not ?_ | refine Gd.t ?_ | refine Gd.f ?_ | with_reducible refine Gd.var (fun _ => ?_) (fun _ => ?_)) <;> first | (exfalso; omega) | skip) | with_reducible refine Sq.mk ?_ | ((with_reducible show Ld1 _ _ _); first | refine Ld1.h H ?_ | refine Ld1.rF ?_ | refine Ld1.r ?_) | ((with_reducible show Ld _ _ _ _); first | refine Ld.h H ?_ | refine Ld.r ?_) | ((with_reducible show Ix _ _ _ _ _); (first | refine Ix.h ?_ | refine Ix.ha ?_)) | (refine Al.hp H ?_; clear H; intro _ _ H _) | (refine St.h H ?_; clear H; intro _ H))
      exact ⟨(i + 1, D, dc), ⟨at_int (m := ((i + 1 : Nat) : Int)) rfl (w64 (by simp) (by omega) (by omega)), rfl, rfl, at_val rfl (by rw [hnx]), rfl, trivial⟩, rfl, ⟨by simp only; omega, by rw [hnx]; exact H⟩, by simp only; omega⟩
  · have hi : i = l.length := by omega
    subst hi
    have hW : [1886156142, (l.length : Int)] ++ ((fns l).take l.length).flatMap imgF = imgP (fns l) := by
      rw [imgP, hfl, List.take_of_length_le (by omega)]
    rw [hW] at H
    rw [hW]
    have hwl : (imgP (fns l)).length ≤ 82050 := by
      have := imgFs_len hlc
      rw [imgP]; simp only [List.length_append, List.length_cons, List.length_nil]; omega
    repeat' (first | ((conv => whnf); first | (((with_reducible show Gd _ _ _); first | with_reducible refine Gd.t ?_ | with_reducible refine Gd.f ?_ | with_reducible refine Gd.dec (fun _ => ?_) (fun _ => ?_) | with_reducible refine Gd.beq (fun _ => ?_) (fun _ => ?_) | with_reducible refine Gd.bne (fun _ => ?_) (fun _ => ?_) | with_reducible refine Gd.not ?_ | refine Gd.t ?_ | refine Gd.f ?_ | with_reducible refine Gd.var (fun _ => ?_) (fun _ => ?_)) <;> first | (exfalso; omega) | skip) | with_reducible refine Sq.mk ?_ | ((with_reducible show Ld1 _ _ _); first | refine Ld1.h H ?_ | refine Ld1.rF ?_ | refine Ld1.r ?_) | ((with_reducible show Ld _ _ _ _); first | refine Ld.h H ?_ | refine Ld.r ?_) | ((with_reducible show Ix _ _ _ _ _); (first | refine Ix.h ?_ | refine Ix.ha ?_)) | (refine Al.hp H ?_; clear H; intro _ _ H _) | (refine St.h H ?_; clear H; intro _ H)) | (((conv => whnf); refine Cl.mk (psum_c C cc (imgP (fns l)) _ (H.rdq 0 rfl) (by omega)) ?_); rintro _ _ ⟨rfl, hx⟩; replace H := H.ext hx; clear hx))
    refine Sm.lith (cs := [.int .i64 (sumL (imgP (fns l)))]) H T.ok (fun p2 w2 H _ => ?_)
    refine Sm.ap1 (enc := ints) (sumL (imgP (fns l))) H T.ok ?_ ?_ (fun C' cc' w3 H => ?_)
    · show ((imgP (fns l)).length + 1) * 8 ≤ _; omega
    · omega
    simp only [List.cons_append, List.nil_append] at H
    repeat' ((conv => whnf); first | (((with_reducible show Gd _ _ _); first | with_reducible refine Gd.t ?_ | with_reducible refine Gd.f ?_ | with_reducible refine Gd.dec (fun _ => ?_) (fun _ => ?_) | with_reducible refine Gd.beq (fun _ => ?_) (fun _ => ?_) | with_reducible refine Gd.bne (fun _ => ?_) (fun _ => ?_) | with_reducible refine Gd.not ?_ | refine Gd.t ?_ | refine Gd.f ?_ | with_reducible refine Gd.var (fun _ => ?_) (fun _ => ?_)) <;> first | (exfalso; omega) | skip) | with_reducible refine Sq.mk ?_ | ((with_reducible show Ld1 _ _ _); first | refine Ld1.h H ?_ | refine Ld1.rF ?_ | refine Ld1.r ?_) | ((with_reducible show Ld _ _ _ _); first | refine Ld.h H ?_ | refine Ld.r ?_) | ((with_reducible show Ix _ _ _ _ _); (first | refine Ix.h ?_ | refine Ix.ha ?_)) | (refine Al.hp H ?_; clear H; intro _ _ H _) | (refine St.h H ?_; clear H; intro _ H))
    exact ⟨C', cc', imgS (fns l), by rw [hz, imgS, List.length_append]; rfl, fun _ => rfl, fun h => absurd hV h, H⟩
set_option maxHeartbeats 1000000 in
theorem rImage_c (B : Option Addr) (l : List FE) (d : Nat) (w : World) (hB : RdP w B l) (hV : Valid (fns l)) :
    Cl Tryd.prog 70 #[pv B l.length d] w (fun v w' => ∃ C cc, v = .slice C (imgS (fns l)).length cc ∧ Hp nw w w' [qu ints 1 2 C cc (imgS (fns l))]) (fun _ _ => False) := by
  have hfl := fns_len l
  have hlen := hV.len
  have hlc : ∀ f ∈ fns l, f.code.length ≤ 512 := fun f hf => (shaped_len (hV.shaped f hf)).2
  refine calls_ex (args := [pv B l.length d]) T.ok Tryd.func70 rfl rfl rfl rfl ?_
  have H := Hp.begin nw w
  refine Sq.mk ?_
  ((conv => whnf); refine Al.hp H ?_; clear H; intro pp _ H _)
  repeat' ((conv => whnf); first | (((with_reducible show Gd _ _ _); first | with_reducible refine Gd.t ?_ | with_reducible refine Gd.f ?_ | with_reducible refine Gd.dec (fun _ => ?_) (fun _ => ?_) | with_reducible refine Gd.beq (fun _ => ?_) (fun _ => ?_) | with_reducible refine Gd.bne (fun _ => ?_) (fun _ => ?_) | with_reducible refine Gd.not ?_ | refine Gd.t ?_ | refine Gd.f ?_ | with_reducible refine Gd.var (fun _ => ?_) (fun _ => ?_)) <;> first | (exfalso; omega) | skip) | with_reducible refine Sq.mk ?_ | ((with_reducible show Ld1 _ _ _); first | refine Ld1.h H ?_ | refine Ld1.rF ?_ | refine Ld1.r ?_) | ((with_reducible show Ld _ _ _ _); first | refine Ld.h H ?_ | refine Ld.r ?_) | ((with_reducible show Ix _ _ _ _ _); (first | refine Ix.h ?_ | refine Ix.ha ?_)) | (refine Al.hp H ?_; clear H; intro _ _ H _) | (refine St.h H ?_; clear H; intro _ H))
  refine Sm.lith (cs := [.int .i64 1886156142, .int .i64 (l.length : Int)]) H T.ok (fun p1 w1 H _ => ?_)
  replace H : Hp nw w w1 [bk p1 2 ([1886156142, (l.length : Int)].flatMap ints), bk pp 46 (pv B l.length d).cells.toList] := H
  replace H := Hp.bq (sz := 1) H (fun _ _ => rfl)
  repeat' ((conv => whnf); first | (((with_reducible show Gd _ _ _); first | with_reducible refine Gd.t ?_ | with_reducible refine Gd.f ?_ | with_reducible refine Gd.dec (fun _ => ?_) (fun _ => ?_) | with_reducible refine Gd.beq (fun _ => ?_) (fun _ => ?_) | with_reducible refine Gd.bne (fun _ => ?_) (fun _ => ?_) | with_reducible refine Gd.not ?_ | refine Gd.t ?_ | refine Gd.f ?_ | with_reducible refine Gd.var (fun _ => ?_) (fun _ => ?_)) <;> first | (exfalso; omega) | skip) | with_reducible refine Sq.mk ?_ | ((with_reducible show Ld1 _ _ _); first | refine Ld1.h H ?_ | refine Ld1.rF ?_ | refine Ld1.r ?_) | ((with_reducible show Ld _ _ _ _); first | refine Ld.h H ?_ | refine Ld.r ?_) | ((with_reducible show Ix _ _ _ _ _); (first | refine Ix.h ?_ | refine Ix.ha ?_)) | (refine Al.hp H ?_; clear H; intro _ _ H _) | (refine St.h H ?_; clear H; intro _ H))
  refine Lp.g0 T.ok (σ := Nat × Option Addr × Nat) (fun s => [(4, .int .i64 (s.1 : Int)), (3, .slice s.2.1 ([1886156142, (l.length : Int)] ++ ((fns l).take s.1).flatMap imgF).length s.2.2), (1, .pointer (some ⟨pp, 0, none⟩))])
    (fun s w' => s.1 ≤ l.length ∧ Hp nw w w' [qu ints 1 2 s.2.1 s.2.2 ([1886156142, (l.length : Int)] ++ ((fns l).take s.1).flatMap imgF), bk pp 46 (pv B l.length d).cells.toList]) (fun s _ => l.length - s.1) (0, some ⟨p1, 0, none⟩, 2) rfl ⟨rfl, rfl, rfl, trivial⟩ ⟨Nat.zero_le _, H⟩ ?_
  clear H
  rintro ⟨i, C, cc⟩ w5 ⟨hi, H⟩
  simp only at hi H ⊢
  have htk : (((fns l).take i).flatMap imgF).length ≤ i * 2564 := Nat.le_trans (imgFs_len (fs := (fns l).take i) (fun f hf => hlc f (List.mem_of_mem_take hf))) (Nat.mul_le_mul_right _ (by simp; omega))
  by_cases hlt : i < l.length
  · obtain ⟨x, hx⟩ : ∃ x, l[i]? = some x := ⟨_, List.getElem?_eq_getElem hlt⟩
    have hxm := List.mem_of_getElem? hx
    have hfx := fns_at hx
    have hx5 := hlc x.1 (List.mem_of_getElem? hfx)
    have hB5 := RdS.from H.e hB.top
    generalize hW0 : [1886156142, (l.length : Int)] ++ ((fns l).take i).flatMap imgF = W0 at H
    have hw0 : W0.length ≤ 2 + i * 2564 := by rw [← hW0]; simp only [List.length_append, List.length_cons, List.length_nil]; omega
    repeat' ((conv => whnf); first | (((with_reducible show Gd _ _ _); first | with_reducible refine Gd.t ?_ | with_reducible refine Gd.f ?_ | with_reducible refine Gd.dec (fun _ => ?_) (fun _ => ?_) | with_reducible refine Gd.beq (fun _ => ?_) (fun _ => ?_) | with_reducible refine Gd.bne (fun _ => ?_) (fun _ => ?_) | with_reducible refine Gd.not ?_ | refine Gd.t ?_ | refine Gd.f ?_ | with_reducible refine Gd.var (fun _ => ?_) (fun _ => ?_)) <;> first | (exfalso; omega) | skip) | with_reducible refine Sq.mk ?_ | ((with_reducible show Ld1 _ _ _); first | refine Ld1.h H ?_ | refine Ld1.rF ?_ | refine Ld1.r ?_) | ((with_reducible show Ld _ _ _ _); first | refine Ld.h H ?_ | refine Ld.r ?_) | ((with_reducible show Ix _ _ _ _ _); (first | refine Ix.h ?_ | refine Ix.ha ?_)) | (refine St.h H ?_; clear H; intro _ H))
    ((conv => whnf); refine Al.hp H ?_; clear H; intro pt _ H _)
    repeat' ((conv => whnf); first | (((with_reducible show Gd _ _ _); first | with_reducible refine Gd.t ?_ | with_reducible refine Gd.f ?_ | with_reducible refine Gd.dec (fun _ => ?_) (fun _ => ?_) | with_reducible refine Gd.beq (fun _ => ?_) (fun _ => ?_) | with_reducible refine Gd.bne (fun _ => ?_) (fun _ => ?_) | with_reducible refine Gd.not ?_ | refine Gd.t ?_ | refine Gd.f ?_ | with_reducible refine Gd.var (fun _ => ?_) (fun _ => ?_)) <;> first | (exfalso; omega) | skip) | with_reducible refine Sq.mk ?_ | ((with_reducible show Ld1 _ _ _); first | refine Ld1.h H ?_ | refine Ld1.rF ?_ | refine Ld1.r ?_) | ((with_reducible show Ld _ _ _ _); first | refine Ld.h H ?_ | refine Ld.r ?_) | ((with_reducible show Ix _ _ _ _ _); (first | refine Ix.h ?_ | refine Ix.ha ?_)) | (refine Al.hp H ?_; clear H; intro _ _ H _) | (refine St.h H ?_; clear H; intro _ H))
    clear hB5
    refine Sm.lith (cs := (funH x.1).flatMap ints) H T.ok (fun p2 w2 H _ => ?_)
    refine apL (enc := ints) (funH x.1) H T.ok ?_ ?_ (fun C' cc' w3 H => ?_) (by simp [funH]) (fun _ _ => rfl) (fun y _ v hv => by simp [ints] at hv; subst hv; rfl)
    · simp only [funH, List.length_cons, List.length_nil]; show (W0.length + 4) * 8 ≤ _; omega
    · simp only [funH, List.length_cons, List.length_nil]; omega
    simp only [List.cons_append, List.nil_append] at H
    have hfl4 : (W0 ++ funH x.1).length = W0.length + 4 := by simp [funH]
    repeat' ((conv => whnf); first | (((with_reducible show Gd _ _ _); first | with_reducible refine Gd.t ?_ | with_reducible refine Gd.f ?_ | with_reducible refine Gd.dec (fun _ => ?_) (fun _ => ?_) | with_reducible refine Gd.beq (fun _ => ?_) (fun _ => ?_) | with_reducible refine Gd.bne (fun _ => ?_) (fun _ => ?_) | with_reducible refine Gd.not ?_ | refine Gd.t ?_ | refine Gd.f ?_ | with_reducible refine Gd.var (fun _ => ?_) (fun _ => ?_)) <;> first | (exfalso; omega) | skip) | with_reducible refine Sq.mk ?_ | ((with_reducible show Ld1 _ _ _); first | refine Ld1.h H ?_ | refine Ld1.rF ?_ | refine Ld1.r ?_) | ((with_reducible show Ld _ _ _ _); first | refine Ld.h H ?_ | refine Ld.r ?_) | ((with_reducible show Ix _ _ _ _ _); (first | refine Ix.h ?_ | refine Ix.ha ?_)) | (refine Al.hp H ?_; clear H; intro _ _ H _) | (refine St.h H ?_; clear H; intro _ H))
    refine Lp.g0 T.ok (σ := Nat × Option Addr × Nat) (fun s => [(6, .int .i64 (s.1 : Int)), (5, .pointer (some ⟨pt, 0, none⟩)), (3, .slice s.2.1 (W0 ++ funH x.1 ++ (x.1.code.take s.1).flatMap insW).length s.2.2), (4, .int .i64 (i : Int)), (1, .pointer (some ⟨pp, 0, none⟩))])
      (fun s w' => s.1 ≤ x.1.code.length ∧ Hp nw w w' [bk pt 24 x.enc, qu ints 1 2 s.2.1 s.2.2 (W0 ++ funH x.1 ++ (x.1.code.take s.1).flatMap insW), bk pp 46 (pv B l.length d).cells.toList]) (fun s _ => x.1.code.length - s.1) (0, C', cc') rfl ⟨rfl, rfl, at_val rfl (by simp), rfl, rfl, trivial⟩ ⟨Nat.zero_le _, by simp only [List.take_zero, List.flatMap_nil, List.append_nil]; exact H⟩ ?_
    clear H
    rintro ⟨k, D, dc⟩ w6 ⟨hk, H⟩
    simp only at hk H ⊢
    generalize hW1 : W0 ++ funH x.1 ++ (x.1.code.take k).flatMap insW = W1 at H
    have hw1 : W1.length = W0.length + 4 + k * 5 := by rw [← hW1, List.length_append, hfl4, insW_len]; simp; omega
    by_cases hkl : k < x.1.code.length
    · obtain ⟨y, hy⟩ : ∃ y, x.1.code[k]? = some y := ⟨_, List.getElem?_eq_getElem hkl⟩
      have hA5 := RdS.from H.e (hB.code x hxm)
      repeat' ((conv => whnf); first | (((with_reducible show Gd _ _ _); first | with_reducible refine Gd.t ?_ | with_reducible refine Gd.f ?_ | with_reducible refine Gd.dec (fun _ => ?_) (fun _ => ?_) | with_reducible refine Gd.beq (fun _ => ?_) (fun _ => ?_) | with_reducible refine Gd.bne (fun _ => ?_) (fun _ => ?_) | with_reducible refine Gd.not ?_ | refine Gd.t ?_ | refine Gd.f ?_ | with_reducible refine Gd.var (fun _ => ?_) (fun _ => ?_)) <;> first | (exfalso; omega) | skip) | with_reducible refine Sq.mk ?_ | ((with_reducible show Ld1 _ _ _); first | refine Ld1.h H ?_ | refine Ld1.rF ?_ | refine Ld1.r ?_) | ((with_reducible show Ld _ _ _ _); first | refine Ld.h H ?_ | refine Ld.r ?_) | ((with_reducible show Ix _ _ _ _ _); (first | refine Ix.h ?_ | refine Ix.ha ?_)) | (refine St.h H ?_; clear H; intro _ H))
      ((conv => whnf); refine Al.hp H ?_; clear H; intro pu _ H _)
      repeat' ((conv => whnf); first | (((with_reducible show Gd _ _ _); first | with_reducible refine Gd.t ?_ | with_reducible refine Gd.f ?_ | with_reducible refine Gd.dec (fun _ => ?_) (fun _ => ?_) | with_reducible refine Gd.beq (fun _ => ?_) (fun _ => ?_) | with_reducible refine Gd.bne (fun _ => ?_) (fun _ => ?_) | with_reducible refine Gd.not ?_ | refine Gd.t ?_ | refine Gd.f ?_ | with_reducible refine Gd.var (fun _ => ?_) (fun _ => ?_)) <;> first | (exfalso; omega) | skip) | with_reducible refine Sq.mk ?_ | ((with_reducible show Ld1 _ _ _); first | refine Ld1.h H ?_ | refine Ld1.rF ?_ | refine Ld1.r ?_) | ((with_reducible show Ld _ _ _ _); first | refine Ld.h H ?_ | refine Ld.r ?_) | ((with_reducible show Ix _ _ _ _ _); (first | refine Ix.h ?_ | refine Ix.ha ?_)) | (refine Al.hp H ?_; clear H; intro _ _ H _) | (refine St.h H ?_; clear H; intro _ H))
      clear hA5
      refine Sm.lith (cs := (insW y).flatMap ints) H T.ok (fun p2 w2 H _ => ?_)
      refine apL (enc := ints) (insW y) H T.ok ?_ ?_ (fun D' dc' w3 H => ?_) (by simp [insW]) (fun _ _ => rfl) (fun y _ v hv => by simp [ints] at hv; subst hv; rfl)
      · simp only [insW, List.length_cons, List.length_nil]; show (W1.length + 5) * 8 ≤ _; omega
      · simp only [insW, List.length_cons, List.length_nil]; omega
      simp only [List.cons_append, List.nil_append] at H
      replace H := H.d0
      have hnx : W0 ++ funH x.1 ++ (x.1.code.take (k + 1)).flatMap insW = W1 ++ insW y := by
        obtain ⟨g1, g2⟩ := List.getElem?_eq_some_iff.1 hy
        rw [List.take_succ_eq_append_getElem g1, List.flatMap_append, ← List.append_assoc, hW1, g2]; simp
      repeat' ((conv => whnf); first | (((with_reducible show Gd _ _ _); first | with_reducible refine Gd.t ?_ | with_reducible refine Gd.f ?_ | with_reducible refine Gd.dec (fun _ => ?_) (fun _ => ?_) | with_reducible refine Gd.beq (fun _ => ?_) (fun _ => ?_) | with_reducible refine Gd.bne (fun _ => ?_) (fun _ => ?_) | with_reducible refine Gd.not ?_ | refine Gd.t ?_ | refine Gd.f ?_ | with_reducible refine Gd.var (fun _ => ?_) (fun _ => ?_)) <;> first | (exfalso; omega) | skip) | with_reducible refine Sq.mk ?_ | ((with_reducible show Ld1 _ _ _); first | refine Ld1.h H ?_ | refine Ld1.rF ?_ | refine Ld1.r ?_) | ((with_reducible show Ld _ _ _ _); first | refine Ld.h H ?_ | refine Ld.r ?_) | ((with_reducible show Ix _ _ _ _ _); (first | refine Ix.h ?_ | refine Ix.ha ?_)) | (refine Al.hp H ?_; clear H; intro _ _ H _) | (refine St.h H ?_; clear H; intro _ H))
      exact ⟨(k + 1, D', dc'), ⟨at_int rfl (w64 (by simp) (by omega) (by omega)), rfl, at_val rfl (by rw [hnx]), rfl, rfl, trivial⟩, rfl, ⟨by simp only; omega, by rw [hnx]; exact H⟩, by simp only; omega⟩
    · have hk : k = x.1.code.length := by omega
      subst hk
      have hnx : [1886156142, (l.length : Int)] ++ ((fns l).take (i + 1)).flatMap imgF = W1 := by
        obtain ⟨g1, g2⟩ := List.getElem?_eq_some_iff.1 hfx
        rw [List.take_succ_eq_append_getElem g1, List.flatMap_append, ← List.append_assoc, hW0, ← hW1, g2, List.take_length]
        simp [imgF]
      repeat' ((conv => whnf); first | (((with_reducible show Gd _ _ _); first | with_reducible refine Gd.t ?_ | with_reducible refine Gd.f ?_ | with_reducible refine Gd.dec (fun _ => ?_) (fun _ => ?_) | with_reducible refine Gd.beq (fun _ => ?_) (fun _ => ?_) | with_reducible refine Gd.bne (fun _ => ?_) (fun _ => ?_) | with_reducible refine Gd.not ?_ | refine Gd.t ?_ | refine Gd.f ?_ | with_reducible refine Gd.var (fun _ => ?_) (fun _ => ?_)) <;> first | (exfalso; omega) | skip) | with_reducible refine Sq.mk ?_ | ((with_reducible show Ld1 _ _ _); first | refine Ld1.h H ?_ | refine Ld1.rF ?_ | refine Ld1.r ?_) | ((with_reducible show Ld _ _ _ _); first | refine Ld.h H ?_ | refine Ld.r ?_) | ((with_reducible show Ix _ _ _ _ _); (first | refine Ix.h ?_ | refine Ix.ha ?_)) | (refine Al.hp H ?_; clear H; intro _ _ H _) | (refine St.h H ?_; clear H; intro _ H))
      replace H := H.d0
      exact ⟨(i + 1, D, dc), ⟨at_int (m := ((i + 1 : Nat) : Int)) rfl (w64 (by simp) (by omega) (by omega)), at_val rfl (by rw [hnx]), rfl, trivial⟩, rfl, ⟨by simp only; omega, by rw [hnx]; exact H⟩, by simp only; omega⟩
  · have hi : i = l.length := by omega
    subst hi
    have hW : [1886156142, (l.length : Int)] ++ ((fns l).take l.length).flatMap imgF = imgP (fns l) := by
      rw [imgP, hfl, List.take_of_length_le (by omega)]
    rw [hW] at H
    rw [hW]
    have hwl : (imgP (fns l)).length ≤ 82050 := by
      have := imgFs_len hlc
      rw [imgP]; simp only [List.length_append, List.length_cons, List.length_nil]; omega
    repeat' (first | ((conv => whnf); first | (((with_reducible show Gd _ _ _); first | with_reducible refine Gd.t ?_ | with_reducible refine Gd.f ?_ | with_reducible refine Gd.dec (fun _ => ?_) (fun _ => ?_) | with_reducible refine Gd.beq (fun _ => ?_) (fun _ => ?_) | with_reducible refine Gd.bne (fun _ => ?_) (fun _ => ?_) | with_reducible refine Gd.not ?_ | refine Gd.t ?_ | refine Gd.f ?_ | with_reducible refine Gd.var (fun _ => ?_) (fun _ => ?_)) <;> first | (exfalso; omega) | skip) | with_reducible refine Sq.mk ?_ | ((with_reducible show Ld1 _ _ _); first | refine Ld1.h H ?_ | refine Ld1.rF ?_ | refine Ld1.r ?_) | ((with_reducible show Ld _ _ _ _); first | refine Ld.h H ?_ | refine Ld.r ?_) | ((with_reducible show Ix _ _ _ _ _); (first | refine Ix.h ?_ | refine Ix.ha ?_)) | (refine Al.hp H ?_; clear H; intro _ _ H _) | (refine St.h H ?_; clear H; intro _ H)) | (((conv => whnf); refine Cl.mk (rsum_c C cc (imgP (fns l)) _ (H.rdq 0 rfl) (by omega)) ?_); rintro _ _ ⟨rfl, hx⟩; replace H := H.ext hx; clear hx))
    refine Sm.lith (cs := [.int .i64 (sumL (imgP (fns l)))]) H T.ok (fun p2 w2 H _ => ?_)
    refine Sm.ap1 (enc := ints) (sumL (imgP (fns l))) H T.ok ?_ ?_ (fun C' cc' w3 H => ?_)
    · show ((imgP (fns l)).length + 1) * 8 ≤ _; omega
    · omega
    simp only [List.cons_append, List.nil_append] at H
    repeat' ((conv => whnf); first | (((with_reducible show Gd _ _ _); first | with_reducible refine Gd.t ?_ | with_reducible refine Gd.f ?_ | with_reducible refine Gd.dec (fun _ => ?_) (fun _ => ?_) | with_reducible refine Gd.beq (fun _ => ?_) (fun _ => ?_) | with_reducible refine Gd.bne (fun _ => ?_) (fun _ => ?_) | with_reducible refine Gd.not ?_ | refine Gd.t ?_ | refine Gd.f ?_ | with_reducible refine Gd.var (fun _ => ?_) (fun _ => ?_)) <;> first | (exfalso; omega) | skip) | with_reducible refine Sq.mk ?_ | ((with_reducible show Ld1 _ _ _); first | refine Ld1.h H ?_ | refine Ld1.rF ?_ | refine Ld1.r ?_) | ((with_reducible show Ld _ _ _ _); first | refine Ld.h H ?_ | refine Ld.r ?_) | ((with_reducible show Ix _ _ _ _ _); (first | refine Ix.h ?_ | refine Ix.ha ?_)) | (refine Al.hp H ?_; clear H; intro _ _ H _) | (refine St.h H ?_; clear H; intro _ H))
    exact ⟨C', cc', by rw [imgS, List.length_append]; rfl, H.sel [0] rfl⟩
theorem rEncode_c (B : Option Addr) (l : List FE) (d : Nat) (w : World) (hB : RdP w B l) :
    Cl Tryd.prog 39 #[pv B l.length d] w (Encoded (fns l) w) (fun _ _ => False) := by
  refine calls_ex (args := [pv B l.length d]) T.ok Tryd.func39 rfl rfl rfl rfl ?_
  have H := Hp.begin nw w
  refine Sq.mk ?_
  ((conv => whnf); refine Al.hp H ?_; clear H; intro pp _ H _)
  repeat' ((conv => whnf); first | (((with_reducible show Gd _ _ _); first | with_reducible refine Gd.t ?_ | with_reducible refine Gd.f ?_ | with_reducible refine Gd.dec (fun _ => ?_) (fun _ => ?_) | with_reducible refine Gd.beq (fun _ => ?_) (fun _ => ?_) | with_reducible refine Gd.bne (fun _ => ?_) (fun _ => ?_) | with_reducible refine Gd.not ?_ | refine Gd.t ?_ | refine Gd.f ?_ | with_reducible refine Gd.var (fun _ => ?_) (fun _ => ?_)) <;> first | (exfalso; omega) | skip) | with_reducible refine Sq.mk ?_ | ((with_reducible show Ld1 _ _ _); first | refine Ld1.h H ?_ | refine Ld1.rF ?_ | refine Ld1.r ?_) | ((with_reducible show Ld _ _ _ _); first | refine Ld.h H ?_ | refine Ld.r ?_) | ((with_reducible show Ix _ _ _ _ _); (first | refine Ix.h ?_ | refine Ix.ha ?_)) | (refine Al.hp H ?_; clear H; intro _ _ H _) | (refine St.h H ?_; clear H; intro _ H))
  (((conv => whnf); refine Cl.mk (rCheck_c B l d _ (hB.ext H.e)) ?_); rintro _ _ ⟨rfl, hx⟩; replace H := H.ext hx; clear hx)
  ((conv => whnf); refine Al.hp H ?_; clear H; intro pr _ H _)
  repeat' ((conv => whnf); first | (((with_reducible show Gd _ _ _); first | with_reducible refine Gd.t ?_ | with_reducible refine Gd.f ?_ | with_reducible refine Gd.dec (fun _ => ?_) (fun _ => ?_) | with_reducible refine Gd.beq (fun _ => ?_) (fun _ => ?_) | with_reducible refine Gd.bne (fun _ => ?_) (fun _ => ?_) | with_reducible refine Gd.not ?_ | refine Gd.t ?_ | refine Gd.f ?_ | with_reducible refine Gd.var (fun _ => ?_) (fun _ => ?_)) <;> first | (exfalso; omega) | skip) | with_reducible refine Sq.mk ?_ | ((with_reducible show Ld1 _ _ _); first | refine Ld1.h H ?_ | refine Ld1.rF ?_ | refine Ld1.r ?_) | ((with_reducible show Ld _ _ _ _); first | refine Ld.h H ?_ | refine Ld.r ?_) | ((with_reducible show Ix _ _ _ _ _); (first | refine Ix.h ?_ | refine Ix.ha ?_)) | (refine Al.hp H ?_; clear H; intro _ _ H _) | (refine St.h H ?_; clear H; intro _ H))
  · ((conv => whnf); refine Dr.quiet T.ok mixed (by kernel_rfl) (fun W hW => ?_))
    repeat' ((conv => whnf); first | (((with_reducible show Gd _ _ _); first | with_reducible refine Gd.t ?_ | with_reducible refine Gd.f ?_ | with_reducible refine Gd.dec (fun _ => ?_) (fun _ => ?_) | with_reducible refine Gd.beq (fun _ => ?_) (fun _ => ?_) | with_reducible refine Gd.bne (fun _ => ?_) (fun _ => ?_) | with_reducible refine Gd.not ?_ | refine Gd.t ?_ | refine Gd.f ?_ | with_reducible refine Gd.var (fun _ => ?_) (fun _ => ?_)) <;> first | (exfalso; omega) | skip) | ((with_reducible show QLd1 _ _ _); first | refine QLd1.h hW H ?_ | refine QLd1.rF hW ?_ | refine QLd1.r hW ?_) | ((with_reducible show QLd _ _ _ _); first | refine QLd.h hW H ?_ | refine QLd.r hW ?_) | ((with_reducible show Ix _ _ _ _ _); (first | refine Ix.h ?_ | refine Ix.ha ?_)))
    (intro _ eT; replace H := H.ext eT; clear hW eT)
    repeat' ((conv => whnf); first | (((with_reducible show Gd _ _ _); first | with_reducible refine Gd.t ?_ | with_reducible refine Gd.f ?_ | with_reducible refine Gd.dec (fun _ => ?_) (fun _ => ?_) | with_reducible refine Gd.beq (fun _ => ?_) (fun _ => ?_) | with_reducible refine Gd.bne (fun _ => ?_) (fun _ => ?_) | with_reducible refine Gd.not ?_ | refine Gd.t ?_ | refine Gd.f ?_ | with_reducible refine Gd.var (fun _ => ?_) (fun _ => ?_)) <;> first | (exfalso; omega) | skip) | with_reducible refine Sq.mk ?_ | ((with_reducible show Ld1 _ _ _); first | refine Ld1.h H ?_ | refine Ld1.rF ?_ | refine Ld1.r ?_) | ((with_reducible show Ld _ _ _ _); first | refine Ld.h H ?_ | refine Ld.r ?_) | ((with_reducible show Ix _ _ _ _ _); (first | refine Ix.h ?_ | refine Ix.ha ?_)) | (refine Al.hp H ?_; clear H; intro _ _ H _) | (refine St.h H ?_; clear H; intro _ H))
    replace H := H.nil ints 1 2
    exact ⟨none, 0, [], rfl, fun h => absurd (check_ok.2 h) (by assumption), fun _ => rfl, H.sel [0] rfl⟩
  rename_i hz
  have hz : (checkL (fns l)).1 = 0 := by first | exact hz | exact Classical.not_not.1 hz
  have hV := check_ok.1 hz
  ((conv => whnf); refine Cl.mk (rImage_c B l d _ (hB.ext H.e) hV) ?_)
  rintro _ w3 ⟨C, cc, rfl, H'⟩
  replace H := H.fr0 H' (.inl rfl)
  repeat' ((conv => whnf); first | (((with_reducible show Gd _ _ _); first | with_reducible refine Gd.t ?_ | with_reducible refine Gd.f ?_ | with_reducible refine Gd.dec (fun _ => ?_) (fun _ => ?_) | with_reducible refine Gd.beq (fun _ => ?_) (fun _ => ?_) | with_reducible refine Gd.bne (fun _ => ?_) (fun _ => ?_) | with_reducible refine Gd.not ?_ | refine Gd.t ?_ | refine Gd.f ?_ | with_reducible refine Gd.var (fun _ => ?_) (fun _ => ?_)) <;> first | (exfalso; omega) | skip) | with_reducible refine Sq.mk ?_ | ((with_reducible show Ld1 _ _ _); first | refine Ld1.h H ?_ | refine Ld1.rF ?_ | refine Ld1.r ?_) | ((with_reducible show Ld _ _ _ _); first | refine Ld.h H ?_ | refine Ld.r ?_) | ((with_reducible show Ix _ _ _ _ _); (first | refine Ix.h ?_ | refine Ix.ha ?_)) | (refine Al.hp H ?_; clear H; intro _ _ H _) | (refine St.h H ?_; clear H; intro _ H))
  exact ⟨C, cc, imgS (fns l), by rw [hz]; rfl, fun _ => rfl, fun h => absurd hV h, H.sel [0] rfl⟩
end Go.Proofs.YtbbadmlekagloaaDoor
namespace Go.Proofs.YtbbadmlekagloaaDoor
open Go Go.Sh
set_option linter.unusedVariables false
set_option linter.unusedSimpArgs false
attribute [local irreducible] Blk Ext RdS
theorem img_small {fs : List Fn} (h : Valid fs) : (imgS fs).length ≤ 82051 := by
  have := imgFs_len (fs := fs) (fun f hf => (shaped_len (h.shaped f hf)).2)
  have := h.len
  rw [imgS, imgP]; simp only [List.length_append, List.length_cons, List.length_nil]; omega
theorem enc_eq {fs : List Fn} {a b : List Int} (h1 : Valid fs → a = imgS fs) (h2 : ¬ Valid fs → a = []) (h3 : Valid fs → b = imgS fs) (h4 : ¬ Valid fs → b = []) : a = b ∧ a.length ≤ 82051 := by
  by_cases h : Valid fs
  · rw [h1 h, h3 h]; exact ⟨rfl, img_small h⟩
  · rw [h2 h, h4 h]; exact ⟨rfl, by simp⟩
theorem encodePlaced_c (A : Option Addr) (l : List FE) (c : Nat) (w : World) (hA : RdP w A l) (hG : RdG w) (hl : l.length ≤ 1048576) (hc : ∀ x ∈ l, x.1.code.length ≤ 1048576) :
    Cl Tryd.prog 42 #[pv A l.length c] w (fun v w' => v = .bool true ∧ Ext w w') (fun _ _ => False) := by
  have hfl := fns_len l
  refine calls_ex (args := [pv A l.length c]) T.ok Tryd.func42 rfl rfl rfl rfl ?_
  have H := Hp.begin nw w
  refine Sq.mk ?_
  ((conv => whnf); refine Al.hp H ?_; clear H; intro pp _ H _)
  repeat' ((conv => whnf); first | (((with_reducible show Gd _ _ _); first | with_reducible refine Gd.t ?_ | with_reducible refine Gd.f ?_ | with_reducible refine Gd.dec (fun _ => ?_) (fun _ => ?_) | with_reducible refine Gd.beq (fun _ => ?_) (fun _ => ?_) | with_reducible refine Gd.bne (fun _ => ?_) (fun _ => ?_) | with_reducible refine Gd.not ?_ | refine Gd.t ?_ | refine Gd.f ?_ | with_reducible refine Gd.var (fun _ => ?_) (fun _ => ?_)) <;> first | (exfalso; omega) | skip) | with_reducible refine Sq.mk ?_ | ((with_reducible show Ld1 _ _ _); first | refine Ld1.h H ?_ | refine Ld1.rF ?_ | refine Ld1.r ?_) | ((with_reducible show Ld _ _ _ _); first | refine Ld.h H ?_ | refine Ld.r ?_) | ((with_reducible show Ix _ _ _ _ _); (first | refine Ix.h ?_ | refine Ix.ha ?_)) | (refine Al.hp H ?_; clear H; intro _ _ H _) | (refine St.h H ?_; clear H; intro _ H))
  ((conv => whnf); refine Cl.mk (turnedAll_c A l c _ (hA.ext H.e) hl hc) ?_)
  rintro _ w2 ⟨C, d, l', rfl, hts, H'⟩
  replace H := H.fr0L H' (by simp [Ck.new])
  simp only [List.cons_append, List.nil_append] at H
  clear H'
  have hl' : l'.length = l.length := by have := congrArg List.length hts; simp [fns_len] at this; exact this
  have hc' : ∀ x ∈ l', x.1.code.length ≤ 1048576 := fun x hx => by
    have h1 : x.1 ∈ (fns l).map turnedF := by rw [← hts]; exact List.mem_map.2 ⟨x, hx, rfl⟩
    obtain ⟨f, hf, e⟩ := List.mem_map.1 h1
    obtain ⟨y, hy, e2⟩ := List.mem_map.1 hf
    rw [← e, turned_len, ← e2]
    exact hc y hy
  ((conv => whnf); refine Al.hp H ?_; clear H; intro pt _ H _)
  repeat' ((conv => whnf); first | (((with_reducible show Gd _ _ _); first | with_reducible refine Gd.t ?_ | with_reducible refine Gd.f ?_ | with_reducible refine Gd.dec (fun _ => ?_) (fun _ => ?_) | with_reducible refine Gd.beq (fun _ => ?_) (fun _ => ?_) | with_reducible refine Gd.bne (fun _ => ?_) (fun _ => ?_) | with_reducible refine Gd.not ?_ | refine Gd.t ?_ | refine Gd.f ?_ | with_reducible refine Gd.var (fun _ => ?_) (fun _ => ?_)) <;> first | (exfalso; omega) | skip) | with_reducible refine Sq.mk ?_ | ((with_reducible show Ld1 _ _ _); first | refine Ld1.h H ?_ | refine Ld1.rF ?_ | refine Ld1.r ?_) | ((with_reducible show Ld _ _ _ _); first | refine Ld.h H ?_ | refine Ld.r ?_) | ((with_reducible show Ix _ _ _ _ _); (first | refine Ix.h ?_ | refine Ix.ha ?_)) | (refine Al.hp H ?_; clear H; intro _ _ H _) | (refine St.h H ?_; clear H; intro _ H))
  ((conv => whnf); refine Cl.mk (wrap_c C l' d _ ⟨H.rdq 2 rfl, H.atC 1 rfl⟩ (by omega) hc') ?_)
  rintro _ w3 ⟨pf, qs, C2, cc, rfl, hqs, H'⟩
  replace H := H.fr0L H' (by simp [Ck.new])
  simp only [List.cons_append, List.nil_append] at H
  clear H'
  rw [fns_len] at hqs
  have hfe : (fns l').length = l.length := by rw [fns_len]; exact hl'
  rw [hfe]
  ((conv => whnf); refine Al.hp H ?_; clear H; intro pg _ H _)
  repeat' ((conv => whnf); first | (((with_reducible show Gd _ _ _); first | with_reducible refine Gd.t ?_ | with_reducible refine Gd.f ?_ | with_reducible refine Gd.dec (fun _ => ?_) (fun _ => ?_) | with_reducible refine Gd.beq (fun _ => ?_) (fun _ => ?_) | with_reducible refine Gd.bne (fun _ => ?_) (fun _ => ?_) | with_reducible refine Gd.not ?_ | refine Gd.t ?_ | refine Gd.f ?_ | with_reducible refine Gd.var (fun _ => ?_) (fun _ => ?_)) <;> first | (exfalso; omega) | skip) | with_reducible refine Sq.mk ?_ | ((with_reducible show Ld1 _ _ _); first | refine Ld1.h H ?_ | refine Ld1.rF ?_ | refine Ld1.r ?_) | ((with_reducible show Ld _ _ _ _); first | refine Ld.h H ?_ | refine Ld.r ?_) | ((with_reducible show Ix _ _ _ _ _); (first | refine Ix.h ?_ | refine Ix.ha ?_)) | (refine Al.hp H ?_; clear H; intro _ _ H _) | (refine St.h H ?_; clear H; intro _ H))
  have hql : qs.length = (fns l').length := by rw [fns_len]; exact hqs
  have hzl : (zipE (fns l') qs).length = l.length := by rw [zipE, zip_len lai (by omega)]; omega
  have hck1 := pEncode_c (some ⟨pf, 0, none⟩) (zipE (fns l') qs) (l.length + 1) _ (RdS.from H.e hG) (rdp_zip hql (H.rdb (enc := FE.enc) 3 rfl (fun _ _ => rfl)) (H.atC 1 rfl))
  rw [hzl, fns_zip hql] at hck1
  ((conv => whnf); refine Cl.mk (hck1) ?_)
  rintro _ w4 ⟨D1, dc1, e1, rfl, hv1, hn1, H'⟩
  replace H := H.fr0 H' (.inl rfl)
  clear H' hck1
  repeat' ((conv => whnf); first | (((with_reducible show Gd _ _ _); first | with_reducible refine Gd.t ?_ | with_reducible refine Gd.f ?_ | with_reducible refine Gd.dec (fun _ => ?_) (fun _ => ?_) | with_reducible refine Gd.beq (fun _ => ?_) (fun _ => ?_) | with_reducible refine Gd.bne (fun _ => ?_) (fun _ => ?_) | with_reducible refine Gd.not ?_ | refine Gd.t ?_ | refine Gd.f ?_ | with_reducible refine Gd.var (fun _ => ?_) (fun _ => ?_)) <;> first | (exfalso; omega) | skip) | with_reducible refine Sq.mk ?_ | ((with_reducible show Ld1 _ _ _); first | refine Ld1.h H ?_ | refine Ld1.rF ?_ | refine Ld1.r ?_) | ((with_reducible show Ld _ _ _ _); first | refine Ld.h H ?_ | refine Ld.r ?_) | ((with_reducible show Ix _ _ _ _ _); (first | refine Ix.h ?_ | refine Ix.ha ?_)) | (refine Al.hp H ?_; clear H; intro _ _ H _) | (refine St.h H ?_; clear H; intro _ H))
  have hpq : pf ∉ qs := fun h => (Hp.dis H 2 4 rfl rfl (by decide) (.inl rfl)) pf ⟨h, rfl⟩
  have hqlo : ∀ q ∈ qs, w.heap.size ≤ q := fun q hq => by
    rcases H.dom (cdk qs ((fns l').map spC)) (List.mem_of_getElem? (i := 2) rfl) (.inl rfl) q hq with h | h
    · exact h.elim
    · exact h
  have htc : ∀ (i : Nat) (f t : Fn), (fns l)[i]? = some f → (fns l')[i]? = some t → t.code.length = f.code.length := fun i f t hf ht => by
    rw [hts, List.getElem?_map, hf] at ht
    simp at ht; subst ht
    exact turned_len f
  have hzr : RdS FE.enc 4 _ (some ⟨pf, 0, none⟩) (zipE (fns l') qs) := (rdp_zip hql (H.rdb (enc := FE.enc) 4 rfl (fun _ _ => rfl)) (H.atC 2 rfl)).top
  have hly := lay_c (fns l) (fns l') pf (l.length + 1) qs A l c w _ H.e hA rfl (by omega) htc hl hc (by omega) hqlo (H.atC 2 rfl) hzr hpq
  clear hzr
  ((conv => whnf); refine Cl.mk (hly) ?_)
  rintro _ w6 H'
  replace H := H.upd (c := cdk qs ((fns l').map spC)) H' rfl (.inl rfl)
  clear H' hly
  have hz : (zipE (fns l') qs ++ [markF]).flatMap FE.enc = (zipE (fns l) qs ++ [markF]).flatMap FE.enc := by rw [List.flatMap_append, List.flatMap_append, hts, turnZip]
  rw [hz] at H
  have hzl2 : (zipE (fns l) qs).length = l.length := by rw [zipE, zip_len lai (by omega)]; omega
  repeat' ((conv => whnf); first | (((with_reducible show Gd _ _ _); first | with_reducible refine Gd.t ?_ | with_reducible refine Gd.f ?_ | with_reducible refine Gd.dec (fun _ => ?_) (fun _ => ?_) | with_reducible refine Gd.beq (fun _ => ?_) (fun _ => ?_) | with_reducible refine Gd.bne (fun _ => ?_) (fun _ => ?_) | with_reducible refine Gd.not ?_ | refine Gd.t ?_ | refine Gd.f ?_ | with_reducible refine Gd.var (fun _ => ?_) (fun _ => ?_)) <;> first | (exfalso; omega) | skip) | with_reducible refine Sq.mk ?_ | ((with_reducible show Ld1 _ _ _); first | refine Ld1.h H ?_ | refine Ld1.rF ?_ | refine Ld1.r ?_) | ((with_reducible show Ld _ _ _ _); first | refine Ld.h H ?_ | refine Ld.r ?_) | ((with_reducible show Ix _ _ _ _ _); (first | refine Ix.h ?_ | refine Ix.ha ?_)) | (refine Al.hp H ?_; clear H; intro _ _ H _) | (refine St.h H ?_; clear H; intro _ H))
  have hck2 := pEncode_c (some ⟨pf, 0, none⟩) (zipE (fns l) qs) (l.length + 1) _ (RdS.from H.e hG) (rdp_zip (by omega) (H.rdb (enc := FE.enc) 4 rfl (fun _ _ => rfl)) (H.atC 2 rfl))
  rw [hzl2, fns_zip (by omega)] at hck2
  ((conv => whnf); refine Cl.mk (hck2) ?_)
  rintro _ w7 ⟨D2, dc2, e2, rfl, hv2, hn2, H'⟩
  replace H := H.fr0 H' (.inl rfl)
  clear H' hck2
  repeat' ((conv => whnf); first | (((with_reducible show Gd _ _ _); first | with_reducible refine Gd.t ?_ | with_reducible refine Gd.f ?_ | with_reducible refine Gd.dec (fun _ => ?_) (fun _ => ?_) | with_reducible refine Gd.beq (fun _ => ?_) (fun _ => ?_) | with_reducible refine Gd.bne (fun _ => ?_) (fun _ => ?_) | with_reducible refine Gd.not ?_ | refine Gd.t ?_ | refine Gd.f ?_ | with_reducible refine Gd.var (fun _ => ?_) (fun _ => ?_)) <;> first | (exfalso; omega) | skip) | with_reducible refine Sq.mk ?_ | ((with_reducible show Ld1 _ _ _); first | refine Ld1.h H ?_ | refine Ld1.rF ?_ | refine Ld1.r ?_) | ((with_reducible show Ld _ _ _ _); first | refine Ld.h H ?_ | refine Ld.r ?_) | ((with_reducible show Ix _ _ _ _ _); (first | refine Ix.h ?_ | refine Ix.ha ?_)) | (refine Al.hp H ?_; clear H; intro _ _ H _) | (refine St.h H ?_; clear H; intro _ H))
  ((conv => whnf); refine Cl.mk (rEncode_c C l' d _ ⟨H.rdq 8 rfl, H.atC 7 rfl⟩) ?_)
  rintro _ w8 ⟨D3, dc3, e3, rfl, hv3, hn3, H'⟩
  replace H := H.fr0 H' (.inl rfl)
  clear H'
  repeat' ((conv => whnf); first | (((with_reducible show Gd _ _ _); first | with_reducible refine Gd.t ?_ | with_reducible refine Gd.f ?_ | with_reducible refine Gd.dec (fun _ => ?_) (fun _ => ?_) | with_reducible refine Gd.beq (fun _ => ?_) (fun _ => ?_) | with_reducible refine Gd.bne (fun _ => ?_) (fun _ => ?_) | with_reducible refine Gd.not ?_ | refine Gd.t ?_ | refine Gd.f ?_ | with_reducible refine Gd.var (fun _ => ?_) (fun _ => ?_)) <;> first | (exfalso; omega) | skip) | with_reducible refine Sq.mk ?_ | ((with_reducible show Ld1 _ _ _); first | refine Ld1.h H ?_ | refine Ld1.rF ?_ | refine Ld1.r ?_) | ((with_reducible show Ld _ _ _ _); first | refine Ld.h H ?_ | refine Ld.r ?_) | ((with_reducible show Ix _ _ _ _ _); (first | refine Ix.h ?_ | refine Ix.ha ?_)) | (refine Al.hp H ?_; clear H; intro _ _ H _) | (refine St.h H ?_; clear H; intro _ H))
  ((conv => whnf); refine Cl.mk (rEncode_c A l c _ (hA.ext H.e)) ?_)
  rintro _ w9 ⟨D4, dc4, e4, rfl, hv4, hn4, H'⟩
  replace H := H.fr0 H' (.inl rfl)
  clear H'
  obtain ⟨he13, hs1⟩ := enc_eq hv1 hn1 hv3 hn3
  obtain ⟨he24, hs2⟩ := enc_eq hv2 hn2 hv4 hn4
  repeat' (first | ((conv => whnf); first | (((with_reducible show Gd _ _ _); first | with_reducible refine Gd.t ?_ | with_reducible refine Gd.f ?_ | with_reducible refine Gd.dec (fun _ => ?_) (fun _ => ?_) | with_reducible refine Gd.beq (fun _ => ?_) (fun _ => ?_) | with_reducible refine Gd.bne (fun _ => ?_) (fun _ => ?_) | with_reducible refine Gd.not ?_ | refine Gd.t ?_ | refine Gd.f ?_ | with_reducible refine Gd.var (fun _ => ?_) (fun _ => ?_)) <;> first | (exfalso; omega) | skip) | with_reducible refine Sq.mk ?_ | ((with_reducible show Ld1 _ _ _); first | refine Ld1.h H ?_ | refine Ld1.rF ?_ | refine Ld1.r ?_) | ((with_reducible show Ld _ _ _ _); first | refine Ld.h H ?_ | refine Ld.r ?_) | ((with_reducible show Ix _ _ _ _ _); (first | refine Ix.h ?_ | refine Ix.ha ?_)) | (refine Al.hp H ?_; clear H; intro _ _ H _) | (refine St.h H ?_; clear H; intro _ H)) | (((conv => whnf); refine Cl.mk (sameWords_c D1 D3 dc1 dc3 e1 e3 _ (H.rdq 3 rfl) (H.rdq 1 rfl) (by omega)) ?_); rintro _ _ ⟨rfl, hx⟩; replace H := H.ext hx; clear hx) | (((conv => whnf); refine Cl.mk (sameWords_c D2 D4 dc2 dc4 e2 e4 _ (H.rdq 2 rfl) (H.rdq 0 rfl) (by omega)) ?_); rintro _ _ ⟨rfl, hx⟩; replace H := H.ext hx; clear hx))
  all_goals first | (exfalso; exact absurd he13 (by assumption)) | skip
  exact ⟨b_eq (by rw [decide_eq_true he24]), H.e⟩
end Go.Proofs.YtbbadmlekagloaaDoor
namespace Go.Sh
open Go.RowKit
section
variable {S : Nat → Prop} {w0 w w' : World} {Γ L R : List Ck} {α : Type} {enc : α → List Value} {sz c : Nat} {e : TypeId} {A : Option Addr} {l : List α} {x : α} {k : World → Prop} {a b : Ck}
theorem Hp.swap (H : Hp S w0 w (a :: b :: Γ)) : Hp S w0 w (b :: a :: Γ) := H.perm (List.Perm.swap b a Γ)
/-- the pieces behind the first under a name -/
theorem Hp.hide (H : Hp S w0 w (a :: Γ)) : ∃ Γ', Γ' = Γ ∧ Hp S w0 w (a :: Γ') := ⟨Γ, rfl, H⟩
theorem putL_get {cs vs : List Value} {o j : Nat} (h : o + vs.length ≤ cs.length) : (putL cs o vs)[j]? = if j < o then cs[j]? else if j < o + vs.length then vs[j - o]? else cs[j]? := by
  unfold putL
  rw [List.append_assoc]
  split
  · rw [List.getElem?_append_left (by simp; omega), List.getElem?_take_of_lt (by omega)]
  · rw [List.getElem?_append_right (by simp; omega), List.length_take, Nat.min_eq_left (by omega)]
    split
    · rw [List.getElem?_append_left (by omega)]
    · rw [List.getElem?_append_right (by omega), List.getElem?_drop]
      congr 1; omega
/-- an element of a growing slice is written -/
theorem St.elq {i : Nat} (H : Hp S w0 w Γ) (hx : (enc x).length = sz) (hi : i < l.length) (h1 : (enc x).all Value.oneCell' = true)
    (hk : ∀ w', Hp S w0 w' (L ++ qu enc sz e A c (l.set i x) :: R) → k w') (u : Sp Γ L (qu enc sz e A c l) R := by (repeat (first | exact Sp.head | apply Sp.tail))) : St w ((gA A).add (i * sz)) (enc x) k := by
  have hq : Que enc sz e w 0 A c l := H.mem (c := qu enc sz e A c l) (by rw [u.eq]; simp)
  rcases hq.place with ⟨_, hc⟩ | ⟨b, off, cs, rfl, hB, hb, hfit, hat⟩
  · have := hq.le; omega
  have hlen := flat_len hq.sizes
  have h5 : i * sz + sz ≤ l.length * sz := by
    have : (i + 1) * sz ≤ l.length * sz := Nat.mul_le_mul_right sz hi
    rw [Nat.add_mul, Nat.one_mul] at this; exact this
  have h6 : l.length * sz ≤ c * sz := Nat.mul_le_mul_right sz hq.le
  have e1 : (gA (some ⟨b, off, none⟩)).add (i * sz) = ⟨b, off + i * sz, none⟩ := by simp only [gA]; rw [add_lit]
  rw [e1]
  refine St.upd hb (Nat.ble_eq_true_of_le (by rw [hx]; omega)) h1 fun w' up hb' => hk w' (H.putS u (Hp.one ((Tch.refl _ _).upd up (.inl rfl)) (qu_ok (Que.of_blk hb' hB ?_ ?_ ?_ ?_)) fun k hk => .inl hk) rfl (.inl rfl))
  · intro y hy
    rcases List.mem_or_eq_of_mem_set hy with h | h
    · exact hq.sizes y h
    · rw [h]; exact hx
  · rw [List.length_set]; exact hq.le
  · unfold putL; simp only [List.length_append, List.length_take, List.length_drop, hx]; omega
  · intro j v hv
    rw [← putL_el hq.sizes hx hi, putL_get (by rw [hlen, hx]; exact h5)] at hv
    rw [putL_get (by rw [hx]; omega)]
    split at hv
    · rw [if_pos (by omega)]; exact hat j v hv
    · split at hv
      · rw [if_neg (by omega), if_pos (by omega), show off + j - (off + i * sz) = j - i * sz by omega]; exact hv
      · rw [if_neg (by omega), if_neg (by omega)]; exact hat j v hv
end
end Go.Sh
namespace Go.Proofs.YtbbadmlekagloaaDoor
open Go Go.Sh
set_option linter.unusedVariables false
set_option linter.unusedSimpArgs false
attribute [local irreducible] Blk Ext RdS
theorem progEncode_c (A : Option Addr) (l : List FE) (c : Nat) (w : World) (hA : RdP w A l) (hG : RdG w) (hl : l.length ≤ 1048576) (hc : ∀ x ∈ l, x.1.code.length ≤ 1048576) :
    Cl Tryd.prog 8 #[pv A l.length c] w (fun v w' => v = .bool true ∧ Ext w w') (fun _ _ => False) := by
  have hfl := fns_len l
  refine calls_ex (args := [pv A l.length c]) T.ok Tryd.func8 rfl rfl rfl rfl ?_
  have H := Hp.begin nw w
  refine Sq.mk ?_
  ((conv => whnf); refine Al.hp H ?_; clear H; intro pp _ H _)
  repeat' ((conv => whnf); first | (((with_reducible show Gd _ _ _); first | with_reducible refine Gd.t ?_ | with_reducible refine Gd.f ?_ | with_reducible refine Gd.dec (fun _ => ?_) (fun _ => ?_) | with_reducible refine Gd.beq (fun _ => ?_) (fun _ => ?_) | with_reducible refine Gd.bne (fun _ => ?_) (fun _ => ?_) | with_reducible refine Gd.not ?_ | refine Gd.t ?_ | refine Gd.f ?_ | with_reducible refine Gd.var (fun _ => ?_) (fun _ => ?_)) <;> first | (exfalso; omega) | skip) | with_reducible refine Sq.mk ?_ | ((with_reducible show Ld1 _ _ _); first | refine Ld1.h H ?_ | refine Ld1.rF ?_ | refine Ld1.r ?_) | ((with_reducible show Ld _ _ _ _); first | refine Ld.h H ?_ | refine Ld.r ?_) | ((with_reducible show Ix _ _ _ _ _); (first | refine Ix.h ?_ | refine Ix.ha ?_)) | (refine Al.hp H ?_; clear H; intro _ _ H _) | (refine St.h H ?_; clear H; intro _ H))
  ((conv => whnf); refine Cl.mk (rEncode_c A l c _ (hA.ext H.e)) ?_)
  rintro _ w2 ⟨D0, dc0, e0, rfl, hv0, hn0, H'⟩
  replace H := H.fr0 H' (.inl rfl)
  clear H'
  repeat' ((conv => whnf); first | (((with_reducible show Gd _ _ _); first | with_reducible refine Gd.t ?_ | with_reducible refine Gd.f ?_ | with_reducible refine Gd.dec (fun _ => ?_) (fun _ => ?_) | with_reducible refine Gd.beq (fun _ => ?_) (fun _ => ?_) | with_reducible refine Gd.bne (fun _ => ?_) (fun _ => ?_) | with_reducible refine Gd.not ?_ | refine Gd.t ?_ | refine Gd.f ?_ | with_reducible refine Gd.var (fun _ => ?_) (fun _ => ?_)) <;> first | (exfalso; omega) | skip) | with_reducible refine Sq.mk ?_ | ((with_reducible show Ld1 _ _ _); first | refine Ld1.h H ?_ | refine Ld1.rF ?_ | refine Ld1.r ?_) | ((with_reducible show Ld _ _ _ _); first | refine Ld.h H ?_ | refine Ld.r ?_) | ((with_reducible show Ix _ _ _ _ _); (first | refine Ix.h ?_ | refine Ix.ha ?_)) | (refine Al.hp H ?_; clear H; intro _ _ H _) | (refine St.h H ?_; clear H; intro _ H))
  ((conv => whnf); refine Cl.mk (wrap_c A l c _ (hA.ext H.e) hl hc) ?_)
  rintro _ w3 ⟨pf, qs, C2, cc, rfl, hqs, H'⟩
  replace H := H.fr0L H' (by simp [Ck.new])
  simp only [List.cons_append, List.nil_append] at H
  clear H'
  rw [hfl]
  ((conv => whnf); refine Al.hp H ?_; clear H; intro pg _ H _)
  have hzl : (zipE (fns l) qs).length = l.length := by rw [zipE, zip_len lai (by omega)]; omega
  repeat' ((conv => whnf); first | (((with_reducible show Gd _ _ _); first | with_reducible refine Gd.t ?_ | with_reducible refine Gd.f ?_ | with_reducible refine Gd.dec (fun _ => ?_) (fun _ => ?_) | with_reducible refine Gd.beq (fun _ => ?_) (fun _ => ?_) | with_reducible refine Gd.bne (fun _ => ?_) (fun _ => ?_) | with_reducible refine Gd.not ?_ | refine Gd.t ?_ | refine Gd.f ?_ | with_reducible refine Gd.var (fun _ => ?_) (fun _ => ?_)) <;> first | (exfalso; omega) | skip) | with_reducible refine Sq.mk ?_ | ((with_reducible show Ld1 _ _ _); first | refine Ld1.h H ?_ | refine Ld1.rF ?_ | refine Ld1.r ?_) | ((with_reducible show Ld _ _ _ _); first | refine Ld.h H ?_ | refine Ld.r ?_) | ((with_reducible show Ix _ _ _ _ _); (first | refine Ix.h ?_ | refine Ix.ha ?_)) | (refine Al.hp H ?_; clear H; intro _ _ H _) | (refine St.h H ?_; clear H; intro _ H))
  have hck1 := pEncode_c (some ⟨pf, 0, none⟩) (zipE (fns l) qs) (l.length + 1) _ (RdS.from H.e hG) (rdp_zip hqs (H.rdb (enc := FE.enc) 3 rfl (fun _ _ => rfl)) (H.atC 1 rfl))
  rw [hzl, fns_zip hqs] at hck1
  ((conv => whnf); refine Cl.mk (hck1) ?_)
  rintro _ w4 ⟨D1, dc1, e1, rfl, hv1, hn1, H'⟩
  replace H := H.fr0 H' (.inl rfl)
  clear H' hck1
  repeat' ((conv => whnf); first | (((with_reducible show Gd _ _ _); first | with_reducible refine Gd.t ?_ | with_reducible refine Gd.f ?_ | with_reducible refine Gd.dec (fun _ => ?_) (fun _ => ?_) | with_reducible refine Gd.beq (fun _ => ?_) (fun _ => ?_) | with_reducible refine Gd.bne (fun _ => ?_) (fun _ => ?_) | with_reducible refine Gd.not ?_ | refine Gd.t ?_ | refine Gd.f ?_ | with_reducible refine Gd.var (fun _ => ?_) (fun _ => ?_)) <;> first | (exfalso; omega) | skip) | with_reducible refine Sq.mk ?_ | ((with_reducible show Ld1 _ _ _); first | refine Ld1.h H ?_ | refine Ld1.rF ?_ | refine Ld1.r ?_) | ((with_reducible show Ld _ _ _ _); first | refine Ld.h H ?_ | refine Ld.r ?_) | ((with_reducible show Ix _ _ _ _ _); (first | refine Ix.h ?_ | refine Ix.ha ?_)) | (refine Al.hp H ?_; clear H; intro _ _ H _) | (refine St.h H ?_; clear H; intro _ H))
  have hck2 := pEncode_c (some ⟨pf, 0, none⟩) (zipE (fns l) qs) (l.length + 1) _ (RdS.from H.e hG) (rdp_zip hqs (H.rdb (enc := FE.enc) 4 rfl (fun _ _ => rfl)) (H.atC 2 rfl))
  rw [hzl, fns_zip hqs] at hck2
  ((conv => whnf); refine Cl.mk (hck2) ?_)
  rintro _ w5 ⟨D2, dc2, e2, rfl, hv2, hn2, H'⟩
  replace H := H.fr0 H' (.inl rfl)
  clear H' hck2
  obtain ⟨he10, hs1⟩ := enc_eq hv1 hn1 hv0 hn0
  obtain ⟨he20, hs2⟩ := enc_eq hv2 hn2 hv0 hn0
  repeat' (first | ((conv => whnf); first | (((with_reducible show Gd _ _ _); first | with_reducible refine Gd.t ?_ | with_reducible refine Gd.f ?_ | with_reducible refine Gd.dec (fun _ => ?_) (fun _ => ?_) | with_reducible refine Gd.beq (fun _ => ?_) (fun _ => ?_) | with_reducible refine Gd.bne (fun _ => ?_) (fun _ => ?_) | with_reducible refine Gd.not ?_ | refine Gd.t ?_ | refine Gd.f ?_ | with_reducible refine Gd.var (fun _ => ?_) (fun _ => ?_)) <;> first | (exfalso; omega) | skip) | with_reducible refine Sq.mk ?_ | ((with_reducible show Ld1 _ _ _); first | refine Ld1.h H ?_ | refine Ld1.rF ?_ | refine Ld1.r ?_) | ((with_reducible show Ld _ _ _ _); first | refine Ld.h H ?_ | refine Ld.r ?_) | ((with_reducible show Ix _ _ _ _ _); (first | refine Ix.h ?_ | refine Ix.ha ?_)) | (refine Al.hp H ?_; clear H; intro _ _ H _) | (refine St.h H ?_; clear H; intro _ H)) | (((conv => whnf); refine Cl.mk (sameWords_c D1 D0 dc1 dc0 e1 e0 _ (H.rdq 1 rfl) (H.rdq 6 rfl) (by omega)) ?_); rintro _ _ ⟨rfl, hx⟩; replace H := H.ext hx; clear hx))
  all_goals first | (exfalso; exact absurd he10 (by assumption)) | skip
  obtain ⟨Γ, hΓ, H⟩ := Hp.hide H.swap
  refine Lp.g0 T.ok (σ := Nat × List Int) (fun s => [(10, .int .i64 (s.1 : Int)), (6, .slice D1 e1.length dc1), (8, .slice D2 e2.length dc2), (3, .slice D0 e0.length dc0), (5, .pointer (some ⟨pg, 0, none⟩)), (1, .pointer (some ⟨pp, 0, none⟩))])
    (fun s w' => s.1 ≤ e1.length ∧ s.2.length = e1.length ∧ Hp nw w w' (qu ints 1 2 D1 dc1 s.2 :: Γ)) (fun s _ => e1.length - s.1) (0, e1) rfl ⟨rfl, rfl, rfl, rfl, rfl, rfl, trivial⟩ ⟨Nat.zero_le _, rfl, H⟩ ?_
  clear H
  rintro ⟨i, f1⟩ w6 ⟨hi, hf1, H⟩
  simp only at hi hf1 H ⊢
  by_cases hlt : i < e1.length
  · repeat' ((conv => whnf); first | (((with_reducible show Gd _ _ _); first | with_reducible refine Gd.t ?_ | with_reducible refine Gd.f ?_ | with_reducible refine Gd.dec (fun _ => ?_) (fun _ => ?_) | with_reducible refine Gd.beq (fun _ => ?_) (fun _ => ?_) | with_reducible refine Gd.bne (fun _ => ?_) (fun _ => ?_) | with_reducible refine Gd.not ?_ | refine Gd.t ?_ | refine Gd.f ?_ | with_reducible refine Gd.var (fun _ => ?_) (fun _ => ?_)) <;> first | (exfalso; omega) | skip) | with_reducible refine Sq.mk ?_ | ((with_reducible show Ld1 _ _ _); first | refine Ld1.h H ?_ | refine Ld1.rF ?_ | refine Ld1.r ?_) | ((with_reducible show Ld _ _ _ _); first | refine Ld.h H ?_ | refine Ld.r ?_) | ((with_reducible show Ix _ _ _ _ _); (first | refine Ix.h ?_ | refine Ix.ha ?_)) | (refine Al.hp H ?_; clear H; intro _ _ H _) | (refine St.h H ?_; clear H; intro _ H))
    refine St.elq (enc := ints) (l := f1) (c := dc1) (x := -7) H rfl (by omega) rfl (fun w' H => ?_)
    simp only [List.nil_append] at H
    repeat' ((conv => whnf); first | (((with_reducible show Gd _ _ _); first | with_reducible refine Gd.t ?_ | with_reducible refine Gd.f ?_ | with_reducible refine Gd.dec (fun _ => ?_) (fun _ => ?_) | with_reducible refine Gd.beq (fun _ => ?_) (fun _ => ?_) | with_reducible refine Gd.bne (fun _ => ?_) (fun _ => ?_) | with_reducible refine Gd.not ?_ | refine Gd.t ?_ | refine Gd.f ?_ | with_reducible refine Gd.var (fun _ => ?_) (fun _ => ?_)) <;> first | (exfalso; omega) | skip) | with_reducible refine Sq.mk ?_ | ((with_reducible show Ld1 _ _ _); first | refine Ld1.h H ?_ | refine Ld1.rF ?_ | refine Ld1.r ?_) | ((with_reducible show Ld _ _ _ _); first | refine Ld.h H ?_ | refine Ld.r ?_) | ((with_reducible show Ix _ _ _ _ _); (first | refine Ix.h ?_ | refine Ix.ha ?_)) | (refine Al.hp H ?_; clear H; intro _ _ H _) | (refine St.h H ?_; clear H; intro _ H))
    exact ⟨(i + 1, f1.set i (-7)), ⟨at_int (m := ((i + 1 : Nat) : Int)) rfl (w64 (by simp) (by omega) (by omega)), rfl, rfl, rfl, rfl, rfl, trivial⟩, rfl, ⟨by simp only; omega, by simpa using hf1, H⟩, by simp only; omega⟩
  have hi : i = e1.length := by omega
  clear hlt
  repeat' ((conv => whnf); first | (((with_reducible show Gd _ _ _); first | with_reducible refine Gd.t ?_ | with_reducible refine Gd.f ?_ | with_reducible refine Gd.dec (fun _ => ?_) (fun _ => ?_) | with_reducible refine Gd.beq (fun _ => ?_) (fun _ => ?_) | with_reducible refine Gd.bne (fun _ => ?_) (fun _ => ?_) | with_reducible refine Gd.not ?_ | refine Gd.t ?_ | refine Gd.f ?_ | with_reducible refine Gd.var (fun _ => ?_) (fun _ => ?_)) <;> first | (exfalso; omega) | skip) | with_reducible refine Sq.mk ?_ | ((with_reducible show Ld1 _ _ _); first | refine Ld1.h H ?_ | refine Ld1.rF ?_ | refine Ld1.r ?_) | ((with_reducible show Ld _ _ _ _); first | refine Ld.h H ?_ | refine Ld.r ?_) | ((with_reducible show Ix _ _ _ _ _); (first | refine Ix.h ?_ | refine Ix.ha ?_)) | (refine Al.hp H ?_; clear H; intro _ _ H _) | (refine St.h H ?_; clear H; intro _ H))
  refine Lp.g0 T.ok (σ := Nat × Option Addr × Nat × List Int) (fun s => [(11, .int .i64 (s.1 : Int)), (6, .slice s.2.1 s.2.2.2.length s.2.2.1), (8, .slice D2 e2.length dc2), (3, .slice D0 e0.length dc0), (5, .pointer (some ⟨pg, 0, none⟩)), (1, .pointer (some ⟨pp, 0, none⟩))])
    (fun s w' => s.1 ≤ 64 ∧ s.2.2.2.length = e1.length + s.1 ∧ Hp nw w w' (qu ints 1 2 s.2.1 s.2.2.1 s.2.2.2 :: Γ)) (fun s _ => 64 - s.1) (0, D1, dc1, f1) rfl ⟨rfl, at_val rfl (by rw [hf1]), rfl, rfl, rfl, rfl, trivial⟩ ⟨Nat.zero_le _, hf1, H⟩ ?_
  clear H hi hf1
  rintro ⟨j, C3, c3, f2⟩ w7 ⟨hj, hf2, H⟩
  simp only at hj hf2 H ⊢
  by_cases hlt : j < 64
  · repeat' ((conv => whnf); first | (((with_reducible show Gd _ _ _); first | with_reducible refine Gd.t ?_ | with_reducible refine Gd.f ?_ | with_reducible refine Gd.dec (fun _ => ?_) (fun _ => ?_) | with_reducible refine Gd.beq (fun _ => ?_) (fun _ => ?_) | with_reducible refine Gd.bne (fun _ => ?_) (fun _ => ?_) | with_reducible refine Gd.not ?_ | refine Gd.t ?_ | refine Gd.f ?_ | with_reducible refine Gd.var (fun _ => ?_) (fun _ => ?_)) <;> first | (exfalso; omega) | skip) | with_reducible refine Sq.mk ?_ | ((with_reducible show Ld1 _ _ _); first | refine Ld1.h H ?_ | refine Ld1.rF ?_ | refine Ld1.r ?_) | ((with_reducible show Ld _ _ _ _); first | refine Ld.h H ?_ | refine Ld.r ?_) | ((with_reducible show Ix _ _ _ _ _); (first | refine Ix.h ?_ | refine Ix.ha ?_)) | (refine St.h H ?_; clear H; intro _ H))
    refine Sm.lith (cs := [.int .i64 (-8)]) H T.ok (fun p2 w2 H _ => ?_)
    refine Sm.ap1 (enc := ints) (-8) H T.ok ?_ ?_ (fun C' cc' w3 H => ?_)
    · show (f2.length + 1) * 8 ≤ _; omega
    · omega
    simp only [List.cons_append, List.nil_append] at H
    repeat' ((conv => whnf); first | (((with_reducible show Gd _ _ _); first | with_reducible refine Gd.t ?_ | with_reducible refine Gd.f ?_ | with_reducible refine Gd.dec (fun _ => ?_) (fun _ => ?_) | with_reducible refine Gd.beq (fun _ => ?_) (fun _ => ?_) | with_reducible refine Gd.bne (fun _ => ?_) (fun _ => ?_) | with_reducible refine Gd.not ?_ | refine Gd.t ?_ | refine Gd.f ?_ | with_reducible refine Gd.var (fun _ => ?_) (fun _ => ?_)) <;> first | (exfalso; omega) | skip) | with_reducible refine Sq.mk ?_ | ((with_reducible show Ld1 _ _ _); first | refine Ld1.h H ?_ | refine Ld1.rF ?_ | refine Ld1.r ?_) | ((with_reducible show Ld _ _ _ _); first | refine Ld.h H ?_ | refine Ld.r ?_) | ((with_reducible show Ix _ _ _ _ _); (first | refine Ix.h ?_ | refine Ix.ha ?_)) | (refine Al.hp H ?_; clear H; intro _ _ H _) | (refine St.h H ?_; clear H; intro _ H))
    exact ⟨(j + 1, C', cc', f2 ++ [-8]), ⟨at_int (m := ((j + 1 : Nat) : Int)) rfl (w64 (by simp) (by omega) (by omega)), at_val rfl (by simp), rfl, rfl, rfl, rfl, trivial⟩, rfl, ⟨by simp only; omega, by simp only [List.length_append, List.length_cons, List.length_nil]; omega, H⟩, by simp only; omega⟩
  subst hΓ
  repeat' (first | ((conv => whnf); first | (((with_reducible show Gd _ _ _); first | with_reducible refine Gd.t ?_ | with_reducible refine Gd.f ?_ | with_reducible refine Gd.dec (fun _ => ?_) (fun _ => ?_) | with_reducible refine Gd.beq (fun _ => ?_) (fun _ => ?_) | with_reducible refine Gd.bne (fun _ => ?_) (fun _ => ?_) | with_reducible refine Gd.not ?_ | refine Gd.t ?_ | refine Gd.f ?_ | with_reducible refine Gd.var (fun _ => ?_) (fun _ => ?_)) <;> first | (exfalso; omega) | skip) | with_reducible refine Sq.mk ?_ | ((with_reducible show Ld1 _ _ _); first | refine Ld1.h H ?_ | refine Ld1.rF ?_ | refine Ld1.r ?_) | ((with_reducible show Ld _ _ _ _); first | refine Ld.h H ?_ | refine Ld.r ?_) | ((with_reducible show Ix _ _ _ _ _); (first | refine Ix.h ?_ | refine Ix.ha ?_)) | (refine Al.hp H ?_; clear H; intro _ _ H _) | (refine St.h H ?_; clear H; intro _ H)) | (((conv => whnf); refine Cl.mk (sameWords_c D2 D0 dc2 dc0 e2 e0 _ (H.rdq 1 rfl) (H.rdq 6 rfl) (by omega)) ?_); rintro _ _ ⟨rfl, hx⟩; replace H := H.ext hx; clear hx))
  all_goals first | (exfalso; exact absurd he20 (by assumption)) | skip
  have hut := untouched_c (fns l) pf qs C2 cc A l c _ (hA.ext H.e) rfl hl hc hqs (H.atC 3 rfl) (H.rdq 4 rfl) (H.rdb (enc := FE.enc) 5 rfl (fun _ _ => rfl))
  repeat' (first | ((conv => whnf); first | (((with_reducible show Gd _ _ _); first | with_reducible refine Gd.t ?_ | with_reducible refine Gd.f ?_ | with_reducible refine Gd.dec (fun _ => ?_) (fun _ => ?_) | with_reducible refine Gd.beq (fun _ => ?_) (fun _ => ?_) | with_reducible refine Gd.bne (fun _ => ?_) (fun _ => ?_) | with_reducible refine Gd.not ?_ | refine Gd.t ?_ | refine Gd.f ?_ | with_reducible refine Gd.var (fun _ => ?_) (fun _ => ?_)) <;> first | (exfalso; omega) | skip) | with_reducible refine Sq.mk ?_ | ((with_reducible show Ld1 _ _ _); first | refine Ld1.h H ?_ | refine Ld1.rF ?_ | refine Ld1.r ?_) | ((with_reducible show Ld _ _ _ _); first | refine Ld.h H ?_ | refine Ld.r ?_) | ((with_reducible show Ix _ _ _ _ _); (first | refine Ix.h ?_ | refine Ix.ha ?_)) | (refine Al.hp H ?_; clear H; intro _ _ H _) | (refine St.h H ?_; clear H; intro _ H)) | (((conv => whnf); refine Cl.mk (hut) ?_); rintro _ _ ⟨rfl, hx⟩; replace H := H.ext hx; clear hx) | (((conv => whnf); refine Cl.mk (encodePlaced_c A l c _ (hA.ext H.e) (RdS.from H.e hG) hl hc) ?_); rintro _ _ ⟨rfl, hx⟩; replace H := H.ext hx; clear hx))
  all_goals exact ⟨rfl, H.e⟩
end Go.Proofs.YtbbadmlekagloaaDoor
namespace Go.Proofs.YtbbadmlekagloaaDoor
open Go Go.Sh
set_option linter.unusedVariables false
set_option linter.unusedSimpArgs false
attribute [local irreducible] Blk Ext RdS
def InR (n : Int) : Prop := -9223372036854775808 ≤ n ∧ n ≤ 9223372036854775807
def InsR (y : Ins) : Prop := InR y.kd ∧ InR y.a ∧ InR y.b ∧ InR y.c ∧ InR y.k
def FnR (f : Fn) : Prop := InR f.params ∧ InR f.regs ∧ InR f.slots ∧ ∀ y ∈ f.code, InsR y
theorem wrapR (n : Int) : InR (IntKind.i64.wrap n) := by
  unfold InR IntKind.wrap
  simp [IntKind.signed, IntKind.bits]
  split <;> omega
theorem wrap_in {a b : Int} (h : IntKind.i64.wrap a = IntKind.i64.wrap b) : ∃ k : Int, a - b = 18446744073709551616 * k := by
  unfold IntKind.wrap at h
  simp [IntKind.signed, IntKind.bits] at h
  refine ⟨a / 18446744073709551616 - b / 18446744073709551616, ?_⟩
  split at h <;> split at h <;> omega
theorem wrap_mod (a : Int) : ∃ k : Int, IntKind.i64.wrap a = a + 18446744073709551616 * k := by
  unfold IntKind.wrap
  simp [IntKind.signed, IntKind.bits]
  split
  · exact ⟨-(a / 18446744073709551616) - 1, by omega⟩
  · exact ⟨-(a / 18446744073709551616), by omega⟩
def stp (h x : Int) : Int := IntKind.i64.wrap (IntKind.i64.wrap (h * 31) + x)
theorem stp_h {h h' x : Int} (a : InR h) (b : InR h') (hne : h ≠ h') : stp h x ≠ stp h' x := fun e => by
  obtain ⟨k, hk⟩ := wrap_in e
  obtain ⟨k1, h1⟩ := wrap_mod (h * 31)
  obtain ⟨k2, h2⟩ := wrap_mod (h' * 31)
  unfold InR at a b
  rw [h1, h2] at hk
  clear h1 h2 e
  have h3 : 31 * (h - h') = 18446744073709551616 * (k - k1 + k2) := by
    rw [Int.mul_add, Int.mul_sub, Int.mul_sub]
    generalize 18446744073709551616 * k = p at *
    generalize 18446744073709551616 * k1 = p1 at *
    generalize 18446744073709551616 * k2 = p2 at *
    clear a b hne
    omega
  generalize k - k1 + k2 = K at h3
  clear hk
  have h4 : ∃ d, d = h - h' := ⟨_, rfl⟩
  obtain ⟨d, hd⟩ := h4
  rw [← hd] at h3
  have h5 : d = 18446744073709551616 * (17256631552825064415 * K - 29 * d) := by
    have g1 : (18446744073709551616 : Int) * (17256631552825064415 * K) = 17256631552825064415 * (31 * d) := by rw [h3, Int.mul_left_comm]
    rw [Int.mul_sub, g1, ← Int.mul_assoc, ← Int.mul_assoc, ← Int.sub_mul]
    exact (Int.one_mul d).symm
  generalize 17256631552825064415 * K - 29 * d = q at h5
  clear h3
  omega
theorem stp_x {h x y : Int} (a : InR x) (b : InR y) (hne : x ≠ y) : stp h x ≠ stp h y := fun e => by
  obtain ⟨k, hk⟩ := wrap_in e
  unfold InR at a b
  omega
theorem stp_r (h x : Int) : InR (stp h x) := wrapR _
theorem fold_ne : ∀ (r : List Int) {h h' : Int}, InR h → InR h' → h ≠ h' → r.foldl stp h ≠ r.foldl stp h'
  | [], h, h', _, _, hne => hne
  | x :: r, h, h', a, b, hne => fold_ne r (stp_r h x) (stp_r h' x) (stp_h a b hne)
theorem sumL_fold (l : List Int) : sumL l = l.foldl stp 0 := rfl
theorem sumL_r (l : List Int) : InR (sumL l) := by
  rcases List.eq_nil_or_concat l with rfl | ⟨m, x, rfl⟩
  · exact ⟨by decide, by decide⟩
  · rw [List.concat_eq_append, sumL_snoc]; exact wrapR _
theorem sum_set : ∀ {l : List Int} {j : Nat} {x y : Int} (h : Int), l[j]? = some x → InR x → InR y → x ≠ y → (l.set j y).foldl stp h ≠ l.foldl stp h
  | [], j, x, y, h, hj, _, _, _ => by simp at hj
  | z :: r, 0, x, y, h, hj, hx, hy, hne => by
    simp only [List.getElem?_cons_zero, Option.some.injEq] at hj
    subst hj
    exact fold_ne r (stp_r h y) (stp_r h z) (fun e => stp_x hx hy hne e.symm)
  | z :: r, j + 1, x, y, h, hj, hx, hy, hne => sum_set (stp h z) (l := r) (by simpa using hj) hx hy hne
/-- one word changed: the sum is wrong -/
theorem spoilt {m : List Int} {j : Nat} {x y : Int} (hj : (m ++ [sumL m])[j]? = some x) (hx : InR x) (hy : InR y) (hne : x ≠ y) : ∃ m' s', (m ++ [sumL m]).set j y = m' ++ [s'] ∧ sumL m' ≠ s' ∧ m'.length = m.length := by
  have hl := (List.getElem?_eq_some_iff.1 hj).1
  simp only [List.length_append, List.length_cons, List.length_nil] at hl
  rcases Nat.lt_or_ge j m.length with h | h
  · rw [List.getElem?_append_left h] at hj
    exact ⟨m.set j y, sumL m, List.set_append_left _ _ h, sum_set 0 hj hx hy hne, by simp⟩
  · have hjm : j = m.length := by omega
    subst hjm
    rw [List.getElem?_append_right (Nat.le_refl _)] at hj
    simp only [Nat.sub_self, List.getElem?_cons_zero, Option.some.injEq] at hj
    refine ⟨m, y, ?_, by rw [hj]; exact hne, rfl⟩
    rw [List.set_append_right _ _ (Nat.le_refl _)]
    simp
theorem imgF_r {f : Fn} (h : FnR f) (hl : f.code.length ≤ 512) : ∀ n ∈ imgF f, InR n := fun n hn => by
  obtain ⟨h1, h2, h3, h4⟩ := h
  simp only [imgF, funH, List.mem_append, List.mem_cons, List.not_mem_nil, or_false, List.mem_flatMap] at hn
  rcases hn with (rfl | rfl | rfl | rfl) | ⟨y, hy, hn⟩
  · exact h1
  · exact h2
  · exact h3
  · unfold InR; omega
  · obtain ⟨g1, g2, g3, g4, g5⟩ := h4 y hy
    simp only [insW, List.mem_cons, List.not_mem_nil, or_false] at hn
    rcases hn with rfl | rfl | rfl | rfl | rfl <;> assumption
theorem img_r {fs : List Fn} (hV : Valid fs) (h : ∀ f ∈ fs, FnR f) : ∀ n ∈ imgS fs, InR n := fun n hn => by
  simp only [imgS, imgP, List.mem_append, List.mem_cons, List.not_mem_nil, or_false, List.mem_flatMap] at hn
  rcases hn with ((rfl | rfl) | ⟨f, hf, hn⟩) | rfl
  · exact ⟨by decide, by decide⟩
  · have := hV.len; unfold InR; omega
  · exact imgF_r (h f hf) (shaped_len (hV.shaped f hf)).2 n hn
  · exact sumL_r _
theorem Decode_bad (A : Option Addr) (c : Nat) (m : List Int) (s : Int) (w : World) (hA : RdS ints 1 w A (m ++ [s])) (hc : m.length + 1 ≤ c) (hl : 2 ≤ m.length) (hl2 : m.length ≤ 9223372036854775800) (hne : sumL m ≠ s) :
    Cl Tryd.prog 45 #[.slice A (m ++ [s]).length c] w (fun v w' => v = .tuple #[.agg #[.slice none 0 0], .int .i64 58] ∧ Ext w w') (fun _ _ => False) := by
  have hlen : (m ++ [s]).length = m.length + 1 := by simp
  have hw1 : IntKind.i64.wrap (((m ++ [s]).length : Int) - 1) = ((m.length : Nat) : Int) := w64 (by rw [hlen]; omega) (by omega) (by omega)
  have hx : (m ++ [s])[m.length]? = some s := by simp
  have hm : ∀ w', RdS ints 1 w' A (m ++ [s]) → RdS ints 1 w' A m := fun w' h => by
    have := RdS.take (k := m.length) h
    rwa [List.take_left] at this
  refine calls_ex (args := [.slice A (m ++ [s]).length c]) T.ok Tryd.func45 rfl rfl rfl rfl ?_
  have H := Hp.begin nw w
  refine Sq.mk ?_
  ((conv => whnf); refine Al.hp H ?_; clear H; intro pp _ H _)
  repeat' ((conv => whnf); first | (((with_reducible show Gd _ _ _); first | with_reducible refine Gd.t ?_ | with_reducible refine Gd.f ?_ | with_reducible refine Gd.dec (fun _ => ?_) (fun _ => ?_) | with_reducible refine Gd.beq (fun _ => ?_) (fun _ => ?_) | with_reducible refine Gd.bne (fun _ => ?_) (fun _ => ?_) | with_reducible refine Gd.not ?_ | refine Gd.t ?_ | refine Gd.f ?_ | with_reducible refine Gd.var (fun _ => ?_) (fun _ => ?_)) <;> first | (exfalso; omega) | skip) | with_reducible refine Sq.mk ?_ | ((with_reducible show Ld1 _ _ _); first | refine Ld1.h H ?_ | refine Ld1.rF ?_ | refine Ld1.r ?_) | ((with_reducible show Ld _ _ _ _); first | refine Ld.h H ?_ | refine Ld.r ?_) | ((with_reducible show Ix _ _ _ _ _); (first | refine Ix.h ?_ | refine Ix.ha ?_)) | (refine Al.hp H ?_; clear H; intro _ _ H _) | (refine St.h H ?_; clear H; intro _ H))
  have hA5 := RdS.from H.e hA
  ((conv => whnf); refine Dr.quiet T.ok mixed (by kernel_rfl) (fun W hW => ?_))
  repeat' (first | ((conv => whnf); first | (((with_reducible show Gd _ _ _); first | with_reducible refine Gd.t ?_ | with_reducible refine Gd.f ?_ | with_reducible refine Gd.dec (fun _ => ?_) (fun _ => ?_) | with_reducible refine Gd.beq (fun _ => ?_) (fun _ => ?_) | with_reducible refine Gd.bne (fun _ => ?_) (fun _ => ?_) | with_reducible refine Gd.not ?_ | refine Gd.t ?_ | refine Gd.f ?_ | with_reducible refine Gd.var (fun _ => ?_) (fun _ => ?_)) <;> first | (exfalso; omega) | skip) | ((with_reducible show QLd1 _ _ _); first | refine QLd1.h hW H ?_ | refine QLd1.rF hW ?_ | refine QLd1.r hW ?_) | ((with_reducible show QLd _ _ _ _); first | refine QLd.h hW H ?_ | refine QLd.r hW ?_) | ((with_reducible show Ix _ _ _ _ _); (first | refine Ix.h ?_ | refine Ix.ha ?_))) | ((conv => whnf); refine QSm.cutHi (i := m.length) hW T.ok (by omega) ?_) | ((conv => whnf); refine QCl.mk hW (fun _ ee => Cl.mk (psum_c A c m _ (hm _ (RdS.from ee hA5)) (by omega)) (fun _ _ h => h)) ?_))
  all_goals first | (exfalso; exact absurd (by assumption) hne) | skip
  (intro _ eT; replace H := H.ext eT; clear hW eT)
  repeat' ((conv => whnf); first | (((with_reducible show Gd _ _ _); first | with_reducible refine Gd.t ?_ | with_reducible refine Gd.f ?_ | with_reducible refine Gd.dec (fun _ => ?_) (fun _ => ?_) | with_reducible refine Gd.beq (fun _ => ?_) (fun _ => ?_) | with_reducible refine Gd.bne (fun _ => ?_) (fun _ => ?_) | with_reducible refine Gd.not ?_ | refine Gd.t ?_ | refine Gd.f ?_ | with_reducible refine Gd.var (fun _ => ?_) (fun _ => ?_)) <;> first | (exfalso; omega) | skip) | with_reducible refine Sq.mk ?_ | ((with_reducible show Ld1 _ _ _); first | refine Ld1.h H ?_ | refine Ld1.rF ?_ | refine Ld1.r ?_) | ((with_reducible show Ld _ _ _ _); first | refine Ld.h H ?_ | refine Ld.r ?_) | ((with_reducible show Ix _ _ _ _ _); (first | refine Ix.h ?_ | refine Ix.ha ?_)) | (refine Al.hp H ?_; clear H; intro _ _ H _) | (refine St.h H ?_; clear H; intro _ H))
  exact ⟨rfl, H.e⟩
theorem progSpoilt_c (A : Option Addr) (l : List FE) (c : Nat) (n1 n2 : Int) (w : World) (hA : RdP w A l) (hG : RdG w) (hR : ∀ x ∈ l, FnR x.1) (h2 : InR n2) :
    Cl Tryd.prog 14 #[pv A l.length c, .int .i64 n1, .int .i64 n2] w (fun v w' => v = .bool true ∧ Ext w w') (fun _ _ => False) := by
  have hfl := fns_len l
  refine calls_ex (args := [pv A l.length c, .int .i64 n1, .int .i64 n2]) T.ok Tryd.func14 rfl rfl rfl rfl ?_
  have H := Hp.begin nw w
  refine Sq.mk ?_
  ((conv => whnf); refine Al.hp H ?_; clear H; intro pp _ H _)
  repeat' ((conv => whnf); first | (((with_reducible show Gd _ _ _); first | with_reducible refine Gd.t ?_ | with_reducible refine Gd.f ?_ | with_reducible refine Gd.dec (fun _ => ?_) (fun _ => ?_) | with_reducible refine Gd.beq (fun _ => ?_) (fun _ => ?_) | with_reducible refine Gd.bne (fun _ => ?_) (fun _ => ?_) | with_reducible refine Gd.not ?_ | refine Gd.t ?_ | refine Gd.f ?_ | with_reducible refine Gd.var (fun _ => ?_) (fun _ => ?_)) <;> first | (exfalso; omega) | skip) | with_reducible refine Sq.mk ?_ | ((with_reducible show Ld1 _ _ _); first | refine Ld1.h H ?_ | refine Ld1.rF ?_ | refine Ld1.r ?_) | ((with_reducible show Ld _ _ _ _); first | refine Ld.h H ?_ | refine Ld.r ?_) | ((with_reducible show Ix _ _ _ _ _); (first | refine Ix.h ?_ | refine Ix.ha ?_)) | (refine Al.hp H ?_; clear H; intro _ _ H _) | (refine St.h H ?_; clear H; intro _ H))
  (((conv => whnf); refine Cl.mk (Check_c A l c _ (RdS.from H.e hG) (hA.ext H.e)) ?_); rintro _ _ ⟨rfl, hx⟩; replace H := H.ext hx; clear hx)
  ((conv => whnf); refine Al.hp H ?_; clear H; intro pc _ H _)
  repeat' ((conv => whnf); first | (((with_reducible show Gd _ _ _); first | with_reducible refine Gd.t ?_ | with_reducible refine Gd.f ?_ | with_reducible refine Gd.dec (fun _ => ?_) (fun _ => ?_) | with_reducible refine Gd.beq (fun _ => ?_) (fun _ => ?_) | with_reducible refine Gd.bne (fun _ => ?_) (fun _ => ?_) | with_reducible refine Gd.not ?_ | refine Gd.t ?_ | refine Gd.f ?_ | with_reducible refine Gd.var (fun _ => ?_) (fun _ => ?_)) <;> first | (exfalso; omega) | skip) | with_reducible refine Sq.mk ?_ | ((with_reducible show Ld1 _ _ _); first | refine Ld1.h H ?_ | refine Ld1.rF ?_ | refine Ld1.r ?_) | ((with_reducible show Ld _ _ _ _); first | refine Ld.h H ?_ | refine Ld.r ?_) | ((with_reducible show Ix _ _ _ _ _); (first | refine Ix.h ?_ | refine Ix.ha ?_)) | (refine Al.hp H ?_; clear H; intro _ _ H _) | (refine St.h H ?_; clear H; intro _ H))
  ((conv => whnf); refine Cl.mk (pEncode_c A l c _ (RdS.from H.e hG) (hA.ext H.e)) ?_)
  rintro _ w2 ⟨D, dc, e, rfl, hv, hn, H'⟩
  replace H := H.fr0 H' (.inl rfl)
  clear H'
  by_cases hz : (checkL (fns l)).1 = 0
  · have hV := check_ok.1 hz
    obtain rfl := hv hV
    have hq := H.que 0 rfl
    have hdc := hq.le
    clear hq
    have hl82 := img_small hV
    have hl3 : 3 ≤ (imgS (fns l)).length := by rw [imgS, imgP]; simp only [List.length_append, List.length_cons, List.length_nil]; omega
    have hpl : (imgS (fns l)).length = (imgP (fns l)).length + 1 := by rw [imgS]; simp
    have hj := modN_lt n1 (n := (imgS (fns l)).length) (by omega)
    obtain ⟨x, hx⟩ : ∃ x, (imgS (fns l))[modN n1 (imgS (fns l)).length]? = some x := ⟨_, List.getElem?_eq_getElem hj⟩
    have hxr : InR x := img_r hV (fun f hf => by obtain ⟨y, hy, rfl⟩ := List.mem_map.1 hf; exact hR y hy) x (List.mem_of_getElem? hx)
    have fin : ∀ (y : Int), InR y → x ≠ y → ∃ m' s', (imgS (fns l)).set (modN n1 (imgS (fns l)).length) y = m' ++ [s'] ∧ sumL m' ≠ s' ∧ m'.length = (imgP (fns l)).length := fun y hy hne => spoilt (m := imgP (fns l)) hx hxr hy hne
    repeat' (first | ((conv => whnf); first | (((with_reducible show Gd _ _ _); first | with_reducible refine Gd.t ?_ | with_reducible refine Gd.f ?_ | with_reducible refine Gd.dec (fun _ => ?_) (fun _ => ?_) | with_reducible refine Gd.beq (fun _ => ?_) (fun _ => ?_) | with_reducible refine Gd.bne (fun _ => ?_) (fun _ => ?_) | with_reducible refine Gd.not ?_ | refine Gd.t ?_ | refine Gd.f ?_ | with_reducible refine Gd.var (fun _ => ?_) (fun _ => ?_)) <;> first | (exfalso; omega) | skip) | with_reducible refine Sq.mk ?_ | ((with_reducible show Ld1 _ _ _); first | refine Ld1.h H ?_ | refine Ld1.rF ?_ | refine Ld1.r ?_) | ((with_reducible show Ld _ _ _ _); first | refine Ld.h H ?_ | refine Ld.r ?_) | ((with_reducible show Ix _ _ _ _ _); (first | refine Ix.h ?_ | refine Ix.ha ?_)) | (refine Al.hp H ?_; clear H; intro _ _ H _) | (refine St.h H ?_; clear H; intro _ H)) | (((conv => whnf); refine Cl.mk (mod_c n1 (imgS (fns l)).length _ (by omega) (by omega)) ?_); rintro _ _ ⟨rfl, hx⟩; replace H := H.ext hx; clear hx))
    all_goals first | (exfalso; exact absurd hz (by assumption)) | skip
    · refine St.elq (enc := ints) (l := imgS (fns l)) (c := dc) (x := IntKind.i64.wrap (n2 + 1)) H rfl hj rfl (fun w' H => ?_)
      simp only [List.nil_append] at H
      obtain ⟨m', s', hms, hsn, hml⟩ := fin _ (wrapR _) (by obtain ⟨k, hk⟩ := wrap_mod (n2 + 1); rw [hk]; omega)
      rw [hms] at H
      have hd := Decode_bad D dc m' s' _ (H.rdq 0 rfl) (by omega) (by omega) (by omega) hsn
      rw [← hms, List.length_set] at hd
      repeat' (first | ((conv => whnf); first | (((with_reducible show Gd _ _ _); first | with_reducible refine Gd.t ?_ | with_reducible refine Gd.f ?_ | with_reducible refine Gd.dec (fun _ => ?_) (fun _ => ?_) | with_reducible refine Gd.beq (fun _ => ?_) (fun _ => ?_) | with_reducible refine Gd.bne (fun _ => ?_) (fun _ => ?_) | with_reducible refine Gd.not ?_ | refine Gd.t ?_ | refine Gd.f ?_ | with_reducible refine Gd.var (fun _ => ?_) (fun _ => ?_)) <;> first | (exfalso; omega) | skip) | with_reducible refine Sq.mk ?_ | ((with_reducible show Ld1 _ _ _); first | refine Ld1.h H ?_ | refine Ld1.rF ?_ | refine Ld1.r ?_) | ((with_reducible show Ld _ _ _ _); first | refine Ld.h H ?_ | refine Ld.r ?_) | ((with_reducible show Ix _ _ _ _ _); (first | refine Ix.h ?_ | refine Ix.ha ?_)) | (refine Al.hp H ?_; clear H; intro _ _ H _) | (refine St.h H ?_; clear H; intro _ H)) | (((conv => whnf); refine Cl.mk (hd) ?_); rintro _ _ ⟨rfl, hx⟩; replace H := H.ext hx; clear hx))
      exact ⟨rfl, H.e⟩
    · refine St.elq (enc := ints) (l := imgS (fns l)) (c := dc) (x := n2) H rfl hj rfl (fun w' H => ?_)
      simp only [List.nil_append] at H
      obtain ⟨m', s', hms, hsn, hml⟩ := fin _ h2 (by assumption)
      rw [hms] at H
      have hd := Decode_bad D dc m' s' _ (H.rdq 0 rfl) (by omega) (by omega) (by omega) hsn
      rw [← hms, List.length_set] at hd
      repeat' (first | ((conv => whnf); first | (((with_reducible show Gd _ _ _); first | with_reducible refine Gd.t ?_ | with_reducible refine Gd.f ?_ | with_reducible refine Gd.dec (fun _ => ?_) (fun _ => ?_) | with_reducible refine Gd.beq (fun _ => ?_) (fun _ => ?_) | with_reducible refine Gd.bne (fun _ => ?_) (fun _ => ?_) | with_reducible refine Gd.not ?_ | refine Gd.t ?_ | refine Gd.f ?_ | with_reducible refine Gd.var (fun _ => ?_) (fun _ => ?_)) <;> first | (exfalso; omega) | skip) | with_reducible refine Sq.mk ?_ | ((with_reducible show Ld1 _ _ _); first | refine Ld1.h H ?_ | refine Ld1.rF ?_ | refine Ld1.r ?_) | ((with_reducible show Ld _ _ _ _); first | refine Ld.h H ?_ | refine Ld.r ?_) | ((with_reducible show Ix _ _ _ _ _); (first | refine Ix.h ?_ | refine Ix.ha ?_)) | (refine Al.hp H ?_; clear H; intro _ _ H _) | (refine St.h H ?_; clear H; intro _ H)) | (((conv => whnf); refine Cl.mk (hd) ?_); rintro _ _ ⟨rfl, hx⟩; replace H := H.ext hx; clear hx))
      exact ⟨rfl, H.e⟩
  · repeat' ((conv => whnf); first | (((with_reducible show Gd _ _ _); first | with_reducible refine Gd.t ?_ | with_reducible refine Gd.f ?_ | with_reducible refine Gd.dec (fun _ => ?_) (fun _ => ?_) | with_reducible refine Gd.beq (fun _ => ?_) (fun _ => ?_) | with_reducible refine Gd.bne (fun _ => ?_) (fun _ => ?_) | with_reducible refine Gd.not ?_ | refine Gd.t ?_ | refine Gd.f ?_ | with_reducible refine Gd.var (fun _ => ?_) (fun _ => ?_)) <;> first | (exfalso; omega) | skip) | with_reducible refine Sq.mk ?_ | ((with_reducible show Ld1 _ _ _); first | refine Ld1.h H ?_ | refine Ld1.rF ?_ | refine Ld1.r ?_) | ((with_reducible show Ld _ _ _ _); first | refine Ld.h H ?_ | refine Ld.r ?_) | ((with_reducible show Ix _ _ _ _ _); (first | refine Ix.h ?_ | refine Ix.ha ?_)) | (refine Al.hp H ?_; clear H; intro _ _ H _) | (refine St.h H ?_; clear H; intro _ H))
    all_goals (try (exfalso; exact absurd (by assumption) hz))
    all_goals ((((conv => whnf); refine Cl.mk (head_c _ (RdS.from H.e hG)) ?_); rintro _ _ ⟨rfl, hx⟩; replace H := H.ext hx; clear hx))
    all_goals (repeat' ((conv => whnf); first | (((with_reducible show Gd _ _ _); first | with_reducible refine Gd.t ?_ | with_reducible refine Gd.f ?_ | with_reducible refine Gd.dec (fun _ => ?_) (fun _ => ?_) | with_reducible refine Gd.beq (fun _ => ?_) (fun _ => ?_) | with_reducible refine Gd.bne (fun _ => ?_) (fun _ => ?_) | with_reducible refine Gd.not ?_ | refine Gd.t ?_ | refine Gd.f ?_ | with_reducible refine Gd.var (fun _ => ?_) (fun _ => ?_)) <;> first | (exfalso; omega) | skip) | with_reducible refine Sq.mk ?_ | ((with_reducible show Ld1 _ _ _); first | refine Ld1.h H ?_ | refine Ld1.rF ?_ | refine Ld1.r ?_) | ((with_reducible show Ld _ _ _ _); first | refine Ld.h H ?_ | refine Ld.r ?_) | ((with_reducible show Ix _ _ _ _ _); (first | refine Ix.h ?_ | refine Ix.ha ?_)) | (refine Al.hp H ?_; clear H; intro _ _ H _) | (refine St.h H ?_; clear H; intro _ H)))
    all_goals exact ⟨b_eq (by simp), H.e⟩
end Go.Proofs.YtbbadmlekagloaaDoor
