/- own work: TyI, TyJ, TyK, TyL, TyM, TyN, TyP, TyQ, TyV -/
import Derived.WalkKit
import Derived.LaidEql
import Derived.Stop.Asserts
import Derived.RowKitTokens
import Derived.Test.YtapdmkgdiaechaaDoorMTA3
namespace Go.Proofs.YtapdmkgdiaechaaDoor
open Go Go.Sh Go.Tx
set_option linter.unusedVariables false
set_option linter.unusedSimpArgs false
set_option linter.unusedSectionVars false
attribute [local irreducible] Blk Ext RdS
theorem deep_le {d : Nat} {ts : List Tk} (h : deepP d ts = .ok () ts) : d ≤ 40 := by
  unfold deepP at h
  split at h
  · simp at h
  · omega
section
variable {src : Bs} {pr : Nat} {wb : World} {F : PF} (X : Txt src pr wb) (C : Con src pr wb F)
include X C
set_option maxHeartbeats 4000000 in
theorem unary_c (d : Nat) (ts : List Tk) (w : World) (hd : d ≤ 41) (hwb : Ext wb w) (h : Rdr src pr ts w) (hne : unaryP F d ts ≠ .out) :
    Cl Tryd.prog 52 #[.pointer (some ⟨pr, 0, none⟩), .int .i64 (d : Int)] w (OkE src pr (unaryP F d ts) w) (PanX (unaryP F d ts) pr w) := by
  have HB := X.ok hwb
  have hwd : IntKind.i64.wrap ((d : Int) + 1) = ((d + 1 : Nat) : Int) := w64 rfl (by omega) (by omega)
  obtain ⟨R, hR⟩ : ∃ R, R = unaryP F d ts := ⟨_, rfl⟩
  rw [← hR] at hne ⊢
  unfold unaryP at hR
  refine calls_ex (args := [.pointer (some ⟨pr, 0, none⟩), .int .i64 (d : Int)]) T.ok Tryd.func52 rfl rfl rfl rfl ?_
  have H := Hp.start (S := (· = pr)) (rdr_ok h) (fun k hk => hk)
  clear h
  refine Sq.mk ?_
  ((conv => whnf); refine Al.hp H ?_; clear H; intro p4 _ H _)
  (obtain ⟨nx, t0, r0, rfl, hn0, hr0, hb0⟩ := H.atC (c := rdr src pr ts) 1 rfl; replace H := Hp.ofR H hb0; clear hb0)
  rw [curK_cons] at hR
  by_cases hs : t0.kind ≠ s_minus ∧ t0.kind ≠ s_bang
  · rw [if_pos hs] at hR
    obtain ⟨hs1, hs2⟩ := hs
    replace hs1 : ¬ t0.kind = s_minus := hs1
    replace hs2 : ¬ t0.kind = s_bang := hs2
    repeat' ((conv => whnf); first | ((with_reducible show Gd (bs _ == _) _ _); first | refine Gd.sY (by assumption) ?_ | refine Gd.sk (by assumption) ?_ | refine Gd.sN (by assumption) ?_) | ((conv => whnf); first | (((with_reducible show Gd _ _ _); first | with_reducible refine Gd.t ?_ | with_reducible refine Gd.f ?_ | with_reducible refine Gd.dec (fun _ => ?_) (fun _ => ?_) | with_reducible refine Gd.beq (fun _ => ?_) (fun _ => ?_) | with_reducible refine Gd.bne (fun _ => ?_) (fun _ => ?_) | with_reducible refine Gd.not ?_ | refine Gd.t ?_ | refine Gd.f ?_ | with_reducible refine Gd.var (fun _ => ?_) (fun _ => ?_)) <;> first | (exfalso; omega) | skip) | with_reducible refine Sq.mk ?_ | ((with_reducible show Ld1 _ _ _); first | refine Ld1.h H ?_ | refine Ld1.rF ?_ | refine Ld1.r ?_) | ((with_reducible show Ld _ _ _ _); first | refine Ld.h H ?_ | refine Ld.r ?_) | ((with_reducible show Ix _ _ _ _ _); (first | refine Ix.h ?_ | refine Ix.ha ?_)) | (refine Al.hp H ?_; clear H; intro _ _ H _) | (refine St.h H ?_; clear H; intro _ H)) | refine Sm.strix T.ok ?_)
    (replace H := Hp.toR H hn0 hr0)
    (conv => whnf)
    refine Cl.mkX (C.primary d _ _ hd (H.base2 HB) (H.atC 1 rfl) (by rw [← hR]; exact hne)) ?_ ?_
    · rintro _ w2 ⟨⟨kd, o, n, nm, cb, A, c, l⟩, ts', h1, rfl, H'⟩
      replace H := H.updn (c := rdr src pr (t0 :: r0)) (Hp.swap H') rfl (.inl rfl) (.inl rfl)
      clear H'
      repeat' ((conv => whnf); first | ((with_reducible show Gd (bs _ == _) _ _); first | refine Gd.sY (by assumption) ?_ | refine Gd.sk (by assumption) ?_ | refine Gd.sN (by assumption) ?_) | ((conv => whnf); first | (((with_reducible show Gd _ _ _); first | with_reducible refine Gd.t ?_ | with_reducible refine Gd.f ?_ | with_reducible refine Gd.dec (fun _ => ?_) (fun _ => ?_) | with_reducible refine Gd.beq (fun _ => ?_) (fun _ => ?_) | with_reducible refine Gd.bne (fun _ => ?_) (fun _ => ?_) | with_reducible refine Gd.not ?_ | refine Gd.t ?_ | refine Gd.f ?_ | with_reducible refine Gd.var (fun _ => ?_) (fun _ => ?_)) <;> first | (exfalso; omega) | skip) | with_reducible refine Sq.mk ?_ | ((with_reducible show Ld1 _ _ _); first | refine Ld1.h H ?_ | refine Ld1.rF ?_ | refine Ld1.r ?_) | ((with_reducible show Ld _ _ _ _); first | refine Ld.h H ?_ | refine Ld.r ?_) | ((with_reducible show Ix _ _ _ _ _); (first | refine Ix.h ?_ | refine Ix.ha ?_)) | (refine Al.hp H ?_; clear H; intro _ _ H _) | (refine St.h H ?_; clear H; intro _ H)) | refine Sm.strix T.ok ?_)
      exact ⟨.mk kd o n nm cb A c l, ts', by rw [hR, h1], et_v rfl, H.sel [0, 1] rfl⟩
    · rintro ch w2 ⟨e, p, q, h1, rfl, H'⟩
      exact ⟨e, p, q, by rw [hR, h1], rfl, Hp.pan H H' (.inl rfl)⟩
  rw [if_neg hs] at hR
  have hend : t0.kind ≠ k_end := fun e => hs (by rw [e]; decide)
  have hfin : ∀ (w' : World) (p5 : Nat) (kk : Int) (e : ET) (ts2 : List Tk), Hp (· = pr) w w' [bk p5 27 (ET.enc e), trs [e], rdr src pr ts2] → Hp (· = pr) w w' [trs [.mk kk 0 0 [] [] (some ⟨p5, 0, none⟩) 1 [e]], rdr src pr ts2] := fun w' p5 kk e ts2 H => by
    have H1 : Hp (· = pr) w w' [bk p5 27 ([e].flatMap ET.enc), trs [e], rdr src pr ts2] := by simpa using H
    exact Hp.trsN kk 0 0 [] [] (Hp.bq (sz := 6) H1 (fun z _ => ET.enc_len z))
  have hun := fun ts w => C.unary (d + 1) ts w
  rw [← hwd] at hun
  by_cases hm : t0.kind = s_minus
  · have hbm : (bs t0.kind == (⟨#[45]⟩ : ByteArray)) = true := by rw [hm]; exact (bs_eq s_minus s_minus).trans (by simp)
    have hcm : (t0.kind == s_minus) = true := by rw [hm]; simp
    repeat' ((conv => whnf); first | ((with_reducible show Gd (bs _ == _) _ _); first | refine Gd.sY (by assumption) ?_ | refine Gd.sk (by assumption) ?_ | refine Gd.sN (by assumption) ?_) | ((conv => whnf); first | (((with_reducible show Gd _ _ _); first | with_reducible refine Gd.t ?_ | with_reducible refine Gd.f ?_ | with_reducible refine Gd.dec (fun _ => ?_) (fun _ => ?_) | with_reducible refine Gd.beq (fun _ => ?_) (fun _ => ?_) | with_reducible refine Gd.bne (fun _ => ?_) (fun _ => ?_) | with_reducible refine Gd.not ?_ | refine Gd.t ?_ | refine Gd.f ?_ | with_reducible refine Gd.var (fun _ => ?_) (fun _ => ?_)) <;> first | (exfalso; omega) | skip) | with_reducible refine Sq.mk ?_ | ((with_reducible show Ld1 _ _ _); first | refine Ld1.h H ?_ | refine Ld1.rF ?_ | refine Ld1.r ?_) | ((with_reducible show Ld _ _ _ _); first | refine Ld.h H ?_ | refine Ld.r ?_) | ((with_reducible show Ix _ _ _ _ _); (first | refine Ix.h ?_ | refine Ix.ha ?_)) | (refine Al.hp H ?_; clear H; intro _ _ H _) | (refine St.h H ?_; clear H; intro _ H)) | refine Sm.strix T.ok ?_)
    (replace H := Hp.toR H hn0 hr0)
    (((conv => whnf); refine Cl.mkX (deep_c _ src pr (t0 :: r0) (d + 1) hwd _ (H.atC 1 rfl)) ?_ ?_; rotate_left; (rintro ch w9 ⟨e9, p9, q9, h9, rfl, H'⟩; exact ⟨e9, p9, q9, (by rw [hR, h9]; rfl), rfl, Hp.pan H H' (.inl rfl)⟩)); rintro _ w8 ⟨h1, ex⟩; replace H := H.ext ex; clear ex; have hd40 := deep_le h1; rw [h1, Res.bind_ok] at hR; clear h1)
    have hd41 : d + 1 ≤ 41 := by omega
    replace hR : R = (stepP (t0.kind == s_minus) (t0 :: r0)).bind fun _ ts1 => if t0.kind = s_minus ∧ curK ts1 = k_number then (stepP false ts1).bind fun _ ts2 => .ok (.mk 0 0 (curT ts1).n [] [] []) ts2 else (F.unary (d + 1) ts1).bind fun e ts2 => .ok (.mk (if t0.kind = s_bang then 3 else 2) 0 0 [] [] [e]) ts2 := hR
    rw [show stepP (t0.kind == s_minus) (t0 :: r0) = stepP (bs t0.kind == (⟨#[45]⟩ : ByteArray)) (t0 :: r0) by rw [hcm, hbm]] at hR
    repeat' ((conv => whnf); first | ((with_reducible show Gd (bs _ == _) _ _); first | refine Gd.sY (by assumption) ?_ | refine Gd.sk (by assumption) ?_ | refine Gd.sN (by assumption) ?_) | ((conv => whnf); first | (((with_reducible show Gd _ _ _); first | with_reducible refine Gd.t ?_ | with_reducible refine Gd.f ?_ | with_reducible refine Gd.dec (fun _ => ?_) (fun _ => ?_) | with_reducible refine Gd.beq (fun _ => ?_) (fun _ => ?_) | with_reducible refine Gd.bne (fun _ => ?_) (fun _ => ?_) | with_reducible refine Gd.not ?_ | refine Gd.t ?_ | refine Gd.f ?_ | with_reducible refine Gd.var (fun _ => ?_) (fun _ => ?_)) <;> first | (exfalso; omega) | skip) | with_reducible refine Sq.mk ?_ | ((with_reducible show Ld1 _ _ _); first | refine Ld1.h H ?_ | refine Ld1.rF ?_ | refine Ld1.r ?_) | ((with_reducible show Ld _ _ _ _); first | refine Ld.h H ?_ | refine Ld.r ?_) | ((with_reducible show Ix _ _ _ _ _); (first | refine Ix.h ?_ | refine Ix.ha ?_)) | (refine Al.hp H ?_; clear H; intro _ _ H _) | (refine St.h H ?_; clear H; intro _ H)) | refine Sm.strix T.ok ?_)
    (((conv => whnf); refine Cl.mkX (step_c _ src pr (t0 :: r0) wb _ (H.base2 HB) X.lo X.tb X.len (H.atC 1 rfl) hend) ?_ ?_; rotate_left; (rintro ch w9 ⟨e9, p9, q9, h9, rfl, H'⟩; exact ⟨e9, p9, q9, (by rw [hR, h9]; rfl), rfl, Hp.pan H H' (.inl rfl)⟩)); rintro _ w8 ⟨ts1, h1, H'⟩; replace H := H.upd (c := rdr src pr (t0 :: r0)) H' rfl (.inl rfl); clear H'; rw [h1, Res.bind_ok] at hR; clear h1)
    by_cases hn : curK ts1 = k_number
    · rw [if_pos (show t0.kind = s_minus ∧ curK ts1 = k_number from ⟨hm, hn⟩)] at hR
      (obtain ⟨nx1, t1, r1, rfl, hn1, hr1, hb0⟩ := H.atC (c := rdr src pr ts1) 1 rfl; replace H := Hp.ofR H hb0; clear hb0)
      replace hn : t1.kind = k_number := hn
      repeat' ((conv => whnf); first | ((with_reducible show Gd (bs _ == _) _ _); first | refine Gd.sY (by assumption) ?_ | refine Gd.sk (by assumption) ?_ | refine Gd.sN (by assumption) ?_) | ((conv => whnf); first | (((with_reducible show Gd _ _ _); first | with_reducible refine Gd.t ?_ | with_reducible refine Gd.f ?_ | with_reducible refine Gd.dec (fun _ => ?_) (fun _ => ?_) | with_reducible refine Gd.beq (fun _ => ?_) (fun _ => ?_) | with_reducible refine Gd.bne (fun _ => ?_) (fun _ => ?_) | with_reducible refine Gd.not ?_ | refine Gd.t ?_ | refine Gd.f ?_ | with_reducible refine Gd.var (fun _ => ?_) (fun _ => ?_)) <;> first | (exfalso; omega) | skip) | with_reducible refine Sq.mk ?_ | ((with_reducible show Ld1 _ _ _); first | refine Ld1.h H ?_ | refine Ld1.rF ?_ | refine Ld1.r ?_) | ((with_reducible show Ld _ _ _ _); first | refine Ld.h H ?_ | refine Ld.r ?_) | ((with_reducible show Ix _ _ _ _ _); (first | refine Ix.h ?_ | refine Ix.ha ?_)) | (refine Al.hp H ?_; clear H; intro _ _ H _) | (refine St.h H ?_; clear H; intro _ H)) | refine Sm.strix T.ok ?_)
      (replace H := Hp.toR H hn1 hr1)
      (((conv => whnf); refine Cl.mkX (step_c _ src pr (t1 :: r1) wb _ (H.base2 HB) X.lo X.tb X.len (H.atC 1 rfl) (by rw [curK_cons, hn]; decide)) ?_ ?_; rotate_left; (rintro ch w9 ⟨e9, p9, q9, h9, rfl, H'⟩; exact ⟨e9, p9, q9, (by rw [hR, h9]; rfl), rfl, Hp.pan H H' (.inl rfl)⟩)); rintro _ w8 ⟨ts2, h1, H'⟩; replace H := H.upd (c := rdr src pr (t1 :: r1)) H' rfl (.inl rfl); clear H'; rw [h1, Res.bind_ok] at hR; clear h1)
      repeat' ((conv => whnf); first | ((with_reducible show Gd (bs _ == _) _ _); first | refine Gd.sY (by assumption) ?_ | refine Gd.sk (by assumption) ?_ | refine Gd.sN (by assumption) ?_) | ((conv => whnf); first | (((with_reducible show Gd _ _ _); first | with_reducible refine Gd.t ?_ | with_reducible refine Gd.f ?_ | with_reducible refine Gd.dec (fun _ => ?_) (fun _ => ?_) | with_reducible refine Gd.beq (fun _ => ?_) (fun _ => ?_) | with_reducible refine Gd.bne (fun _ => ?_) (fun _ => ?_) | with_reducible refine Gd.not ?_ | refine Gd.t ?_ | refine Gd.f ?_ | with_reducible refine Gd.var (fun _ => ?_) (fun _ => ?_)) <;> first | (exfalso; omega) | skip) | with_reducible refine Sq.mk ?_ | ((with_reducible show Ld1 _ _ _); first | refine Ld1.h H ?_ | refine Ld1.rF ?_ | refine Ld1.r ?_) | ((with_reducible show Ld _ _ _ _); first | refine Ld.h H ?_ | refine Ld.r ?_) | ((with_reducible show Ix _ _ _ _ _); (first | refine Ix.h ?_ | refine Ix.ha ?_)) | (refine Al.hp H ?_; clear H; intro _ _ H _) | (refine St.h H ?_; clear H; intro _ H)) | refine Sm.strix T.ok ?_)
      exact ⟨.mk 0 0 t1.n [] [] none 0 [], ts2, hR, et_v rfl, Hp.trsZ 0 0 t1.n [] [] (H.sel [1] rfl)⟩
    · rw [if_neg (show ¬ (t0.kind = s_minus ∧ curK ts1 = k_number) from fun e => hn e.2)] at hR
      (obtain ⟨nx1, t1, r1, rfl, hn1, hr1, hb0⟩ := H.atC (c := rdr src pr ts1) 1 rfl; replace H := Hp.ofR H hb0; clear hb0)
      replace hn : ¬ t1.kind = k_number := hn
      have hnb : ¬ t0.kind = s_bang := by rw [hm]; decide
      rw [if_neg hnb] at hR
      repeat' ((conv => whnf); first | ((with_reducible show Gd (bs _ == _) _ _); first | refine Gd.sY (by assumption) ?_ | refine Gd.sk (by assumption) ?_ | refine Gd.sN (by assumption) ?_) | ((conv => whnf); first | (((with_reducible show Gd _ _ _); first | with_reducible refine Gd.t ?_ | with_reducible refine Gd.f ?_ | with_reducible refine Gd.dec (fun _ => ?_) (fun _ => ?_) | with_reducible refine Gd.beq (fun _ => ?_) (fun _ => ?_) | with_reducible refine Gd.bne (fun _ => ?_) (fun _ => ?_) | with_reducible refine Gd.not ?_ | refine Gd.t ?_ | refine Gd.f ?_ | with_reducible refine Gd.var (fun _ => ?_) (fun _ => ?_)) <;> first | (exfalso; omega) | skip) | with_reducible refine Sq.mk ?_ | ((with_reducible show Ld1 _ _ _); first | refine Ld1.h H ?_ | refine Ld1.rF ?_ | refine Ld1.r ?_) | ((with_reducible show Ld _ _ _ _); first | refine Ld.h H ?_ | refine Ld.r ?_) | ((with_reducible show Ix _ _ _ _ _); (first | refine Ix.h ?_ | refine Ix.ha ?_)) | (refine Al.hp H ?_; clear H; intro _ _ H _) | (refine St.h H ?_; clear H; intro _ H)) | refine Sm.strix T.ok ?_)
      (replace H := Hp.toR H hn1 hr1)
      replace hR : R = (F.unary (d + 1) (t1 :: r1)).bind fun e ts2 => .ok (.mk 2 0 0 [] [] [e]) ts2 := hR
      ((conv => whnf); refine Cl.mkX (hun (t1 :: r1) _ hd41 (H.base2 HB) (H.atC 1 rfl) (Res.bind_out (by rw [← hR]; exact hne))) ?_ ?_; rotate_left; (rintro ch w9 ⟨e9, p9, q9, h9, rfl, H'⟩; exact ⟨e9, p9, q9, (by rw [hR, h9]; rfl), rfl, Hp.pan H H' (.inl rfl)⟩))
      rintro _ w3 ⟨⟨kd, o, n, nm, cb, A2, c2, l2⟩, ts2, h2, rfl, H'⟩
      replace H := H.updn (c := rdr src pr (t1 :: r1)) (Hp.swap H') rfl (.inl rfl) (.inl rfl)
      clear H'
      rw [h2, Res.bind_ok] at hR
      refine Sm.lith (cs := ET.enc (.mk kd o n nm cb A2 c2 l2)) H T.ok (fun p5 w4 H _ => ?_)
      repeat' ((conv => whnf); first | ((with_reducible show Gd (bs _ == _) _ _); first | refine Gd.sY (by assumption) ?_ | refine Gd.sk (by assumption) ?_ | refine Gd.sN (by assumption) ?_) | ((conv => whnf); first | (((with_reducible show Gd _ _ _); first | with_reducible refine Gd.t ?_ | with_reducible refine Gd.f ?_ | with_reducible refine Gd.dec (fun _ => ?_) (fun _ => ?_) | with_reducible refine Gd.beq (fun _ => ?_) (fun _ => ?_) | with_reducible refine Gd.bne (fun _ => ?_) (fun _ => ?_) | with_reducible refine Gd.not ?_ | refine Gd.t ?_ | refine Gd.f ?_ | with_reducible refine Gd.var (fun _ => ?_) (fun _ => ?_)) <;> first | (exfalso; omega) | skip) | with_reducible refine Sq.mk ?_ | ((with_reducible show Ld1 _ _ _); first | refine Ld1.h H ?_ | refine Ld1.rF ?_ | refine Ld1.r ?_) | ((with_reducible show Ld _ _ _ _); first | refine Ld.h H ?_ | refine Ld.r ?_) | ((with_reducible show Ix _ _ _ _ _); (first | refine Ix.h ?_ | refine Ix.ha ?_)) | (refine Al.hp H ?_; clear H; intro _ _ H _) | (refine St.h H ?_; clear H; intro _ H)) | refine Sm.strix T.ok ?_)
      refine ⟨.mk 2 0 0 [] [] (some ⟨p5, 0, none⟩) 1 [.mk kd o n nm cb A2 c2 l2], ts2, hR, et_v rfl, ?_⟩
      exact hfin _ p5 2 _ _ (H.sel [0, 0, 1] rfl)
  · have hb : t0.kind = s_bang := Classical.byContradiction fun e => hs ⟨hm, e⟩
    have hbm : (bs t0.kind == (⟨#[45]⟩ : ByteArray)) = false := by rw [hb]; exact (bs_eq s_bang s_minus).trans (by decide)
    have hcm : (t0.kind == s_minus) = false := by rw [hb]; decide
    repeat' ((conv => whnf); first | ((with_reducible show Gd (bs _ == _) _ _); first | refine Gd.sY (by assumption) ?_ | refine Gd.sk (by assumption) ?_ | refine Gd.sN (by assumption) ?_) | ((conv => whnf); first | (((with_reducible show Gd _ _ _); first | with_reducible refine Gd.t ?_ | with_reducible refine Gd.f ?_ | with_reducible refine Gd.dec (fun _ => ?_) (fun _ => ?_) | with_reducible refine Gd.beq (fun _ => ?_) (fun _ => ?_) | with_reducible refine Gd.bne (fun _ => ?_) (fun _ => ?_) | with_reducible refine Gd.not ?_ | refine Gd.t ?_ | refine Gd.f ?_ | with_reducible refine Gd.var (fun _ => ?_) (fun _ => ?_)) <;> first | (exfalso; omega) | skip) | with_reducible refine Sq.mk ?_ | ((with_reducible show Ld1 _ _ _); first | refine Ld1.h H ?_ | refine Ld1.rF ?_ | refine Ld1.r ?_) | ((with_reducible show Ld _ _ _ _); first | refine Ld.h H ?_ | refine Ld.r ?_) | ((with_reducible show Ix _ _ _ _ _); (first | refine Ix.h ?_ | refine Ix.ha ?_)) | (refine Al.hp H ?_; clear H; intro _ _ H _) | (refine St.h H ?_; clear H; intro _ H)) | refine Sm.strix T.ok ?_)
    (replace H := Hp.toR H hn0 hr0)
    (((conv => whnf); refine Cl.mkX (deep_c _ src pr (t0 :: r0) (d + 1) hwd _ (H.atC 1 rfl)) ?_ ?_; rotate_left; (rintro ch w9 ⟨e9, p9, q9, h9, rfl, H'⟩; exact ⟨e9, p9, q9, (by rw [hR, h9]; rfl), rfl, Hp.pan H H' (.inl rfl)⟩)); rintro _ w8 ⟨h1, ex⟩; replace H := H.ext ex; clear ex; have hd40 := deep_le h1; rw [h1, Res.bind_ok] at hR; clear h1)
    have hd41 : d + 1 ≤ 41 := by omega
    replace hR : R = (stepP (t0.kind == s_minus) (t0 :: r0)).bind fun _ ts1 => if t0.kind = s_minus ∧ curK ts1 = k_number then (stepP false ts1).bind fun _ ts2 => .ok (.mk 0 0 (curT ts1).n [] [] []) ts2 else (F.unary (d + 1) ts1).bind fun e ts2 => .ok (.mk (if t0.kind = s_bang then 3 else 2) 0 0 [] [] [e]) ts2 := hR
    rw [show stepP (t0.kind == s_minus) (t0 :: r0) = stepP (bs t0.kind == (⟨#[45]⟩ : ByteArray)) (t0 :: r0) by rw [hcm, hbm]] at hR
    repeat' ((conv => whnf); first | ((with_reducible show Gd (bs _ == _) _ _); first | refine Gd.sY (by assumption) ?_ | refine Gd.sk (by assumption) ?_ | refine Gd.sN (by assumption) ?_) | ((conv => whnf); first | (((with_reducible show Gd _ _ _); first | with_reducible refine Gd.t ?_ | with_reducible refine Gd.f ?_ | with_reducible refine Gd.dec (fun _ => ?_) (fun _ => ?_) | with_reducible refine Gd.beq (fun _ => ?_) (fun _ => ?_) | with_reducible refine Gd.bne (fun _ => ?_) (fun _ => ?_) | with_reducible refine Gd.not ?_ | refine Gd.t ?_ | refine Gd.f ?_ | with_reducible refine Gd.var (fun _ => ?_) (fun _ => ?_)) <;> first | (exfalso; omega) | skip) | with_reducible refine Sq.mk ?_ | ((with_reducible show Ld1 _ _ _); first | refine Ld1.h H ?_ | refine Ld1.rF ?_ | refine Ld1.r ?_) | ((with_reducible show Ld _ _ _ _); first | refine Ld.h H ?_ | refine Ld.r ?_) | ((with_reducible show Ix _ _ _ _ _); (first | refine Ix.h ?_ | refine Ix.ha ?_)) | (refine Al.hp H ?_; clear H; intro _ _ H _) | (refine St.h H ?_; clear H; intro _ H)) | refine Sm.strix T.ok ?_)
    (((conv => whnf); refine Cl.mkX (step_c _ src pr (t0 :: r0) wb _ (H.base2 HB) X.lo X.tb X.len (H.atC 1 rfl) hend) ?_ ?_; rotate_left; (rintro ch w9 ⟨e9, p9, q9, h9, rfl, H'⟩; exact ⟨e9, p9, q9, (by rw [hR, h9]; rfl), rfl, Hp.pan H H' (.inl rfl)⟩)); rintro _ w8 ⟨ts1, h1, H'⟩; replace H := H.upd (c := rdr src pr (t0 :: r0)) H' rfl (.inl rfl); clear H'; rw [h1, Res.bind_ok] at hR; clear h1)
    rw [if_neg (show ¬ (t0.kind = s_minus ∧ curK ts1 = k_number) from fun e => hm e.1), if_pos hb] at hR
    repeat' ((conv => whnf); first | ((with_reducible show Gd (bs _ == _) _ _); first | refine Gd.sY (by assumption) ?_ | refine Gd.sk (by assumption) ?_ | refine Gd.sN (by assumption) ?_) | ((conv => whnf); first | (((with_reducible show Gd _ _ _); first | with_reducible refine Gd.t ?_ | with_reducible refine Gd.f ?_ | with_reducible refine Gd.dec (fun _ => ?_) (fun _ => ?_) | with_reducible refine Gd.beq (fun _ => ?_) (fun _ => ?_) | with_reducible refine Gd.bne (fun _ => ?_) (fun _ => ?_) | with_reducible refine Gd.not ?_ | refine Gd.t ?_ | refine Gd.f ?_ | with_reducible refine Gd.var (fun _ => ?_) (fun _ => ?_)) <;> first | (exfalso; omega) | skip) | with_reducible refine Sq.mk ?_ | ((with_reducible show Ld1 _ _ _); first | refine Ld1.h H ?_ | refine Ld1.rF ?_ | refine Ld1.r ?_) | ((with_reducible show Ld _ _ _ _); first | refine Ld.h H ?_ | refine Ld.r ?_) | ((with_reducible show Ix _ _ _ _ _); (first | refine Ix.h ?_ | refine Ix.ha ?_)) | (refine Al.hp H ?_; clear H; intro _ _ H _) | (refine St.h H ?_; clear H; intro _ H)) | refine Sm.strix T.ok ?_)
    replace hR : R = (F.unary (d + 1) ts1).bind fun e ts2 => .ok (.mk 3 0 0 [] [] [e]) ts2 := hR
    ((conv => whnf); refine Cl.mkX (hun ts1 _ hd41 (H.base2 HB) (H.atC 1 rfl) (Res.bind_out (by rw [← hR]; exact hne))) ?_ ?_; rotate_left; (rintro ch w9 ⟨e9, p9, q9, h9, rfl, H'⟩; exact ⟨e9, p9, q9, (by rw [hR, h9]; rfl), rfl, Hp.pan H H' (.inl rfl)⟩))
    rintro _ w3 ⟨⟨kd, o, n, nm, cb, A2, c2, l2⟩, ts2, h2, rfl, H'⟩
    replace H := H.updn (c := rdr src pr ts1) (Hp.swap H') rfl (.inl rfl) (.inl rfl)
    clear H'
    rw [h2, Res.bind_ok] at hR
    refine Sm.lith (cs := ET.enc (.mk kd o n nm cb A2 c2 l2)) H T.ok (fun p5 w4 H _ => ?_)
    repeat' ((conv => whnf); first | ((with_reducible show Gd (bs _ == _) _ _); first | refine Gd.sY (by assumption) ?_ | refine Gd.sk (by assumption) ?_ | refine Gd.sN (by assumption) ?_) | ((conv => whnf); first | (((with_reducible show Gd _ _ _); first | with_reducible refine Gd.t ?_ | with_reducible refine Gd.f ?_ | with_reducible refine Gd.dec (fun _ => ?_) (fun _ => ?_) | with_reducible refine Gd.beq (fun _ => ?_) (fun _ => ?_) | with_reducible refine Gd.bne (fun _ => ?_) (fun _ => ?_) | with_reducible refine Gd.not ?_ | refine Gd.t ?_ | refine Gd.f ?_ | with_reducible refine Gd.var (fun _ => ?_) (fun _ => ?_)) <;> first | (exfalso; omega) | skip) | with_reducible refine Sq.mk ?_ | ((with_reducible show Ld1 _ _ _); first | refine Ld1.h H ?_ | refine Ld1.rF ?_ | refine Ld1.r ?_) | ((with_reducible show Ld _ _ _ _); first | refine Ld.h H ?_ | refine Ld.r ?_) | ((with_reducible show Ix _ _ _ _ _); (first | refine Ix.h ?_ | refine Ix.ha ?_)) | (refine Al.hp H ?_; clear H; intro _ _ H _) | (refine St.h H ?_; clear H; intro _ H)) | refine Sm.strix T.ok ?_)
    refine ⟨.mk 3 0 0 [] [] (some ⟨p5, 0, none⟩) 1 [.mk kd o n nm cb A2 c2 l2], ts2, hR, et_v rfl, ?_⟩
    exact hfin _ p5 3 _ _ (H.sel [0, 0, 1] rfl)
end
end Go.Proofs.YtapdmkgdiaechaaDoor
namespace Go.Proofs.YtapdmkgdiaechaaDoor
open Go Go.Sh Go.Tx
set_option linter.unusedVariables false
set_option linter.unusedSimpArgs false
set_option linter.unusedSectionVars false
attribute [local irreducible] Blk Ext RdS
theorem neg_w {n : Int} (h1 : -9223372036854775808 ≤ n) (h2 : n ≤ 0) : IntKind.i64.wrap (0 - n) = negW n := by
  unfold negW
  by_cases h : n = -9223372036854775808
  · rw [if_pos h, h]; rfl
  · rw [if_neg h]
    simp [IntKind.wrap, IntKind.signed, IntKind.bits]
    omega
section
variable {src : Bs} {pr : Nat} {wb : World} {F : PF} (X : Txt src pr wb) (C : Con src pr wb F)
include X C
set_option maxHeartbeats 4000000 in
theorem primary_c (d : Nat) (ts : List Tk) (w : World) (hd : d ≤ 41) (hwb : Ext wb w) (h : Rdr src pr ts w) (hne : primaryP F d ts ≠ .out) :
    Cl Tryd.prog 56 #[.pointer (some ⟨pr, 0, none⟩), .int .i64 (d : Int)] w (OkE src pr (primaryP F d ts) w) (PanX (primaryP F d ts) pr w) := by
  have HB := X.ok hwb
  have hwd : IntKind.i64.wrap ((d : Int) + 1) = ((d + 1 : Nat) : Int) := w64 rfl (by omega) (by omega)
  obtain ⟨R, hR⟩ : ∃ R, R = primaryP F d ts := ⟨_, rfl⟩
  rw [← hR] at hne ⊢
  unfold primaryP at hR
  refine calls_ex (args := [.pointer (some ⟨pr, 0, none⟩), .int .i64 (d : Int)]) T.ok Tryd.func56 rfl rfl rfl rfl ?_
  have H := Hp.start (S := (· = pr)) (rdr_ok h) (fun k hk => hk)
  clear h
  refine Sq.mk ?_
  ((conv => whnf); refine Al.hp H ?_; clear H; intro p4 _ H _)
  (obtain ⟨nx, t0, r0, rfl, hn0, hr0, hb0⟩ := H.atC (c := rdr src pr ts) 1 rfl; replace H := Hp.ofR H hb0; clear hb0)
  rw [curK_cons] at hR
  have hng := neg_w hr0.2.2.1 hr0.2.2.2
  repeat' ((conv => whnf); first | ((with_reducible show Gd (bs _ == _) _ _); first | refine Gd.sY (by assumption) ?_ | refine Gd.sk (by assumption) ?_ | refine Gd.sN (by assumption) ?_) | ((conv => whnf); first | (((with_reducible show Gd _ _ _); first | with_reducible refine Gd.t ?_ | with_reducible refine Gd.f ?_ | with_reducible refine Gd.dec (fun _ => ?_) (fun _ => ?_) | with_reducible refine Gd.beq (fun _ => ?_) (fun _ => ?_) | with_reducible refine Gd.bne (fun _ => ?_) (fun _ => ?_) | with_reducible refine Gd.not ?_ | refine Gd.t ?_ | refine Gd.f ?_ | with_reducible refine Gd.var (fun _ => ?_) (fun _ => ?_)) <;> first | (exfalso; omega) | skip) | with_reducible refine Sq.mk ?_ | ((with_reducible show Ld1 _ _ _); first | refine Ld1.h H ?_ | refine Ld1.rF ?_ | refine Ld1.r ?_) | ((with_reducible show Ld _ _ _ _); first | refine Ld.h H ?_ | refine Ld.r ?_) | ((with_reducible show Ix _ _ _ _ _); (first | refine Ix.h ?_ | refine Ix.ha ?_)) | (refine St.h H ?_; clear H; intro _ H)) | refine Sm.strix T.ok ?_)
  ((conv => whnf); refine Al.hp H ?_; clear H; intro p5 _ H _)
  have hex := fun ts w => C.expr 0 (d + 1) ts w
  rw [← hwd] at hex
  by_cases c1 : t0.kind = k_number
  · rw [if_pos c1] at hR
    repeat' ((conv => whnf); first | ((with_reducible show Gd (bs _ == _) _ _); first | refine Gd.sY (by assumption) ?_ | refine Gd.sk (by assumption) ?_ | refine Gd.sN (by assumption) ?_) | ((conv => whnf); first | (((with_reducible show Gd _ _ _); first | with_reducible refine Gd.t ?_ | with_reducible refine Gd.f ?_ | with_reducible refine Gd.dec (fun _ => ?_) (fun _ => ?_) | with_reducible refine Gd.beq (fun _ => ?_) (fun _ => ?_) | with_reducible refine Gd.bne (fun _ => ?_) (fun _ => ?_) | with_reducible refine Gd.not ?_ | refine Gd.t ?_ | refine Gd.f ?_ | with_reducible refine Gd.var (fun _ => ?_) (fun _ => ?_)) <;> first | (exfalso; omega) | skip) | with_reducible refine Sq.mk ?_ | ((with_reducible show Ld1 _ _ _); first | refine Ld1.h H ?_ | refine Ld1.rF ?_ | refine Ld1.r ?_) | ((with_reducible show Ld _ _ _ _); first | refine Ld.h H ?_ | refine Ld.r ?_) | ((with_reducible show Ix _ _ _ _ _); (first | refine Ix.h ?_ | refine Ix.ha ?_)) | (refine Al.hp H ?_; clear H; intro _ _ H _) | (refine St.h H ?_; clear H; intro _ H)) | refine Sm.strix T.ok ?_)
    (replace H := Hp.toR H hn0 hr0)
    (((conv => whnf); refine Cl.mkX (step_c _ src pr (t0 :: r0) wb _ (H.base2 HB) X.lo X.tb X.len (H.atC 2 rfl) (by rw [curK_cons, c1]; decide)) ?_ ?_; rotate_left; (rintro ch w9 ⟨e9, p9, q9, h9, rfl, H'⟩; exact ⟨e9, p9, q9, (by rw [hR, h9]; rfl), rfl, Hp.pan H H' (.inl rfl)⟩)); rintro _ w8 ⟨ts1, h1, H'⟩; replace H := H.upd (c := rdr src pr (t0 :: r0)) H' rfl (.inl rfl); clear H'; rw [h1, Res.bind_ok] at hR; clear h1)
    repeat' ((conv => whnf); first | ((with_reducible show Gd (bs _ == _) _ _); first | refine Gd.sY (by assumption) ?_ | refine Gd.sk (by assumption) ?_ | refine Gd.sN (by assumption) ?_) | ((conv => whnf); first | (((with_reducible show Gd _ _ _); first | with_reducible refine Gd.t ?_ | with_reducible refine Gd.f ?_ | with_reducible refine Gd.dec (fun _ => ?_) (fun _ => ?_) | with_reducible refine Gd.beq (fun _ => ?_) (fun _ => ?_) | with_reducible refine Gd.bne (fun _ => ?_) (fun _ => ?_) | with_reducible refine Gd.not ?_ | refine Gd.t ?_ | refine Gd.f ?_ | with_reducible refine Gd.var (fun _ => ?_) (fun _ => ?_)) <;> first | (exfalso; omega) | skip) | with_reducible refine Sq.mk ?_ | ((with_reducible show Ld1 _ _ _); first | refine Ld1.h H ?_ | refine Ld1.rF ?_ | refine Ld1.r ?_) | ((with_reducible show Ld _ _ _ _); first | refine Ld.h H ?_ | refine Ld.r ?_) | ((with_reducible show Ix _ _ _ _ _); (first | refine Ix.h ?_ | refine Ix.ha ?_)) | (refine Al.hp H ?_; clear H; intro _ _ H _) | (refine St.h H ?_; clear H; intro _ H)) | refine Sm.strix T.ok ?_)
    exact ⟨.mk 0 0 (negW t0.n) [] [] none 0 [], ts1, hR, et_v (by rw [← hng]; rfl), Hp.trsZ 0 0 (negW t0.n) [] [] (H.sel [2] rfl)⟩
  rw [if_neg c1] at hR
  by_cases c2 : t0.kind = k_name
  · rw [if_pos c2] at hR
    repeat' ((conv => whnf); first | ((with_reducible show Gd (bs _ == _) _ _); first | refine Gd.sY (by assumption) ?_ | refine Gd.sk (by assumption) ?_ | refine Gd.sN (by assumption) ?_) | ((conv => whnf); first | (((with_reducible show Gd _ _ _); first | with_reducible refine Gd.t ?_ | with_reducible refine Gd.f ?_ | with_reducible refine Gd.dec (fun _ => ?_) (fun _ => ?_) | with_reducible refine Gd.beq (fun _ => ?_) (fun _ => ?_) | with_reducible refine Gd.bne (fun _ => ?_) (fun _ => ?_) | with_reducible refine Gd.not ?_ | refine Gd.t ?_ | refine Gd.f ?_ | with_reducible refine Gd.var (fun _ => ?_) (fun _ => ?_)) <;> first | (exfalso; omega) | skip) | with_reducible refine Sq.mk ?_ | ((with_reducible show Ld1 _ _ _); first | refine Ld1.h H ?_ | refine Ld1.rF ?_ | refine Ld1.r ?_) | ((with_reducible show Ld _ _ _ _); first | refine Ld.h H ?_ | refine Ld.r ?_) | ((with_reducible show Ix _ _ _ _ _); (first | refine Ix.h ?_ | refine Ix.ha ?_)) | (refine Al.hp H ?_; clear H; intro _ _ H _) | (refine St.h H ?_; clear H; intro _ H)) | refine Sm.strix T.ok ?_)
    (replace H := Hp.toR H hn0 hr0)
    (((conv => whnf); refine Cl.mkX (step_c _ src pr (t0 :: r0) wb _ (H.base2 HB) X.lo X.tb X.len (H.atC 2 rfl) (by rw [curK_cons, c2]; decide)) ?_ ?_; rotate_left; (rintro ch w9 ⟨e9, p9, q9, h9, rfl, H'⟩; exact ⟨e9, p9, q9, (by rw [hR, h9]; rfl), rfl, Hp.pan H H' (.inl rfl)⟩)); rintro _ w8 ⟨ts1, h1, H'⟩; replace H := H.upd (c := rdr src pr (t0 :: r0)) H' rfl (.inl rfl); clear H'; rw [h1, Res.bind_ok] at hR; clear h1)
    (obtain ⟨nx1, t1, r1, rfl, hn1, hr1, hb0⟩ := H.atC (c := rdr src pr ts1) 2 rfl; replace H := Hp.ofR H hb0; clear hb0)
    by_cases hl : t1.kind = s_lp
    · rw [if_neg (show ¬ curK (t1 :: r1) ≠ s_lp from fun e => e hl)] at hR
      repeat' ((conv => whnf); first | ((with_reducible show Gd (bs _ == _) _ _); first | refine Gd.sY (by assumption) ?_ | refine Gd.sk (by assumption) ?_ | refine Gd.sN (by assumption) ?_) | ((conv => whnf); first | (((with_reducible show Gd _ _ _); first | with_reducible refine Gd.t ?_ | with_reducible refine Gd.f ?_ | with_reducible refine Gd.dec (fun _ => ?_) (fun _ => ?_) | with_reducible refine Gd.beq (fun _ => ?_) (fun _ => ?_) | with_reducible refine Gd.bne (fun _ => ?_) (fun _ => ?_) | with_reducible refine Gd.not ?_ | refine Gd.t ?_ | refine Gd.f ?_ | with_reducible refine Gd.var (fun _ => ?_) (fun _ => ?_)) <;> first | (exfalso; omega) | skip) | with_reducible refine Sq.mk ?_ | ((with_reducible show Ld1 _ _ _); first | refine Ld1.h H ?_ | refine Ld1.rF ?_ | refine Ld1.r ?_) | ((with_reducible show Ld _ _ _ _); first | refine Ld.h H ?_ | refine Ld.r ?_) | ((with_reducible show Ix _ _ _ _ _); (first | refine Ix.h ?_ | refine Ix.ha ?_)) | (refine Al.hp H ?_; clear H; intro _ _ H _) | (refine St.h H ?_; clear H; intro _ H)) | refine Sm.strix T.ok ?_)
      (replace H := Hp.toR H hn1 hr1)
      (((conv => whnf); refine Cl.mkX (deep_c _ src pr (t1 :: r1) (d + 1) hwd _ (H.atC 2 rfl)) ?_ ?_; rotate_left; (rintro ch w9 ⟨e9, p9, q9, h9, rfl, H'⟩; exact ⟨e9, p9, q9, (by rw [hR, h9]; rfl), rfl, Hp.pan H H' (.inl rfl)⟩)); rintro _ w8 ⟨h1, ex⟩; replace H := H.ext ex; clear ex; have hd40 := deep_le h1; rw [h1, Res.bind_ok] at hR; clear h1)
      repeat' ((conv => whnf); first | ((with_reducible show Gd (bs _ == _) _ _); first | refine Gd.sY (by assumption) ?_ | refine Gd.sk (by assumption) ?_ | refine Gd.sN (by assumption) ?_) | ((conv => whnf); first | (((with_reducible show Gd _ _ _); first | with_reducible refine Gd.t ?_ | with_reducible refine Gd.f ?_ | with_reducible refine Gd.dec (fun _ => ?_) (fun _ => ?_) | with_reducible refine Gd.beq (fun _ => ?_) (fun _ => ?_) | with_reducible refine Gd.bne (fun _ => ?_) (fun _ => ?_) | with_reducible refine Gd.not ?_ | refine Gd.t ?_ | refine Gd.f ?_ | with_reducible refine Gd.var (fun _ => ?_) (fun _ => ?_)) <;> first | (exfalso; omega) | skip) | with_reducible refine Sq.mk ?_ | ((with_reducible show Ld1 _ _ _); first | refine Ld1.h H ?_ | refine Ld1.rF ?_ | refine Ld1.r ?_) | ((with_reducible show Ld _ _ _ _); first | refine Ld.h H ?_ | refine Ld.r ?_) | ((with_reducible show Ix _ _ _ _ _); (first | refine Ix.h ?_ | refine Ix.ha ?_)) | (refine Al.hp H ?_; clear H; intro _ _ H _) | (refine St.h H ?_; clear H; intro _ H)) | refine Sm.strix T.ok ?_)
      (((conv => whnf); refine Cl.mkX (step_c _ src pr (t1 :: r1) wb _ (H.base2 HB) X.lo X.tb X.len (H.atC 2 rfl) (by rw [curK_cons, hl]; decide)) ?_ ?_; rotate_left; (rintro ch w9 ⟨e9, p9, q9, h9, rfl, H'⟩; exact ⟨e9, p9, q9, (by rw [hR, h9]; rfl), rfl, Hp.pan H H' (.inl rfl)⟩)); rintro _ w8 ⟨ts2, h1, H'⟩; replace H := H.upd (c := rdr src pr (t1 :: r1)) H' rfl (.inl rfl); clear H'; rw [h1, Res.bind_ok] at hR; clear h1)
      have harg := fun ts w => args_c X C (d + 1) ts w (by omega)
      rw [← hwd] at harg
      repeat' ((conv => whnf); first | ((with_reducible show Gd (bs _ == _) _ _); first | refine Gd.sY (by assumption) ?_ | refine Gd.sk (by assumption) ?_ | refine Gd.sN (by assumption) ?_) | ((conv => whnf); first | (((with_reducible show Gd _ _ _); first | with_reducible refine Gd.t ?_ | with_reducible refine Gd.f ?_ | with_reducible refine Gd.dec (fun _ => ?_) (fun _ => ?_) | with_reducible refine Gd.beq (fun _ => ?_) (fun _ => ?_) | with_reducible refine Gd.bne (fun _ => ?_) (fun _ => ?_) | with_reducible refine Gd.not ?_ | refine Gd.t ?_ | refine Gd.f ?_ | with_reducible refine Gd.var (fun _ => ?_) (fun _ => ?_)) <;> first | (exfalso; omega) | skip) | with_reducible refine Sq.mk ?_ | ((with_reducible show Ld1 _ _ _); first | refine Ld1.h H ?_ | refine Ld1.rF ?_ | refine Ld1.r ?_) | ((with_reducible show Ld _ _ _ _); first | refine Ld.h H ?_ | refine Ld.r ?_) | ((with_reducible show Ix _ _ _ _ _); (first | refine Ix.h ?_ | refine Ix.ha ?_)) | (refine Al.hp H ?_; clear H; intro _ _ H _) | (refine St.h H ?_; clear H; intro _ H)) | refine Sm.strix T.ok ?_)
      (conv => whnf)
      refine Dr.chX T.ok mixed [0, 1, 2, 3, 4] [5, 6, 7] (by kernel_rfl) rfl rfl (fun w' => Blk w' p5 60 (wordCs t0)) (PanX R pr w) (fun ch F' w' hds h => by (conv => whnf); rw [show F'.ds = [] from hds]; exact h) (fun w1 eT _ => ?_)
      replace H := H.ext eT
      repeat' ((conv => whnf); refine QLd1.own (fun _ hw => hw) ?_)
      (conv => whnf)
      refine ⟨H.blk 0 rfl, ?_⟩
      ((conv => whnf); refine Cl.mkX (harg ts2 _ (H.base2 HB) (H.atC 2 rfl) (Res.bind_out (by rw [← hR]; exact hne))) ?_ ?_; rotate_left; (rintro ch w9 ⟨e9, p9, q9, h9, rfl, H'⟩; exact ⟨e9, p9, q9, (by rw [hR, h9]; rfl), rfl, Hp.pan H H' (.inl rfl)⟩))
      rintro _ w3 ⟨A, c, l, ts3, h2, rfl, hlen, H'⟩
      replace H' := Hp.trsN 5 0 0 t0.text [] H'
      replace H := H.updn (c := rdr src pr ts2) (Hp.swap H') rfl (.inl rfl) (.inl rfl)
      clear H'
      rw [h2, Res.bind_ok] at hR
      (conv => whnf)
      refine ⟨H.blk 1 rfl, ?_⟩
      repeat' (first | refine ⟨H.blk 1 rfl, ?_⟩ | ((conv => whnf); first | ((with_reducible show Gd (bs _ == _) _ _); first | refine Gd.sY (by assumption) ?_ | refine Gd.sk (by assumption) ?_ | refine Gd.sN (by assumption) ?_) | ((conv => whnf); first | (((with_reducible show Gd _ _ _); first | with_reducible refine Gd.t ?_ | with_reducible refine Gd.f ?_ | with_reducible refine Gd.dec (fun _ => ?_) (fun _ => ?_) | with_reducible refine Gd.beq (fun _ => ?_) (fun _ => ?_) | with_reducible refine Gd.bne (fun _ => ?_) (fun _ => ?_) | with_reducible refine Gd.not ?_ | refine Gd.t ?_ | refine Gd.f ?_ | with_reducible refine Gd.var (fun _ => ?_) (fun _ => ?_)) <;> first | (exfalso; omega) | skip) | with_reducible refine Sq.mk ?_ | ((with_reducible show Ld1 _ _ _); first | refine Ld1.h H ?_ | refine Ld1.rF ?_ | refine Ld1.r ?_) | ((with_reducible show Ld _ _ _ _); first | refine Ld.h H ?_ | refine Ld.r ?_) | ((with_reducible show Ix _ _ _ _ _); (first | refine Ix.h ?_ | refine Ix.ha ?_)) | (refine Al.hp H ?_; clear H; intro _ _ H _) | (refine St.h H ?_; clear H; intro _ H)) | refine Sm.strix T.ok ?_))
      exact ⟨.mk 5 0 0 t0.text [] A c l, ts3, hR, et_v rfl, H.sel [0, 2] rfl⟩
    · rw [if_pos (show curK (t1 :: r1) ≠ s_lp from hl)] at hR
      repeat' ((conv => whnf); first | ((with_reducible show Gd (bs _ == _) _ _); first | refine Gd.sY (by assumption) ?_ | refine Gd.sk (by assumption) ?_ | refine Gd.sN (by assumption) ?_) | ((conv => whnf); first | (((with_reducible show Gd _ _ _); first | with_reducible refine Gd.t ?_ | with_reducible refine Gd.f ?_ | with_reducible refine Gd.dec (fun _ => ?_) (fun _ => ?_) | with_reducible refine Gd.beq (fun _ => ?_) (fun _ => ?_) | with_reducible refine Gd.bne (fun _ => ?_) (fun _ => ?_) | with_reducible refine Gd.not ?_ | refine Gd.t ?_ | refine Gd.f ?_ | with_reducible refine Gd.var (fun _ => ?_) (fun _ => ?_)) <;> first | (exfalso; omega) | skip) | with_reducible refine Sq.mk ?_ | ((with_reducible show Ld1 _ _ _); first | refine Ld1.h H ?_ | refine Ld1.rF ?_ | refine Ld1.r ?_) | ((with_reducible show Ld _ _ _ _); first | refine Ld.h H ?_ | refine Ld.r ?_) | ((with_reducible show Ix _ _ _ _ _); (first | refine Ix.h ?_ | refine Ix.ha ?_)) | (refine Al.hp H ?_; clear H; intro _ _ H _) | (refine St.h H ?_; clear H; intro _ H)) | refine Sm.strix T.ok ?_)
      (replace H := Hp.toR H hn1 hr1)
      exact ⟨.mk 1 0 0 t0.text [] none 0 [], t1 :: r1, hR, et_v rfl, Hp.trsZ 1 0 0 t0.text [] (H.sel [2] rfl)⟩
  rw [if_neg c2] at hR
  by_cases c3 : t0.kind = s_lp
  · rw [if_pos c3] at hR
    repeat' ((conv => whnf); first | ((with_reducible show Gd (bs _ == _) _ _); first | refine Gd.sY (by assumption) ?_ | refine Gd.sk (by assumption) ?_ | refine Gd.sN (by assumption) ?_) | ((conv => whnf); first | (((with_reducible show Gd _ _ _); first | with_reducible refine Gd.t ?_ | with_reducible refine Gd.f ?_ | with_reducible refine Gd.dec (fun _ => ?_) (fun _ => ?_) | with_reducible refine Gd.beq (fun _ => ?_) (fun _ => ?_) | with_reducible refine Gd.bne (fun _ => ?_) (fun _ => ?_) | with_reducible refine Gd.not ?_ | refine Gd.t ?_ | refine Gd.f ?_ | with_reducible refine Gd.var (fun _ => ?_) (fun _ => ?_)) <;> first | (exfalso; omega) | skip) | with_reducible refine Sq.mk ?_ | ((with_reducible show Ld1 _ _ _); first | refine Ld1.h H ?_ | refine Ld1.rF ?_ | refine Ld1.r ?_) | ((with_reducible show Ld _ _ _ _); first | refine Ld.h H ?_ | refine Ld.r ?_) | ((with_reducible show Ix _ _ _ _ _); (first | refine Ix.h ?_ | refine Ix.ha ?_)) | (refine Al.hp H ?_; clear H; intro _ _ H _) | (refine St.h H ?_; clear H; intro _ H)) | refine Sm.strix T.ok ?_)
    (replace H := Hp.toR H hn0 hr0)
    (((conv => whnf); refine Cl.mkX (deep_c _ src pr (t0 :: r0) (d + 1) hwd _ (H.atC 2 rfl)) ?_ ?_; rotate_left; (rintro ch w9 ⟨e9, p9, q9, h9, rfl, H'⟩; exact ⟨e9, p9, q9, (by rw [hR, h9]; rfl), rfl, Hp.pan H H' (.inl rfl)⟩)); rintro _ w8 ⟨h1, ex⟩; replace H := H.ext ex; clear ex; have hd40 := deep_le h1; rw [h1, Res.bind_ok] at hR; clear h1)
    repeat' ((conv => whnf); first | ((with_reducible show Gd (bs _ == _) _ _); first | refine Gd.sY (by assumption) ?_ | refine Gd.sk (by assumption) ?_ | refine Gd.sN (by assumption) ?_) | ((conv => whnf); first | (((with_reducible show Gd _ _ _); first | with_reducible refine Gd.t ?_ | with_reducible refine Gd.f ?_ | with_reducible refine Gd.dec (fun _ => ?_) (fun _ => ?_) | with_reducible refine Gd.beq (fun _ => ?_) (fun _ => ?_) | with_reducible refine Gd.bne (fun _ => ?_) (fun _ => ?_) | with_reducible refine Gd.not ?_ | refine Gd.t ?_ | refine Gd.f ?_ | with_reducible refine Gd.var (fun _ => ?_) (fun _ => ?_)) <;> first | (exfalso; omega) | skip) | with_reducible refine Sq.mk ?_ | ((with_reducible show Ld1 _ _ _); first | refine Ld1.h H ?_ | refine Ld1.rF ?_ | refine Ld1.r ?_) | ((with_reducible show Ld _ _ _ _); first | refine Ld.h H ?_ | refine Ld.r ?_) | ((with_reducible show Ix _ _ _ _ _); (first | refine Ix.h ?_ | refine Ix.ha ?_)) | (refine Al.hp H ?_; clear H; intro _ _ H _) | (refine St.h H ?_; clear H; intro _ H)) | refine Sm.strix T.ok ?_)
    (((conv => whnf); refine Cl.mkX (step_c _ src pr (t0 :: r0) wb _ (H.base2 HB) X.lo X.tb X.len (H.atC 2 rfl) (by rw [curK_cons, c3]; decide)) ?_ ?_; rotate_left; (rintro ch w9 ⟨e9, p9, q9, h9, rfl, H'⟩; exact ⟨e9, p9, q9, (by rw [hR, h9]; rfl), rfl, Hp.pan H H' (.inl rfl)⟩)); rintro _ w8 ⟨ts1, h1, H'⟩; replace H := H.upd (c := rdr src pr (t0 :: r0)) H' rfl (.inl rfl); clear H'; rw [h1, Res.bind_ok] at hR; clear h1)
    repeat' ((conv => whnf); first | ((with_reducible show Gd (bs _ == _) _ _); first | refine Gd.sY (by assumption) ?_ | refine Gd.sk (by assumption) ?_ | refine Gd.sN (by assumption) ?_) | ((conv => whnf); first | (((with_reducible show Gd _ _ _); first | with_reducible refine Gd.t ?_ | with_reducible refine Gd.f ?_ | with_reducible refine Gd.dec (fun _ => ?_) (fun _ => ?_) | with_reducible refine Gd.beq (fun _ => ?_) (fun _ => ?_) | with_reducible refine Gd.bne (fun _ => ?_) (fun _ => ?_) | with_reducible refine Gd.not ?_ | refine Gd.t ?_ | refine Gd.f ?_ | with_reducible refine Gd.var (fun _ => ?_) (fun _ => ?_)) <;> first | (exfalso; omega) | skip) | with_reducible refine Sq.mk ?_ | ((with_reducible show Ld1 _ _ _); first | refine Ld1.h H ?_ | refine Ld1.rF ?_ | refine Ld1.r ?_) | ((with_reducible show Ld _ _ _ _); first | refine Ld.h H ?_ | refine Ld.r ?_) | ((with_reducible show Ix _ _ _ _ _); (first | refine Ix.h ?_ | refine Ix.ha ?_)) | (refine Al.hp H ?_; clear H; intro _ _ H _) | (refine St.h H ?_; clear H; intro _ H)) | refine Sm.strix T.ok ?_)
    ((conv => whnf); refine Cl.mkX (hex ts1 _ (by omega) (by omega) (H.base2 HB) (H.atC 2 rfl) (Res.bind_out (by rw [← hR]; exact hne))) ?_ ?_; rotate_left; (rintro ch w9 ⟨e9, p9, q9, h9, rfl, H'⟩; exact ⟨e9, p9, q9, (by rw [hR, h9]; rfl), rfl, Hp.pan H H' (.inl rfl)⟩))
    rintro _ w3 ⟨⟨kd, o, n, nm, cb, A2, c2, l2⟩, ts2, h2, rfl, H'⟩
    replace H := H.updn (c := rdr src pr ts1) (Hp.swap H') rfl (.inl rfl) (.inl rfl)
    clear H'
    rw [h2, Res.bind_ok] at hR
    repeat' ((conv => whnf); first | ((with_reducible show Gd (bs _ == _) _ _); first | refine Gd.sY (by assumption) ?_ | refine Gd.sk (by assumption) ?_ | refine Gd.sN (by assumption) ?_) | ((conv => whnf); first | (((with_reducible show Gd _ _ _); first | with_reducible refine Gd.t ?_ | with_reducible refine Gd.f ?_ | with_reducible refine Gd.dec (fun _ => ?_) (fun _ => ?_) | with_reducible refine Gd.beq (fun _ => ?_) (fun _ => ?_) | with_reducible refine Gd.bne (fun _ => ?_) (fun _ => ?_) | with_reducible refine Gd.not ?_ | refine Gd.t ?_ | refine Gd.f ?_ | with_reducible refine Gd.var (fun _ => ?_) (fun _ => ?_)) <;> first | (exfalso; omega) | skip) | with_reducible refine Sq.mk ?_ | ((with_reducible show Ld1 _ _ _); first | refine Ld1.h H ?_ | refine Ld1.rF ?_ | refine Ld1.r ?_) | ((with_reducible show Ld _ _ _ _); first | refine Ld.h H ?_ | refine Ld.r ?_) | ((with_reducible show Ix _ _ _ _ _); (first | refine Ix.h ?_ | refine Ix.ha ?_)) | (refine St.h H ?_; clear H; intro _ H)) | refine Sm.strix T.ok ?_)
    ((conv => whnf); refine Al.hp H ?_; clear H; intro p6 _ H _)
    repeat' ((conv => whnf); first | ((with_reducible show Gd (bs _ == _) _ _); first | refine Gd.sY (by assumption) ?_ | refine Gd.sk (by assumption) ?_ | refine Gd.sN (by assumption) ?_) | ((conv => whnf); first | (((with_reducible show Gd _ _ _); first | with_reducible refine Gd.t ?_ | with_reducible refine Gd.f ?_ | with_reducible refine Gd.dec (fun _ => ?_) (fun _ => ?_) | with_reducible refine Gd.beq (fun _ => ?_) (fun _ => ?_) | with_reducible refine Gd.bne (fun _ => ?_) (fun _ => ?_) | with_reducible refine Gd.not ?_ | refine Gd.t ?_ | refine Gd.f ?_ | with_reducible refine Gd.var (fun _ => ?_) (fun _ => ?_)) <;> first | (exfalso; omega) | skip) | with_reducible refine Sq.mk ?_ | ((with_reducible show Ld1 _ _ _); first | refine Ld1.h H ?_ | refine Ld1.rF ?_ | refine Ld1.r ?_) | ((with_reducible show Ld _ _ _ _); first | refine Ld.h H ?_ | refine Ld.r ?_) | ((with_reducible show Ix _ _ _ _ _); (first | refine Ix.h ?_ | refine Ix.ha ?_)) | (refine Al.hp H ?_; clear H; intro _ _ H _) | (refine St.h H ?_; clear H; intro _ H)) | refine Sm.strix T.ok ?_)
    (((conv => whnf); refine Cl.mkX (take_c s_rp src pr (ts2) wb _ (H.base2 HB) X.lo X.tb X.len (H.atC 4 rfl) (by decide)) ?_ ?_; rotate_left; (rintro ch w9 ⟨e9, p9, q9, h9, rfl, H'⟩; exact ⟨e9, p9, q9, (by rw [hR, h9]; rfl), rfl, Hp.pan H H' (.inl rfl)⟩)); rintro _ w8 ⟨t3, ts3, h1, rfl, H'⟩; replace H := H.upd (c := rdr src pr (ts2)) H' rfl (.inl rfl); clear H'; rw [h1, Res.bind_ok] at hR; clear h1)
    repeat' ((conv => whnf); first | ((with_reducible show Gd (bs _ == _) _ _); first | refine Gd.sY (by assumption) ?_ | refine Gd.sk (by assumption) ?_ | refine Gd.sN (by assumption) ?_) | ((conv => whnf); first | (((with_reducible show Gd _ _ _); first | with_reducible refine Gd.t ?_ | with_reducible refine Gd.f ?_ | with_reducible refine Gd.dec (fun _ => ?_) (fun _ => ?_) | with_reducible refine Gd.beq (fun _ => ?_) (fun _ => ?_) | with_reducible refine Gd.bne (fun _ => ?_) (fun _ => ?_) | with_reducible refine Gd.not ?_ | refine Gd.t ?_ | refine Gd.f ?_ | with_reducible refine Gd.var (fun _ => ?_) (fun _ => ?_)) <;> first | (exfalso; omega) | skip) | with_reducible refine Sq.mk ?_ | ((with_reducible show Ld1 _ _ _); first | refine Ld1.h H ?_ | refine Ld1.rF ?_ | refine Ld1.r ?_) | ((with_reducible show Ld _ _ _ _); first | refine Ld.h H ?_ | refine Ld.r ?_) | ((with_reducible show Ix _ _ _ _ _); (first | refine Ix.h ?_ | refine Ix.ha ?_)) | (refine Al.hp H ?_; clear H; intro _ _ H _) | (refine St.h H ?_; clear H; intro _ H)) | refine Sm.strix T.ok ?_)
    exact ⟨.mk kd o n nm cb A2 c2 l2, ts3, hR, et_v rfl, H.sel [1, 3] rfl⟩
  rw [if_neg c3] at hR
  by_cases c4 : t0.kind = k_min ∨ t0.kind = k_max ∨ t0.kind = k_reduce ∨ t0.kind = k_each
  · rw [if_pos c4] at hR
    have hend : t0.kind ≠ k_end := fun e => by rw [e] at c4; revert c4; decide
    have hfo := fun ts w => form_c X C t0.kind (d + 1) ts w
    rw [← hwd] at hfo
    rcases c4 with c4 | c4 | c4 | c4
    all_goals
      repeat' ((conv => whnf); first | ((with_reducible show Gd (bs _ == _) _ _); first | refine Gd.sY (by assumption) ?_ | refine Gd.sk (by assumption) ?_ | refine Gd.sN (by assumption) ?_) | ((conv => whnf); first | (((with_reducible show Gd _ _ _); first | with_reducible refine Gd.t ?_ | with_reducible refine Gd.f ?_ | with_reducible refine Gd.dec (fun _ => ?_) (fun _ => ?_) | with_reducible refine Gd.beq (fun _ => ?_) (fun _ => ?_) | with_reducible refine Gd.bne (fun _ => ?_) (fun _ => ?_) | with_reducible refine Gd.not ?_ | refine Gd.t ?_ | refine Gd.f ?_ | with_reducible refine Gd.var (fun _ => ?_) (fun _ => ?_)) <;> first | (exfalso; omega) | skip) | with_reducible refine Sq.mk ?_ | ((with_reducible show Ld1 _ _ _); first | refine Ld1.h H ?_ | refine Ld1.rF ?_ | refine Ld1.r ?_) | ((with_reducible show Ld _ _ _ _); first | refine Ld.h H ?_ | refine Ld.r ?_) | ((with_reducible show Ix _ _ _ _ _); (first | refine Ix.h ?_ | refine Ix.ha ?_)) | (refine Al.hp H ?_; clear H; intro _ _ H _) | (refine St.h H ?_; clear H; intro _ H)) | refine Sm.strix T.ok ?_)
      (replace H := Hp.toR H hn0 hr0)
      (((conv => whnf); refine Cl.mkX (deep_c _ src pr (t0 :: r0) (d + 1) hwd _ (H.atC 2 rfl)) ?_ ?_; rotate_left; (rintro ch w9 ⟨e9, p9, q9, h9, rfl, H'⟩; exact ⟨e9, p9, q9, (by rw [hR, h9]; rfl), rfl, Hp.pan H H' (.inl rfl)⟩)); rintro _ w8 ⟨h1, ex⟩; replace H := H.ext ex; clear ex; have hd40 := deep_le h1; rw [h1, Res.bind_ok] at hR; clear h1)
      repeat' ((conv => whnf); first | ((with_reducible show Gd (bs _ == _) _ _); first | refine Gd.sY (by assumption) ?_ | refine Gd.sk (by assumption) ?_ | refine Gd.sN (by assumption) ?_) | ((conv => whnf); first | (((with_reducible show Gd _ _ _); first | with_reducible refine Gd.t ?_ | with_reducible refine Gd.f ?_ | with_reducible refine Gd.dec (fun _ => ?_) (fun _ => ?_) | with_reducible refine Gd.beq (fun _ => ?_) (fun _ => ?_) | with_reducible refine Gd.bne (fun _ => ?_) (fun _ => ?_) | with_reducible refine Gd.not ?_ | refine Gd.t ?_ | refine Gd.f ?_ | with_reducible refine Gd.var (fun _ => ?_) (fun _ => ?_)) <;> first | (exfalso; omega) | skip) | with_reducible refine Sq.mk ?_ | ((with_reducible show Ld1 _ _ _); first | refine Ld1.h H ?_ | refine Ld1.rF ?_ | refine Ld1.r ?_) | ((with_reducible show Ld _ _ _ _); first | refine Ld.h H ?_ | refine Ld.r ?_) | ((with_reducible show Ix _ _ _ _ _); (first | refine Ix.h ?_ | refine Ix.ha ?_)) | (refine Al.hp H ?_; clear H; intro _ _ H _) | (refine St.h H ?_; clear H; intro _ H)) | refine Sm.strix T.ok ?_)
      (((conv => whnf); refine Cl.mkX (step_c _ src pr (t0 :: r0) wb _ (H.base2 HB) X.lo X.tb X.len (H.atC 2 rfl) hend) ?_ ?_; rotate_left; (rintro ch w9 ⟨e9, p9, q9, h9, rfl, H'⟩; exact ⟨e9, p9, q9, (by rw [hR, h9]; rfl), rfl, Hp.pan H H' (.inl rfl)⟩)); rintro _ w8 ⟨ts1, h1, H'⟩; replace H := H.upd (c := rdr src pr (t0 :: r0)) H' rfl (.inl rfl); clear H'; rw [h1, Res.bind_ok] at hR; clear h1)
      repeat' ((conv => whnf); first | ((with_reducible show Gd (bs _ == _) _ _); first | refine Gd.sY (by assumption) ?_ | refine Gd.sk (by assumption) ?_ | refine Gd.sN (by assumption) ?_) | ((conv => whnf); first | (((with_reducible show Gd _ _ _); first | with_reducible refine Gd.t ?_ | with_reducible refine Gd.f ?_ | with_reducible refine Gd.dec (fun _ => ?_) (fun _ => ?_) | with_reducible refine Gd.beq (fun _ => ?_) (fun _ => ?_) | with_reducible refine Gd.bne (fun _ => ?_) (fun _ => ?_) | with_reducible refine Gd.not ?_ | refine Gd.t ?_ | refine Gd.f ?_ | with_reducible refine Gd.var (fun _ => ?_) (fun _ => ?_)) <;> first | (exfalso; omega) | skip) | with_reducible refine Sq.mk ?_ | ((with_reducible show Ld1 _ _ _); first | refine Ld1.h H ?_ | refine Ld1.rF ?_ | refine Ld1.r ?_) | ((with_reducible show Ld _ _ _ _); first | refine Ld.h H ?_ | refine Ld.r ?_) | ((with_reducible show Ix _ _ _ _ _); (first | refine Ix.h ?_ | refine Ix.ha ?_)) | (refine Al.hp H ?_; clear H; intro _ _ H _) | (refine St.h H ?_; clear H; intro _ H)) | refine Sm.strix T.ok ?_)
      (((conv => whnf); refine Cl.mkX (take_c s_lp src pr (ts1) wb _ (H.base2 HB) X.lo X.tb X.len (H.atC 2 rfl) (by decide)) ?_ ?_; rotate_left; (rintro ch w9 ⟨e9, p9, q9, h9, rfl, H'⟩; exact ⟨e9, p9, q9, (by rw [hR, h9]; rfl), rfl, Hp.pan H H' (.inl rfl)⟩)); rintro _ w8 ⟨t2, ts2, h1, rfl, H'⟩; replace H := H.upd (c := rdr src pr (ts1)) H' rfl (.inl rfl); clear H'; rw [h1, Res.bind_ok] at hR; clear h1)
      repeat' ((conv => whnf); first | ((with_reducible show Gd (bs _ == _) _ _); first | refine Gd.sY (by assumption) ?_ | refine Gd.sk (by assumption) ?_ | refine Gd.sN (by assumption) ?_) | ((conv => whnf); first | (((with_reducible show Gd _ _ _); first | with_reducible refine Gd.t ?_ | with_reducible refine Gd.f ?_ | with_reducible refine Gd.dec (fun _ => ?_) (fun _ => ?_) | with_reducible refine Gd.beq (fun _ => ?_) (fun _ => ?_) | with_reducible refine Gd.bne (fun _ => ?_) (fun _ => ?_) | with_reducible refine Gd.not ?_ | refine Gd.t ?_ | refine Gd.f ?_ | with_reducible refine Gd.var (fun _ => ?_) (fun _ => ?_)) <;> first | (exfalso; omega) | skip) | with_reducible refine Sq.mk ?_ | ((with_reducible show Ld1 _ _ _); first | refine Ld1.h H ?_ | refine Ld1.rF ?_ | refine Ld1.r ?_) | ((with_reducible show Ld _ _ _ _); first | refine Ld.h H ?_ | refine Ld.r ?_) | ((with_reducible show Ix _ _ _ _ _); (first | refine Ix.h ?_ | refine Ix.ha ?_)) | (refine Al.hp H ?_; clear H; intro _ _ H _) | (refine St.h H ?_; clear H; intro _ H)) | refine Sm.strix T.ok ?_)
      (conv => whnf)
      refine Cl.mkX (hfo ts2 _ (by omega) (H.base2 HB) (H.atC 2 rfl) (by rw [curK_cons] at hR; rw [← hR]; exact hne)) ?_ ?_
      · rintro _ w3 ⟨⟨kd, o, n, nm, cb, A2, c2, l2⟩, ts3, h2, rfl, H'⟩
        replace H := H.updn (c := rdr src pr ts2) (Hp.swap H') rfl (.inl rfl) (.inl rfl)
        clear H'
        repeat' ((conv => whnf); first | ((with_reducible show Gd (bs _ == _) _ _); first | refine Gd.sY (by assumption) ?_ | refine Gd.sk (by assumption) ?_ | refine Gd.sN (by assumption) ?_) | ((conv => whnf); first | (((with_reducible show Gd _ _ _); first | with_reducible refine Gd.t ?_ | with_reducible refine Gd.f ?_ | with_reducible refine Gd.dec (fun _ => ?_) (fun _ => ?_) | with_reducible refine Gd.beq (fun _ => ?_) (fun _ => ?_) | with_reducible refine Gd.bne (fun _ => ?_) (fun _ => ?_) | with_reducible refine Gd.not ?_ | refine Gd.t ?_ | refine Gd.f ?_ | with_reducible refine Gd.var (fun _ => ?_) (fun _ => ?_)) <;> first | (exfalso; omega) | skip) | with_reducible refine Sq.mk ?_ | ((with_reducible show Ld1 _ _ _); first | refine Ld1.h H ?_ | refine Ld1.rF ?_ | refine Ld1.r ?_) | ((with_reducible show Ld _ _ _ _); first | refine Ld.h H ?_ | refine Ld.r ?_) | ((with_reducible show Ix _ _ _ _ _); (first | refine Ix.h ?_ | refine Ix.ha ?_)) | (refine Al.hp H ?_; clear H; intro _ _ H _) | (refine St.h H ?_; clear H; intro _ H)) | refine Sm.strix T.ok ?_)
        exact ⟨.mk kd o n nm cb A2 c2 l2, ts3, by rw [hR, curK_cons, h2], et_v rfl, H.sel [0, 2] rfl⟩
      · rintro ch w2 ⟨e, p, q, h1, rfl, H'⟩
        exact ⟨e, p, q, by rw [hR, curK_cons, h1], rfl, Hp.pan H H' (.inl rfl)⟩
  rw [if_neg c4] at hR
  simp only [not_or] at c4
  obtain ⟨c5, c6, c7, c8⟩ := c4
  repeat' ((conv => whnf); first | ((with_reducible show Gd (bs _ == _) _ _); first | refine Gd.sY (by assumption) ?_ | refine Gd.sk (by assumption) ?_ | refine Gd.sN (by assumption) ?_) | ((conv => whnf); first | (((with_reducible show Gd _ _ _); first | with_reducible refine Gd.t ?_ | with_reducible refine Gd.f ?_ | with_reducible refine Gd.dec (fun _ => ?_) (fun _ => ?_) | with_reducible refine Gd.beq (fun _ => ?_) (fun _ => ?_) | with_reducible refine Gd.bne (fun _ => ?_) (fun _ => ?_) | with_reducible refine Gd.not ?_ | refine Gd.t ?_ | refine Gd.f ?_ | with_reducible refine Gd.var (fun _ => ?_) (fun _ => ?_)) <;> first | (exfalso; omega) | skip) | with_reducible refine Sq.mk ?_ | ((with_reducible show Ld1 _ _ _); first | refine Ld1.h H ?_ | refine Ld1.rF ?_ | refine Ld1.r ?_) | ((with_reducible show Ld _ _ _ _); first | refine Ld.h H ?_ | refine Ld.r ?_) | ((with_reducible show Ix _ _ _ _ _); (first | refine Ix.h ?_ | refine Ix.ha ?_)) | (refine Al.hp H ?_; clear H; intro _ _ H _) | (refine St.h H ?_; clear H; intro _ H)) | refine Sm.strix T.ok ?_)
  (conv => whnf)
  refine Cl.mkX (fail_c pr 141 t0.at_ _) (fun _ _ h => h.elim) ?_
  rintro ch w5 ⟨q5, rfl, H'⟩
  exact ⟨141, t0.at_, q5, hR, rfl, (H.fr0 H' (.inl rfl)).sel [0] rfl⟩
end
end Go.Proofs.YtapdmkgdiaechaaDoor
namespace Go.Proofs.YtapdmkgdiaechaaDoor
open Go Go.Sh Go.Tx
set_option linter.unusedVariables false
set_option linter.unusedSimpArgs false
set_option linter.unusedSectionVars false
attribute [local irreducible] Blk Ext RdS
theorem sm_v {v : Value} {kd : Int} {nm : Bs} {k1 o1 n1 : Int} {a1 b1 : Bs} {A1 B E : Option Addr} {c1 cb ce : Nat} {l1 : List ET} {b f : List SM} (h : v = .agg #[.int .i64 kd, .string (bs nm), .int .i64 k1, .int .i64 o1, .int .i64 n1, .string (bs a1), .string (bs b1), .slice A1 l1.length c1, .slice B b.length cb, .slice E f.length ce]) : v = SM.v (.mk kd nm (.mk k1 o1 n1 a1 b1 A1 c1 l1) B cb b E ce f) := h
theorem Hp.stsE {S : Nat → Prop} {w0 w : World} {Γ : List Ck} {e : ET} (kd : Int) (nm : Bs) (H : Hp S w0 w (trs [e] :: Γ)) : Hp S w0 w (sts [.mk kd nm e none 0 [] none 0 []] :: Γ) :=
  Hp.stsN kd nm ((Hp.stl0 (Hp.stl0 H)).perm (List.perm_middle (l₁ := [stl none 0 [], stl none 0 []])))
theorem begins_ne {k : Bs} (h : beginsB k = true) : k ≠ k_end := fun e => by rw [e] at h; revert h; decide
section
variable {src : Bs} {pr : Nat} {wb : World} {F : PF} (X : Txt src pr wb) (C : Con src pr wb F)
include X C
set_option maxHeartbeats 4000000 in
theorem plain_c (d : Nat) (ts : List Tk) (w : World) (hd : d ≤ 41) (hwb : Ext wb w) (h : Rdr src pr ts w) (hbg : beginsB (curK ts) = true) (hne : plainP F d ts ≠ .out) :
    Cl Tryd.prog 49 #[.pointer (some ⟨pr, 0, none⟩), .int .i64 (d : Int)] w (OkS src pr (plainP F d ts) w) (PanX (plainP F d ts) pr w) := by
  have HB := X.ok hwb
  obtain ⟨R, hR⟩ : ∃ R, R = plainP F d ts := ⟨_, rfl⟩
  rw [← hR] at hne ⊢
  unfold plainP at hR
  refine calls_ex (args := [.pointer (some ⟨pr, 0, none⟩), .int .i64 (d : Int)]) T.ok Tryd.func49 rfl rfl rfl rfl ?_
  have H := Hp.start (S := (· = pr)) (rdr_ok h) (fun k hk => hk)
  clear h
  refine Sq.mk ?_
  ((conv => whnf); refine Al.hp H ?_; clear H; intro p4 _ H _)
  (obtain ⟨nx, t0, r0, rfl, hn0, hr0, hb0⟩ := H.atC (c := rdr src pr ts) 1 rfl; replace H := Hp.ofR H hb0; clear hb0)
  rw [curK_cons] at hR hbg
  repeat' ((conv => whnf); first | ((with_reducible show Gd (bs _ == _) _ _); first | refine Gd.sY (by assumption) ?_ | refine Gd.sk (by assumption) ?_ | refine Gd.sN (by assumption) ?_) | ((conv => whnf); first | (((with_reducible show Gd _ _ _); first | with_reducible refine Gd.t ?_ | with_reducible refine Gd.f ?_ | with_reducible refine Gd.dec (fun _ => ?_) (fun _ => ?_) | with_reducible refine Gd.beq (fun _ => ?_) (fun _ => ?_) | with_reducible refine Gd.bne (fun _ => ?_) (fun _ => ?_) | with_reducible refine Gd.not ?_ | refine Gd.t ?_ | refine Gd.f ?_ | with_reducible refine Gd.var (fun _ => ?_) (fun _ => ?_)) <;> first | (exfalso; omega) | skip) | with_reducible refine Sq.mk ?_ | ((with_reducible show Ld1 _ _ _); first | refine Ld1.h H ?_ | refine Ld1.rF ?_ | refine Ld1.r ?_) | ((with_reducible show Ld _ _ _ _); first | refine Ld.h H ?_ | refine Ld.r ?_) | ((with_reducible show Ix _ _ _ _ _); (first | refine Ix.h ?_ | refine Ix.ha ?_)) | (refine St.h H ?_; clear H; intro _ H)) | refine Sm.strix T.ok ?_)
  ((conv => whnf); refine Al.hp H ?_; clear H; intro p5 _ H _)
  repeat' ((conv => whnf); first | ((with_reducible show Gd (bs _ == _) _ _); first | refine Gd.sY (by assumption) ?_ | refine Gd.sk (by assumption) ?_ | refine Gd.sN (by assumption) ?_) | ((conv => whnf); first | (((with_reducible show Gd _ _ _); first | with_reducible refine Gd.t ?_ | with_reducible refine Gd.f ?_ | with_reducible refine Gd.dec (fun _ => ?_) (fun _ => ?_) | with_reducible refine Gd.beq (fun _ => ?_) (fun _ => ?_) | with_reducible refine Gd.bne (fun _ => ?_) (fun _ => ?_) | with_reducible refine Gd.not ?_ | refine Gd.t ?_ | refine Gd.f ?_ | with_reducible refine Gd.var (fun _ => ?_) (fun _ => ?_)) <;> first | (exfalso; omega) | skip) | with_reducible refine Sq.mk ?_ | ((with_reducible show Ld1 _ _ _); first | refine Ld1.h H ?_ | refine Ld1.rF ?_ | refine Ld1.r ?_) | ((with_reducible show Ld _ _ _ _); first | refine Ld.h H ?_ | refine Ld.r ?_) | ((with_reducible show Ix _ _ _ _ _); (first | refine Ix.h ?_ | refine Ix.ha ?_)) | (refine Al.hp H ?_; clear H; intro _ _ H _) | (refine St.h H ?_; clear H; intro _ H)) | refine Sm.strix T.ok ?_)
  (replace H := Hp.toR H hn0 hr0)
  (((conv => whnf); refine Cl.mkX (step_c _ src pr (t0 :: r0) wb _ (H.base2 HB) X.lo X.tb X.len (H.atC 2 rfl) (begins_ne hbg)) ?_ ?_; rotate_left; (rintro ch w9 ⟨e9, p9, q9, h9, rfl, H'⟩; exact ⟨e9, p9, q9, (by rw [hR, h9]; rfl), rfl, Hp.pan H H' (.inl rfl)⟩)); rintro _ w8 ⟨ts1, h1, H'⟩; replace H := H.upd (c := rdr src pr (t0 :: r0)) H' rfl (.inl rfl); clear H'; rw [h1, Res.bind_ok] at hR; clear h1)
  by_cases c1 : t0.kind = k_sync
  · rw [if_pos c1] at hR
    repeat' ((conv => whnf); first | ((with_reducible show Gd (bs _ == _) _ _); first | refine Gd.sY (by assumption) ?_ | refine Gd.sk (by assumption) ?_ | refine Gd.sN (by assumption) ?_) | ((conv => whnf); first | (((with_reducible show Gd _ _ _); first | with_reducible refine Gd.t ?_ | with_reducible refine Gd.f ?_ | with_reducible refine Gd.dec (fun _ => ?_) (fun _ => ?_) | with_reducible refine Gd.beq (fun _ => ?_) (fun _ => ?_) | with_reducible refine Gd.bne (fun _ => ?_) (fun _ => ?_) | with_reducible refine Gd.not ?_ | refine Gd.t ?_ | refine Gd.f ?_ | with_reducible refine Gd.var (fun _ => ?_) (fun _ => ?_)) <;> first | (exfalso; omega) | skip) | with_reducible refine Sq.mk ?_ | ((with_reducible show Ld1 _ _ _); first | refine Ld1.h H ?_ | refine Ld1.rF ?_ | refine Ld1.r ?_) | ((with_reducible show Ld _ _ _ _); first | refine Ld.h H ?_ | refine Ld.r ?_) | ((with_reducible show Ix _ _ _ _ _); (first | refine Ix.h ?_ | refine Ix.ha ?_)) | (refine Al.hp H ?_; clear H; intro _ _ H _) | (refine St.h H ?_; clear H; intro _ H)) | refine Sm.strix T.ok ?_)
    exact ⟨.mk 3 [] (.mk 0 0 0 [] [] none 0 []) none 0 [] none 0 [], ts1, hR, sm_v rfl, Hp.stsE 3 [] (Hp.trsZ 0 0 0 [] [] (H.sel [2] rfl))⟩
  rw [if_neg c1] at hR
  by_cases c2 : t0.kind = k_break
  · rw [if_pos c2] at hR
    repeat' ((conv => whnf); first | ((with_reducible show Gd (bs _ == _) _ _); first | refine Gd.sY (by assumption) ?_ | refine Gd.sk (by assumption) ?_ | refine Gd.sN (by assumption) ?_) | ((conv => whnf); first | (((with_reducible show Gd _ _ _); first | with_reducible refine Gd.t ?_ | with_reducible refine Gd.f ?_ | with_reducible refine Gd.dec (fun _ => ?_) (fun _ => ?_) | with_reducible refine Gd.beq (fun _ => ?_) (fun _ => ?_) | with_reducible refine Gd.bne (fun _ => ?_) (fun _ => ?_) | with_reducible refine Gd.not ?_ | refine Gd.t ?_ | refine Gd.f ?_ | with_reducible refine Gd.var (fun _ => ?_) (fun _ => ?_)) <;> first | (exfalso; omega) | skip) | with_reducible refine Sq.mk ?_ | ((with_reducible show Ld1 _ _ _); first | refine Ld1.h H ?_ | refine Ld1.rF ?_ | refine Ld1.r ?_) | ((with_reducible show Ld _ _ _ _); first | refine Ld.h H ?_ | refine Ld.r ?_) | ((with_reducible show Ix _ _ _ _ _); (first | refine Ix.h ?_ | refine Ix.ha ?_)) | (refine Al.hp H ?_; clear H; intro _ _ H _) | (refine St.h H ?_; clear H; intro _ H)) | refine Sm.strix T.ok ?_)
    exact ⟨.mk 8 [] (.mk 0 0 0 [] [] none 0 []) none 0 [] none 0 [], ts1, hR, sm_v rfl, Hp.stsE 8 [] (Hp.trsZ 0 0 0 [] [] (H.sel [2] rfl))⟩
  rw [if_neg c2] at hR
  by_cases c3 : t0.kind = k_continue
  · rw [if_pos c3] at hR
    repeat' ((conv => whnf); first | ((with_reducible show Gd (bs _ == _) _ _); first | refine Gd.sY (by assumption) ?_ | refine Gd.sk (by assumption) ?_ | refine Gd.sN (by assumption) ?_) | ((conv => whnf); first | (((with_reducible show Gd _ _ _); first | with_reducible refine Gd.t ?_ | with_reducible refine Gd.f ?_ | with_reducible refine Gd.dec (fun _ => ?_) (fun _ => ?_) | with_reducible refine Gd.beq (fun _ => ?_) (fun _ => ?_) | with_reducible refine Gd.bne (fun _ => ?_) (fun _ => ?_) | with_reducible refine Gd.not ?_ | refine Gd.t ?_ | refine Gd.f ?_ | with_reducible refine Gd.var (fun _ => ?_) (fun _ => ?_)) <;> first | (exfalso; omega) | skip) | with_reducible refine Sq.mk ?_ | ((with_reducible show Ld1 _ _ _); first | refine Ld1.h H ?_ | refine Ld1.rF ?_ | refine Ld1.r ?_) | ((with_reducible show Ld _ _ _ _); first | refine Ld.h H ?_ | refine Ld.r ?_) | ((with_reducible show Ix _ _ _ _ _); (first | refine Ix.h ?_ | refine Ix.ha ?_)) | (refine Al.hp H ?_; clear H; intro _ _ H _) | (refine St.h H ?_; clear H; intro _ H)) | refine Sm.strix T.ok ?_)
    exact ⟨.mk 9 [] (.mk 0 0 0 [] [] none 0 []) none 0 [] none 0 [], ts1, hR, sm_v rfl, Hp.stsE 9 [] (Hp.trsZ 0 0 0 [] [] (H.sel [2] rfl))⟩
  rw [if_neg c3] at hR
  by_cases c4 : t0.kind = k_do
  · rw [if_pos c4] at hR
    repeat' ((conv => whnf); first | ((with_reducible show Gd (bs _ == _) _ _); first | refine Gd.sY (by assumption) ?_ | refine Gd.sk (by assumption) ?_ | refine Gd.sN (by assumption) ?_) | ((conv => whnf); first | (((with_reducible show Gd _ _ _); first | with_reducible refine Gd.t ?_ | with_reducible refine Gd.f ?_ | with_reducible refine Gd.dec (fun _ => ?_) (fun _ => ?_) | with_reducible refine Gd.beq (fun _ => ?_) (fun _ => ?_) | with_reducible refine Gd.bne (fun _ => ?_) (fun _ => ?_) | with_reducible refine Gd.not ?_ | refine Gd.t ?_ | refine Gd.f ?_ | with_reducible refine Gd.var (fun _ => ?_) (fun _ => ?_)) <;> first | (exfalso; omega) | skip) | with_reducible refine Sq.mk ?_ | ((with_reducible show Ld1 _ _ _); first | refine Ld1.h H ?_ | refine Ld1.rF ?_ | refine Ld1.r ?_) | ((with_reducible show Ld _ _ _ _); first | refine Ld.h H ?_ | refine Ld.r ?_) | ((with_reducible show Ix _ _ _ _ _); (first | refine Ix.h ?_ | refine Ix.ha ?_)) | (refine Al.hp H ?_; clear H; intro _ _ H _) | (refine St.h H ?_; clear H; intro _ H)) | refine Sm.strix T.ok ?_)
    ((conv => whnf); refine Cl.mkX (C.expr 0 d ts1 _ (by omega) hd (H.base2 HB) (H.atC 2 rfl) (Res.bind_out (by rw [← hR]; exact hne))) ?_ ?_; rotate_left; (rintro ch w9 ⟨e9, p9, q9, h9, rfl, H'⟩; exact ⟨e9, p9, q9, (by rw [hR, h9]; rfl), rfl, Hp.pan H H' (.inl rfl)⟩))
    rintro _ w3 ⟨⟨kd, o, n, nm, cb, A2, c2, l2⟩, ts2, h2, rfl, H'⟩
    replace H := H.updn (c := rdr src pr ts1) (Hp.swap H') rfl (.inl rfl) (.inl rfl)
    clear H'
    rw [h2, Res.bind_ok] at hR
    repeat' ((conv => whnf); first | ((with_reducible show Gd (bs _ == _) _ _); first | refine Gd.sY (by assumption) ?_ | refine Gd.sk (by assumption) ?_ | refine Gd.sN (by assumption) ?_) | ((conv => whnf); first | (((with_reducible show Gd _ _ _); first | with_reducible refine Gd.t ?_ | with_reducible refine Gd.f ?_ | with_reducible refine Gd.dec (fun _ => ?_) (fun _ => ?_) | with_reducible refine Gd.beq (fun _ => ?_) (fun _ => ?_) | with_reducible refine Gd.bne (fun _ => ?_) (fun _ => ?_) | with_reducible refine Gd.not ?_ | refine Gd.t ?_ | refine Gd.f ?_ | with_reducible refine Gd.var (fun _ => ?_) (fun _ => ?_)) <;> first | (exfalso; omega) | skip) | with_reducible refine Sq.mk ?_ | ((with_reducible show Ld1 _ _ _); first | refine Ld1.h H ?_ | refine Ld1.rF ?_ | refine Ld1.r ?_) | ((with_reducible show Ld _ _ _ _); first | refine Ld.h H ?_ | refine Ld.r ?_) | ((with_reducible show Ix _ _ _ _ _); (first | refine Ix.h ?_ | refine Ix.ha ?_)) | (refine Al.hp H ?_; clear H; intro _ _ H _) | (refine St.h H ?_; clear H; intro _ H)) | refine Sm.strix T.ok ?_)
    exact ⟨.mk 6 [] (.mk kd o n nm cb A2 c2 l2) none 0 [] none 0 [], ts2, hR, sm_v rfl, Hp.stsE 6 [] (H.sel [0, 2] rfl)⟩
  rw [if_neg c4] at hR
  by_cases c5 : t0.kind = k_return
  · rw [if_pos c5] at hR
    repeat' ((conv => whnf); first | ((with_reducible show Gd (bs _ == _) _ _); first | refine Gd.sY (by assumption) ?_ | refine Gd.sk (by assumption) ?_ | refine Gd.sN (by assumption) ?_) | ((conv => whnf); first | (((with_reducible show Gd _ _ _); first | with_reducible refine Gd.t ?_ | with_reducible refine Gd.f ?_ | with_reducible refine Gd.dec (fun _ => ?_) (fun _ => ?_) | with_reducible refine Gd.beq (fun _ => ?_) (fun _ => ?_) | with_reducible refine Gd.bne (fun _ => ?_) (fun _ => ?_) | with_reducible refine Gd.not ?_ | refine Gd.t ?_ | refine Gd.f ?_ | with_reducible refine Gd.var (fun _ => ?_) (fun _ => ?_)) <;> first | (exfalso; omega) | skip) | with_reducible refine Sq.mk ?_ | ((with_reducible show Ld1 _ _ _); first | refine Ld1.h H ?_ | refine Ld1.rF ?_ | refine Ld1.r ?_) | ((with_reducible show Ld _ _ _ _); first | refine Ld.h H ?_ | refine Ld.r ?_) | ((with_reducible show Ix _ _ _ _ _); (first | refine Ix.h ?_ | refine Ix.ha ?_)) | (refine Al.hp H ?_; clear H; intro _ _ H _) | (refine St.h H ?_; clear H; intro _ H)) | refine Sm.strix T.ok ?_)
    ((conv => whnf); refine Cl.mkX (C.expr 0 d ts1 _ (by omega) hd (H.base2 HB) (H.atC 2 rfl) (Res.bind_out (by rw [← hR]; exact hne))) ?_ ?_; rotate_left; (rintro ch w9 ⟨e9, p9, q9, h9, rfl, H'⟩; exact ⟨e9, p9, q9, (by rw [hR, h9]; rfl), rfl, Hp.pan H H' (.inl rfl)⟩))
    rintro _ w3 ⟨⟨kd, o, n, nm, cb, A2, c2, l2⟩, ts2, h2, rfl, H'⟩
    replace H := H.updn (c := rdr src pr ts1) (Hp.swap H') rfl (.inl rfl) (.inl rfl)
    clear H'
    rw [h2, Res.bind_ok] at hR
    repeat' ((conv => whnf); first | ((with_reducible show Gd (bs _ == _) _ _); first | refine Gd.sY (by assumption) ?_ | refine Gd.sk (by assumption) ?_ | refine Gd.sN (by assumption) ?_) | ((conv => whnf); first | (((with_reducible show Gd _ _ _); first | with_reducible refine Gd.t ?_ | with_reducible refine Gd.f ?_ | with_reducible refine Gd.dec (fun _ => ?_) (fun _ => ?_) | with_reducible refine Gd.beq (fun _ => ?_) (fun _ => ?_) | with_reducible refine Gd.bne (fun _ => ?_) (fun _ => ?_) | with_reducible refine Gd.not ?_ | refine Gd.t ?_ | refine Gd.f ?_ | with_reducible refine Gd.var (fun _ => ?_) (fun _ => ?_)) <;> first | (exfalso; omega) | skip) | with_reducible refine Sq.mk ?_ | ((with_reducible show Ld1 _ _ _); first | refine Ld1.h H ?_ | refine Ld1.rF ?_ | refine Ld1.r ?_) | ((with_reducible show Ld _ _ _ _); first | refine Ld.h H ?_ | refine Ld.r ?_) | ((with_reducible show Ix _ _ _ _ _); (first | refine Ix.h ?_ | refine Ix.ha ?_)) | (refine Al.hp H ?_; clear H; intro _ _ H _) | (refine St.h H ?_; clear H; intro _ H)) | refine Sm.strix T.ok ?_)
    exact ⟨.mk 7 [] (.mk kd o n nm cb A2 c2 l2) none 0 [] none 0 [], ts2, hR, sm_v rfl, Hp.stsE 7 [] (H.sel [0, 2] rfl)⟩
  rw [if_neg c5] at hR
  by_cases c6 : t0.kind = k_spawn
  · rw [if_pos c6] at hR
    repeat' ((conv => whnf); first | ((with_reducible show Gd (bs _ == _) _ _); first | refine Gd.sY (by assumption) ?_ | refine Gd.sk (by assumption) ?_ | refine Gd.sN (by assumption) ?_) | ((conv => whnf); first | (((with_reducible show Gd _ _ _); first | with_reducible refine Gd.t ?_ | with_reducible refine Gd.f ?_ | with_reducible refine Gd.dec (fun _ => ?_) (fun _ => ?_) | with_reducible refine Gd.beq (fun _ => ?_) (fun _ => ?_) | with_reducible refine Gd.bne (fun _ => ?_) (fun _ => ?_) | with_reducible refine Gd.not ?_ | refine Gd.t ?_ | refine Gd.f ?_ | with_reducible refine Gd.var (fun _ => ?_) (fun _ => ?_)) <;> first | (exfalso; omega) | skip) | with_reducible refine Sq.mk ?_ | ((with_reducible show Ld1 _ _ _); first | refine Ld1.h H ?_ | refine Ld1.rF ?_ | refine Ld1.r ?_) | ((with_reducible show Ld _ _ _ _); first | refine Ld.h H ?_ | refine Ld.r ?_) | ((with_reducible show Ix _ _ _ _ _); (first | refine Ix.h ?_ | refine Ix.ha ?_)) | (refine Al.hp H ?_; clear H; intro _ _ H _) | (refine St.h H ?_; clear H; intro _ H)) | refine Sm.strix T.ok ?_)
    (((conv => whnf); refine Cl.mkX (take_c k_name src pr (ts1) wb _ (H.base2 HB) X.lo X.tb X.len (H.atC 2 rfl) (by decide)) ?_ ?_; rotate_left; (rintro ch w9 ⟨e9, p9, q9, h9, rfl, H'⟩; exact ⟨e9, p9, q9, (by rw [hR, h9]; rfl), rfl, Hp.pan H H' (.inl rfl)⟩)); rintro _ w8 ⟨t1, ts2, h1, rfl, H'⟩; replace H := H.upd (c := rdr src pr (ts1)) H' rfl (.inl rfl); clear H'; rw [h1, Res.bind_ok] at hR; clear h1)
    repeat' ((conv => whnf); first | ((with_reducible show Gd (bs _ == _) _ _); first | refine Gd.sY (by assumption) ?_ | refine Gd.sk (by assumption) ?_ | refine Gd.sN (by assumption) ?_) | ((conv => whnf); first | (((with_reducible show Gd _ _ _); first | with_reducible refine Gd.t ?_ | with_reducible refine Gd.f ?_ | with_reducible refine Gd.dec (fun _ => ?_) (fun _ => ?_) | with_reducible refine Gd.beq (fun _ => ?_) (fun _ => ?_) | with_reducible refine Gd.bne (fun _ => ?_) (fun _ => ?_) | with_reducible refine Gd.not ?_ | refine Gd.t ?_ | refine Gd.f ?_ | with_reducible refine Gd.var (fun _ => ?_) (fun _ => ?_)) <;> first | (exfalso; omega) | skip) | with_reducible refine Sq.mk ?_ | ((with_reducible show Ld1 _ _ _); first | refine Ld1.h H ?_ | refine Ld1.rF ?_ | refine Ld1.r ?_) | ((with_reducible show Ld _ _ _ _); first | refine Ld.h H ?_ | refine Ld.r ?_) | ((with_reducible show Ix _ _ _ _ _); (first | refine Ix.h ?_ | refine Ix.ha ?_)) | (refine St.h H ?_; clear H; intro _ H)) | refine Sm.strix T.ok ?_)
    ((conv => whnf); refine Al.hp H ?_; clear H; intro p6 _ H _)
    repeat' ((conv => whnf); first | ((with_reducible show Gd (bs _ == _) _ _); first | refine Gd.sY (by assumption) ?_ | refine Gd.sk (by assumption) ?_ | refine Gd.sN (by assumption) ?_) | ((conv => whnf); first | (((with_reducible show Gd _ _ _); first | with_reducible refine Gd.t ?_ | with_reducible refine Gd.f ?_ | with_reducible refine Gd.dec (fun _ => ?_) (fun _ => ?_) | with_reducible refine Gd.beq (fun _ => ?_) (fun _ => ?_) | with_reducible refine Gd.bne (fun _ => ?_) (fun _ => ?_) | with_reducible refine Gd.not ?_ | refine Gd.t ?_ | refine Gd.f ?_ | with_reducible refine Gd.var (fun _ => ?_) (fun _ => ?_)) <;> first | (exfalso; omega) | skip) | with_reducible refine Sq.mk ?_ | ((with_reducible show Ld1 _ _ _); first | refine Ld1.h H ?_ | refine Ld1.rF ?_ | refine Ld1.r ?_) | ((with_reducible show Ld _ _ _ _); first | refine Ld.h H ?_ | refine Ld.r ?_) | ((with_reducible show Ix _ _ _ _ _); (first | refine Ix.h ?_ | refine Ix.ha ?_)) | (refine Al.hp H ?_; clear H; intro _ _ H _) | (refine St.h H ?_; clear H; intro _ H)) | refine Sm.strix T.ok ?_)
    (((conv => whnf); refine Cl.mkX (take_c s_asg src pr (ts2) wb _ (H.base2 HB) X.lo X.tb X.len (H.atC 3 rfl) (by decide)) ?_ ?_; rotate_left; (rintro ch w9 ⟨e9, p9, q9, h9, rfl, H'⟩; exact ⟨e9, p9, q9, (by rw [hR, h9]; rfl), rfl, Hp.pan H H' (.inl rfl)⟩)); rintro _ w8 ⟨t2, ts3, h1, rfl, H'⟩; replace H := H.upd (c := rdr src pr (ts2)) H' rfl (.inl rfl); clear H'; rw [h1, Res.bind_ok] at hR; clear h1)
    repeat' ((conv => whnf); first | ((with_reducible show Gd (bs _ == _) _ _); first | refine Gd.sY (by assumption) ?_ | refine Gd.sk (by assumption) ?_ | refine Gd.sN (by assumption) ?_) | ((conv => whnf); first | (((with_reducible show Gd _ _ _); first | with_reducible refine Gd.t ?_ | with_reducible refine Gd.f ?_ | with_reducible refine Gd.dec (fun _ => ?_) (fun _ => ?_) | with_reducible refine Gd.beq (fun _ => ?_) (fun _ => ?_) | with_reducible refine Gd.bne (fun _ => ?_) (fun _ => ?_) | with_reducible refine Gd.not ?_ | refine Gd.t ?_ | refine Gd.f ?_ | with_reducible refine Gd.var (fun _ => ?_) (fun _ => ?_)) <;> first | (exfalso; omega) | skip) | with_reducible refine Sq.mk ?_ | ((with_reducible show Ld1 _ _ _); first | refine Ld1.h H ?_ | refine Ld1.rF ?_ | refine Ld1.r ?_) | ((with_reducible show Ld _ _ _ _); first | refine Ld.h H ?_ | refine Ld.r ?_) | ((with_reducible show Ix _ _ _ _ _); (first | refine Ix.h ?_ | refine Ix.ha ?_)) | (refine Al.hp H ?_; clear H; intro _ _ H _) | (refine St.h H ?_; clear H; intro _ H)) | refine Sm.strix T.ok ?_)
    (((conv => whnf); refine Cl.mkX (take_c k_name src pr (ts3) wb _ (H.base2 HB) X.lo X.tb X.len (H.atC 3 rfl) (by decide)) ?_ ?_; rotate_left; (rintro ch w9 ⟨e9, p9, q9, h9, rfl, H'⟩; exact ⟨e9, p9, q9, (by rw [hR, h9]; rfl), rfl, Hp.pan H H' (.inl rfl)⟩)); rintro _ w8 ⟨t3, ts4, h1, rfl, H'⟩; replace H := H.upd (c := rdr src pr (ts3)) H' rfl (.inl rfl); clear H'; rw [h1, Res.bind_ok] at hR; clear h1)
    repeat' ((conv => whnf); first | ((with_reducible show Gd (bs _ == _) _ _); first | refine Gd.sY (by assumption) ?_ | refine Gd.sk (by assumption) ?_ | refine Gd.sN (by assumption) ?_) | ((conv => whnf); first | (((with_reducible show Gd _ _ _); first | with_reducible refine Gd.t ?_ | with_reducible refine Gd.f ?_ | with_reducible refine Gd.dec (fun _ => ?_) (fun _ => ?_) | with_reducible refine Gd.beq (fun _ => ?_) (fun _ => ?_) | with_reducible refine Gd.bne (fun _ => ?_) (fun _ => ?_) | with_reducible refine Gd.not ?_ | refine Gd.t ?_ | refine Gd.f ?_ | with_reducible refine Gd.var (fun _ => ?_) (fun _ => ?_)) <;> first | (exfalso; omega) | skip) | with_reducible refine Sq.mk ?_ | ((with_reducible show Ld1 _ _ _); first | refine Ld1.h H ?_ | refine Ld1.rF ?_ | refine Ld1.r ?_) | ((with_reducible show Ld _ _ _ _); first | refine Ld.h H ?_ | refine Ld.r ?_) | ((with_reducible show Ix _ _ _ _ _); (first | refine Ix.h ?_ | refine Ix.ha ?_)) | (refine Al.hp H ?_; clear H; intro _ _ H _) | (refine St.h H ?_; clear H; intro _ H)) | refine Sm.strix T.ok ?_)
    (((conv => whnf); refine Cl.mkX (take_c s_lp src pr (ts4) wb _ (H.base2 HB) X.lo X.tb X.len (H.atC 3 rfl) (by decide)) ?_ ?_; rotate_left; (rintro ch w9 ⟨e9, p9, q9, h9, rfl, H'⟩; exact ⟨e9, p9, q9, (by rw [hR, h9]; rfl), rfl, Hp.pan H H' (.inl rfl)⟩)); rintro _ w8 ⟨t4, ts5, h1, rfl, H'⟩; replace H := H.upd (c := rdr src pr (ts4)) H' rfl (.inl rfl); clear H'; rw [h1, Res.bind_ok] at hR; clear h1)
    repeat' ((conv => whnf); first | ((with_reducible show Gd (bs _ == _) _ _); first | refine Gd.sY (by assumption) ?_ | refine Gd.sk (by assumption) ?_ | refine Gd.sN (by assumption) ?_) | ((conv => whnf); first | (((with_reducible show Gd _ _ _); first | with_reducible refine Gd.t ?_ | with_reducible refine Gd.f ?_ | with_reducible refine Gd.dec (fun _ => ?_) (fun _ => ?_) | with_reducible refine Gd.beq (fun _ => ?_) (fun _ => ?_) | with_reducible refine Gd.bne (fun _ => ?_) (fun _ => ?_) | with_reducible refine Gd.not ?_ | refine Gd.t ?_ | refine Gd.f ?_ | with_reducible refine Gd.var (fun _ => ?_) (fun _ => ?_)) <;> first | (exfalso; omega) | skip) | with_reducible refine Sq.mk ?_ | ((with_reducible show Ld1 _ _ _); first | refine Ld1.h H ?_ | refine Ld1.rF ?_ | refine Ld1.r ?_) | ((with_reducible show Ld _ _ _ _); first | refine Ld.h H ?_ | refine Ld.r ?_) | ((with_reducible show Ix _ _ _ _ _); (first | refine Ix.h ?_ | refine Ix.ha ?_)) | (refine Al.hp H ?_; clear H; intro _ _ H _) | (refine St.h H ?_; clear H; intro _ H)) | refine Sm.strix T.ok ?_)
    ((conv => whnf); refine Cl.mkX (args_c X C d ts5 _ hd (H.base2 HB) (H.atC 3 rfl) (Res.bind_out (by rw [← hR]; exact hne))) ?_ ?_; rotate_left; (rintro ch w9 ⟨e9, p9, q9, h9, rfl, H'⟩; exact ⟨e9, p9, q9, (by rw [hR, h9]; rfl), rfl, Hp.pan H H' (.inl rfl)⟩))
    rintro _ w3 ⟨A, c, l, ts6, h2, rfl, hlen, H'⟩
    replace H' := Hp.trsN 5 0 0 t3.text [] H'
    replace H := H.updn (c := rdr src pr ts5) (Hp.swap H') rfl (.inl rfl) (.inl rfl)
    clear H'
    rw [h2, Res.bind_ok] at hR
    repeat' ((conv => whnf); first | ((with_reducible show Gd (bs _ == _) _ _); first | refine Gd.sY (by assumption) ?_ | refine Gd.sk (by assumption) ?_ | refine Gd.sN (by assumption) ?_) | ((conv => whnf); first | (((with_reducible show Gd _ _ _); first | with_reducible refine Gd.t ?_ | with_reducible refine Gd.f ?_ | with_reducible refine Gd.dec (fun _ => ?_) (fun _ => ?_) | with_reducible refine Gd.beq (fun _ => ?_) (fun _ => ?_) | with_reducible refine Gd.bne (fun _ => ?_) (fun _ => ?_) | with_reducible refine Gd.not ?_ | refine Gd.t ?_ | refine Gd.f ?_ | with_reducible refine Gd.var (fun _ => ?_) (fun _ => ?_)) <;> first | (exfalso; omega) | skip) | with_reducible refine Sq.mk ?_ | ((with_reducible show Ld1 _ _ _); first | refine Ld1.h H ?_ | refine Ld1.rF ?_ | refine Ld1.r ?_) | ((with_reducible show Ld _ _ _ _); first | refine Ld.h H ?_ | refine Ld.r ?_) | ((with_reducible show Ix _ _ _ _ _); (first | refine Ix.h ?_ | refine Ix.ha ?_)) | (refine Al.hp H ?_; clear H; intro _ _ H _) | (refine St.h H ?_; clear H; intro _ H)) | refine Sm.strix T.ok ?_)
    exact ⟨.mk 2 t1.text (.mk 5 0 0 t3.text [] A c l) none 0 [] none 0 [], ts6, hR, sm_v rfl, Hp.stsE 2 t1.text (H.sel [0, 3] rfl)⟩
  rw [if_neg c6] at hR
  by_cases c7 : t0.kind = k_let
  · rw [if_pos c7] at hR
    repeat' ((conv => whnf); first | ((with_reducible show Gd (bs _ == _) _ _); first | refine Gd.sY (by assumption) ?_ | refine Gd.sk (by assumption) ?_ | refine Gd.sN (by assumption) ?_) | ((conv => whnf); first | (((with_reducible show Gd _ _ _); first | with_reducible refine Gd.t ?_ | with_reducible refine Gd.f ?_ | with_reducible refine Gd.dec (fun _ => ?_) (fun _ => ?_) | with_reducible refine Gd.beq (fun _ => ?_) (fun _ => ?_) | with_reducible refine Gd.bne (fun _ => ?_) (fun _ => ?_) | with_reducible refine Gd.not ?_ | refine Gd.t ?_ | refine Gd.f ?_ | with_reducible refine Gd.var (fun _ => ?_) (fun _ => ?_)) <;> first | (exfalso; omega) | skip) | with_reducible refine Sq.mk ?_ | ((with_reducible show Ld1 _ _ _); first | refine Ld1.h H ?_ | refine Ld1.rF ?_ | refine Ld1.r ?_) | ((with_reducible show Ld _ _ _ _); first | refine Ld.h H ?_ | refine Ld.r ?_) | ((with_reducible show Ix _ _ _ _ _); (first | refine Ix.h ?_ | refine Ix.ha ?_)) | (refine Al.hp H ?_; clear H; intro _ _ H _) | (refine St.h H ?_; clear H; intro _ H)) | refine Sm.strix T.ok ?_)
    (((conv => whnf); refine Cl.mkX (take_c k_name src pr (ts1) wb _ (H.base2 HB) X.lo X.tb X.len (H.atC 2 rfl) (by decide)) ?_ ?_; rotate_left; (rintro ch w9 ⟨e9, p9, q9, h9, rfl, H'⟩; exact ⟨e9, p9, q9, (by rw [hR, h9]; rfl), rfl, Hp.pan H H' (.inl rfl)⟩)); rintro _ w8 ⟨t1, ts2, h1, rfl, H'⟩; replace H := H.upd (c := rdr src pr (ts1)) H' rfl (.inl rfl); clear H'; rw [h1, Res.bind_ok] at hR; clear h1)
    repeat' ((conv => whnf); first | ((with_reducible show Gd (bs _ == _) _ _); first | refine Gd.sY (by assumption) ?_ | refine Gd.sk (by assumption) ?_ | refine Gd.sN (by assumption) ?_) | ((conv => whnf); first | (((with_reducible show Gd _ _ _); first | with_reducible refine Gd.t ?_ | with_reducible refine Gd.f ?_ | with_reducible refine Gd.dec (fun _ => ?_) (fun _ => ?_) | with_reducible refine Gd.beq (fun _ => ?_) (fun _ => ?_) | with_reducible refine Gd.bne (fun _ => ?_) (fun _ => ?_) | with_reducible refine Gd.not ?_ | refine Gd.t ?_ | refine Gd.f ?_ | with_reducible refine Gd.var (fun _ => ?_) (fun _ => ?_)) <;> first | (exfalso; omega) | skip) | with_reducible refine Sq.mk ?_ | ((with_reducible show Ld1 _ _ _); first | refine Ld1.h H ?_ | refine Ld1.rF ?_ | refine Ld1.r ?_) | ((with_reducible show Ld _ _ _ _); first | refine Ld.h H ?_ | refine Ld.r ?_) | ((with_reducible show Ix _ _ _ _ _); (first | refine Ix.h ?_ | refine Ix.ha ?_)) | (refine St.h H ?_; clear H; intro _ H)) | refine Sm.strix T.ok ?_)
    ((conv => whnf); refine Al.hp H ?_; clear H; intro p6 _ H _)
    repeat' ((conv => whnf); first | ((with_reducible show Gd (bs _ == _) _ _); first | refine Gd.sY (by assumption) ?_ | refine Gd.sk (by assumption) ?_ | refine Gd.sN (by assumption) ?_) | ((conv => whnf); first | (((with_reducible show Gd _ _ _); first | with_reducible refine Gd.t ?_ | with_reducible refine Gd.f ?_ | with_reducible refine Gd.dec (fun _ => ?_) (fun _ => ?_) | with_reducible refine Gd.beq (fun _ => ?_) (fun _ => ?_) | with_reducible refine Gd.bne (fun _ => ?_) (fun _ => ?_) | with_reducible refine Gd.not ?_ | refine Gd.t ?_ | refine Gd.f ?_ | with_reducible refine Gd.var (fun _ => ?_) (fun _ => ?_)) <;> first | (exfalso; omega) | skip) | with_reducible refine Sq.mk ?_ | ((with_reducible show Ld1 _ _ _); first | refine Ld1.h H ?_ | refine Ld1.rF ?_ | refine Ld1.r ?_) | ((with_reducible show Ld _ _ _ _); first | refine Ld.h H ?_ | refine Ld.r ?_) | ((with_reducible show Ix _ _ _ _ _); (first | refine Ix.h ?_ | refine Ix.ha ?_)) | (refine Al.hp H ?_; clear H; intro _ _ H _) | (refine St.h H ?_; clear H; intro _ H)) | refine Sm.strix T.ok ?_)
    (((conv => whnf); refine Cl.mkX (take_c s_asg src pr (ts2) wb _ (H.base2 HB) X.lo X.tb X.len (H.atC 3 rfl) (by decide)) ?_ ?_; rotate_left; (rintro ch w9 ⟨e9, p9, q9, h9, rfl, H'⟩; exact ⟨e9, p9, q9, (by rw [hR, h9]; rfl), rfl, Hp.pan H H' (.inl rfl)⟩)); rintro _ w8 ⟨t2, ts3, h1, rfl, H'⟩; replace H := H.upd (c := rdr src pr (ts2)) H' rfl (.inl rfl); clear H'; rw [h1, Res.bind_ok] at hR; clear h1)
    repeat' ((conv => whnf); first | ((with_reducible show Gd (bs _ == _) _ _); first | refine Gd.sY (by assumption) ?_ | refine Gd.sk (by assumption) ?_ | refine Gd.sN (by assumption) ?_) | ((conv => whnf); first | (((with_reducible show Gd _ _ _); first | with_reducible refine Gd.t ?_ | with_reducible refine Gd.f ?_ | with_reducible refine Gd.dec (fun _ => ?_) (fun _ => ?_) | with_reducible refine Gd.beq (fun _ => ?_) (fun _ => ?_) | with_reducible refine Gd.bne (fun _ => ?_) (fun _ => ?_) | with_reducible refine Gd.not ?_ | refine Gd.t ?_ | refine Gd.f ?_ | with_reducible refine Gd.var (fun _ => ?_) (fun _ => ?_)) <;> first | (exfalso; omega) | skip) | with_reducible refine Sq.mk ?_ | ((with_reducible show Ld1 _ _ _); first | refine Ld1.h H ?_ | refine Ld1.rF ?_ | refine Ld1.r ?_) | ((with_reducible show Ld _ _ _ _); first | refine Ld.h H ?_ | refine Ld.r ?_) | ((with_reducible show Ix _ _ _ _ _); (first | refine Ix.h ?_ | refine Ix.ha ?_)) | (refine Al.hp H ?_; clear H; intro _ _ H _) | (refine St.h H ?_; clear H; intro _ H)) | refine Sm.strix T.ok ?_)
    ((conv => whnf); refine Cl.mkX (C.expr 0 d ts3 _ (by omega) hd (H.base2 HB) (H.atC 3 rfl) (Res.bind_out (by rw [← hR]; exact hne))) ?_ ?_; rotate_left; (rintro ch w9 ⟨e9, p9, q9, h9, rfl, H'⟩; exact ⟨e9, p9, q9, (by rw [hR, h9]; rfl), rfl, Hp.pan H H' (.inl rfl)⟩))
    rintro _ w3 ⟨⟨kd, o, n, nm, cb, A2, c2, l2⟩, ts4, h2, rfl, H'⟩
    replace H := H.updn (c := rdr src pr ts3) (Hp.swap H') rfl (.inl rfl) (.inl rfl)
    clear H'
    rw [h2, Res.bind_ok] at hR
    repeat' ((conv => whnf); first | ((with_reducible show Gd (bs _ == _) _ _); first | refine Gd.sY (by assumption) ?_ | refine Gd.sk (by assumption) ?_ | refine Gd.sN (by assumption) ?_) | ((conv => whnf); first | (((with_reducible show Gd _ _ _); first | with_reducible refine Gd.t ?_ | with_reducible refine Gd.f ?_ | with_reducible refine Gd.dec (fun _ => ?_) (fun _ => ?_) | with_reducible refine Gd.beq (fun _ => ?_) (fun _ => ?_) | with_reducible refine Gd.bne (fun _ => ?_) (fun _ => ?_) | with_reducible refine Gd.not ?_ | refine Gd.t ?_ | refine Gd.f ?_ | with_reducible refine Gd.var (fun _ => ?_) (fun _ => ?_)) <;> first | (exfalso; omega) | skip) | with_reducible refine Sq.mk ?_ | ((with_reducible show Ld1 _ _ _); first | refine Ld1.h H ?_ | refine Ld1.rF ?_ | refine Ld1.r ?_) | ((with_reducible show Ld _ _ _ _); first | refine Ld.h H ?_ | refine Ld.r ?_) | ((with_reducible show Ix _ _ _ _ _); (first | refine Ix.h ?_ | refine Ix.ha ?_)) | (refine Al.hp H ?_; clear H; intro _ _ H _) | (refine St.h H ?_; clear H; intro _ H)) | refine Sm.strix T.ok ?_)
    exact ⟨.mk 0 t1.text (.mk kd o n nm cb A2 c2 l2) none 0 [] none 0 [], ts4, hR, sm_v rfl, Hp.stsE 0 t1.text (H.sel [0, 3] rfl)⟩
  rw [if_neg c7] at hR
  repeat' ((conv => whnf); first | ((with_reducible show Gd (bs _ == _) _ _); first | refine Gd.sY (by assumption) ?_ | refine Gd.sk (by assumption) ?_ | refine Gd.sN (by assumption) ?_) | ((conv => whnf); first | (((with_reducible show Gd _ _ _); first | with_reducible refine Gd.t ?_ | with_reducible refine Gd.f ?_ | with_reducible refine Gd.dec (fun _ => ?_) (fun _ => ?_) | with_reducible refine Gd.beq (fun _ => ?_) (fun _ => ?_) | with_reducible refine Gd.bne (fun _ => ?_) (fun _ => ?_) | with_reducible refine Gd.not ?_ | refine Gd.t ?_ | refine Gd.f ?_ | with_reducible refine Gd.var (fun _ => ?_) (fun _ => ?_)) <;> first | (exfalso; omega) | skip) | with_reducible refine Sq.mk ?_ | ((with_reducible show Ld1 _ _ _); first | refine Ld1.h H ?_ | refine Ld1.rF ?_ | refine Ld1.r ?_) | ((with_reducible show Ld _ _ _ _); first | refine Ld.h H ?_ | refine Ld.r ?_) | ((with_reducible show Ix _ _ _ _ _); (first | refine Ix.h ?_ | refine Ix.ha ?_)) | (refine Al.hp H ?_; clear H; intro _ _ H _) | (refine St.h H ?_; clear H; intro _ H)) | refine Sm.strix T.ok ?_)
  (((conv => whnf); refine Cl.mkX (take_c s_asg src pr (ts1) wb _ (H.base2 HB) X.lo X.tb X.len (H.atC 2 rfl) (by decide)) ?_ ?_; rotate_left; (rintro ch w9 ⟨e9, p9, q9, h9, rfl, H'⟩; exact ⟨e9, p9, q9, (by rw [hR, h9]; rfl), rfl, Hp.pan H H' (.inl rfl)⟩)); rintro _ w8 ⟨t2, ts3, h1, rfl, H'⟩; replace H := H.upd (c := rdr src pr (ts1)) H' rfl (.inl rfl); clear H'; rw [h1, Res.bind_ok] at hR; clear h1)
  repeat' ((conv => whnf); first | ((with_reducible show Gd (bs _ == _) _ _); first | refine Gd.sY (by assumption) ?_ | refine Gd.sk (by assumption) ?_ | refine Gd.sN (by assumption) ?_) | ((conv => whnf); first | (((with_reducible show Gd _ _ _); first | with_reducible refine Gd.t ?_ | with_reducible refine Gd.f ?_ | with_reducible refine Gd.dec (fun _ => ?_) (fun _ => ?_) | with_reducible refine Gd.beq (fun _ => ?_) (fun _ => ?_) | with_reducible refine Gd.bne (fun _ => ?_) (fun _ => ?_) | with_reducible refine Gd.not ?_ | refine Gd.t ?_ | refine Gd.f ?_ | with_reducible refine Gd.var (fun _ => ?_) (fun _ => ?_)) <;> first | (exfalso; omega) | skip) | with_reducible refine Sq.mk ?_ | ((with_reducible show Ld1 _ _ _); first | refine Ld1.h H ?_ | refine Ld1.rF ?_ | refine Ld1.r ?_) | ((with_reducible show Ld _ _ _ _); first | refine Ld.h H ?_ | refine Ld.r ?_) | ((with_reducible show Ix _ _ _ _ _); (first | refine Ix.h ?_ | refine Ix.ha ?_)) | (refine Al.hp H ?_; clear H; intro _ _ H _) | (refine St.h H ?_; clear H; intro _ H)) | refine Sm.strix T.ok ?_)
  (conv => whnf)
  refine Dr.chX T.ok mixed [0, 1, 2, 3] [4, 5, 6] (by kernel_rfl) rfl rfl (fun w' => Blk w' p5 60 (wordCs t0)) (PanX R pr w) (fun ch F' w' hds h => by (conv => whnf); rw [show F'.ds = [] from hds]; exact h) (fun w1 eT _ => ?_)
  replace H := H.ext eT
  repeat' ((conv => whnf); refine QLd1.own (fun _ hw => hw) ?_)
  (conv => whnf)
  refine ⟨H.blk 0 rfl, ?_⟩
  ((conv => whnf); refine Cl.mkX (C.expr 0 d ts3 _ (by omega) hd (H.base2 HB) (H.atC 2 rfl) (Res.bind_out (by rw [← hR]; exact hne))) ?_ ?_; rotate_left; (rintro ch w9 ⟨e9, p9, q9, h9, rfl, H'⟩; exact ⟨e9, p9, q9, (by rw [hR, h9]; rfl), rfl, Hp.pan H H' (.inl rfl)⟩))
  rintro _ w3 ⟨⟨kd, o, n, nm, cb, A2, c2, l2⟩, ts4, h2, rfl, H'⟩
  replace H := H.updn (c := rdr src pr ts3) (Hp.swap H') rfl (.inl rfl) (.inl rfl)
  clear H'
  rw [h2, Res.bind_ok] at hR
  (conv => whnf)
  refine ⟨H.blk 1 rfl, ?_⟩
  repeat' (first | refine ⟨H.blk 1 rfl, ?_⟩ | ((conv => whnf); first | ((with_reducible show Gd (bs _ == _) _ _); first | refine Gd.sY (by assumption) ?_ | refine Gd.sk (by assumption) ?_ | refine Gd.sN (by assumption) ?_) | ((conv => whnf); first | (((with_reducible show Gd _ _ _); first | with_reducible refine Gd.t ?_ | with_reducible refine Gd.f ?_ | with_reducible refine Gd.dec (fun _ => ?_) (fun _ => ?_) | with_reducible refine Gd.beq (fun _ => ?_) (fun _ => ?_) | with_reducible refine Gd.bne (fun _ => ?_) (fun _ => ?_) | with_reducible refine Gd.not ?_ | refine Gd.t ?_ | refine Gd.f ?_ | with_reducible refine Gd.var (fun _ => ?_) (fun _ => ?_)) <;> first | (exfalso; omega) | skip) | with_reducible refine Sq.mk ?_ | ((with_reducible show Ld1 _ _ _); first | refine Ld1.h H ?_ | refine Ld1.rF ?_ | refine Ld1.r ?_) | ((with_reducible show Ld _ _ _ _); first | refine Ld.h H ?_ | refine Ld.r ?_) | ((with_reducible show Ix _ _ _ _ _); (first | refine Ix.h ?_ | refine Ix.ha ?_)) | (refine Al.hp H ?_; clear H; intro _ _ H _) | (refine St.h H ?_; clear H; intro _ H)) | refine Sm.strix T.ok ?_))
  exact ⟨.mk 1 t0.text (.mk kd o n nm cb A2 c2 l2) none 0 [] none 0 [], ts4, hR, sm_v rfl, Hp.stsE 1 t0.text (H.sel [0, 2] rfl)⟩
end
end Go.Proofs.YtapdmkgdiaechaaDoor
namespace Go.Proofs.YtapdmkgdiaechaaDoor
open Go Go.Sh Go.Tx
set_option linter.unusedVariables false
set_option linter.unusedSimpArgs false
set_option linter.unusedSectionVars false
attribute [local irreducible] Blk Ext RdS
theorem begins_or {k : Bs} (h : beginsB k = true) : k = k_let ∨ k = k_spawn ∨ k = k_sync ∨ k = k_if ∨ k = k_while ∨ k = k_do ∨ k = k_return ∨ k = k_break ∨ k = k_continue ∨ k = k_name := by
  simp only [beginsB, Bool.or_eq_true, beq_iff_eq] at h
  rcases h with ((((((((h | h) | h) | h) | h) | h) | h) | h) | h) | h <;> simp [h]
theorem QLd.own {W : World → Prop} {b o m : Nat} {t : TypeId} {vs : List Value} {k : List Value → Prop} (h : ∀ w', W w' → Blk w' b t vs) (hk : k ((vs.drop o).take m)) (hm : ((vs.drop o).take m).length = m := by rfl) : QLd W ⟨b, o, none⟩ m k := by
  refine ⟨_, fun w' hw' => ⟨hm, fun i v hv => ?_⟩, hk⟩
  rw [add_lit, (h w' hw').cell]
  have : i < m := by have := (List.getElem?_eq_some_iff.1 hv).1; omega
  rw [List.getElem?_take_of_lt this, List.getElem?_drop] at hv
  exact hv
section
variable {src : Bs} {pr : Nat} {wb : World} {F : PF} (X : Txt src pr wb) (C : Con src pr wb F)
include X C
set_option maxHeartbeats 8000000 in
theorem statement_c (d : Nat) (ts : List Tk) (w : World) (hd : d ≤ 41) (hwb : Ext wb w) (h : Rdr src pr ts w) (hne : stmtP F d ts ≠ .out) :
    Cl Tryd.prog 38 #[.pointer (some ⟨pr, 0, none⟩), .int .i64 (d : Int)] w (OkS src pr (stmtP F d ts) w) (PanX (stmtP F d ts) pr w) := by
  have HB := X.ok hwb
  have hwd : IntKind.i64.wrap ((d : Int) + 1) = ((d + 1 : Nat) : Int) := w64 rfl (by omega) (by omega)
  obtain ⟨R, hR⟩ : ∃ R, R = stmtP F d ts := ⟨_, rfl⟩
  rw [← hR] at hne ⊢
  unfold stmtP at hR
  refine calls_ex (args := [.pointer (some ⟨pr, 0, none⟩), .int .i64 (d : Int)]) T.ok Tryd.func38 rfl rfl rfl rfl ?_
  have H := Hp.start (S := (· = pr)) (rdr_ok h) (fun k hk => hk)
  clear h
  refine Sq.mk ?_
  ((conv => whnf); refine Al.hp H ?_; clear H; intro p4 _ H _)
  (obtain ⟨nx, t0, r0, rfl, hn0, hr0, hb0⟩ := H.atC (c := rdr src pr ts) 1 rfl; replace H := Hp.ofR H hb0; clear hb0)
  rw [curK_cons] at hR
  by_cases hbg : beginsB t0.kind = true
  case neg =>
    rw [if_neg hbg] at hR
    have hno : ∀ k, beginsB k = true → ¬ t0.kind = k := fun k hk e => hbg (by rw [e]; exact hk)
    have n1 := hno k_let (by decide)
    have n2 := hno k_spawn (by decide)
    have n3 := hno k_sync (by decide)
    have n4 := hno k_if (by decide)
    have n5 := hno k_while (by decide)
    have n6 := hno k_do (by decide)
    have n7 := hno k_return (by decide)
    have n8 := hno k_break (by decide)
    have n9 := hno k_continue (by decide)
    have n10 := hno k_name (by decide)
    repeat' ((conv => whnf); first | ((with_reducible show Gd (bs _ == _) _ _); first | refine Gd.sY (by assumption) ?_ | refine Gd.sk (by assumption) ?_ | refine Gd.sN (by assumption) ?_) | ((conv => whnf); first | (((with_reducible show Gd _ _ _); first | with_reducible refine Gd.t ?_ | with_reducible refine Gd.f ?_ | with_reducible refine Gd.dec (fun _ => ?_) (fun _ => ?_) | with_reducible refine Gd.beq (fun _ => ?_) (fun _ => ?_) | with_reducible refine Gd.bne (fun _ => ?_) (fun _ => ?_) | with_reducible refine Gd.not ?_ | refine Gd.t ?_ | refine Gd.f ?_ | with_reducible refine Gd.var (fun _ => ?_) (fun _ => ?_)) <;> first | (exfalso; omega) | skip) | with_reducible refine Sq.mk ?_ | ((with_reducible show Ld1 _ _ _); first | refine Ld1.h H ?_ | refine Ld1.rF ?_ | refine Ld1.r ?_) | ((with_reducible show Ld _ _ _ _); first | refine Ld.h H ?_ | refine Ld.r ?_) | ((with_reducible show Ix _ _ _ _ _); (first | refine Ix.h ?_ | refine Ix.ha ?_)) | (refine Al.hp H ?_; clear H; intro _ _ H _) | (refine St.h H ?_; clear H; intro _ H)) | refine Sm.strix T.ok ?_)
    (conv => whnf)
    refine Cl.mkX (fail_c pr 141 t0.at_ _) (fun _ _ h => h.elim) ?_
    rintro ch w5 ⟨q5, rfl, H'⟩
    exact ⟨141, t0.at_, q5, hR, rfl, (H.fr0 H' (.inl rfl)).sel [0] rfl⟩
  rw [if_pos hbg] at hR
  by_cases c1 : t0.kind = k_if
  · repeat' ((conv => whnf); first | ((with_reducible show Gd (bs _ == _) _ _); first | refine Gd.sY (by assumption) ?_ | refine Gd.sk (by assumption) ?_ | refine Gd.sN (by assumption) ?_) | ((conv => whnf); first | (((with_reducible show Gd _ _ _); first | with_reducible refine Gd.t ?_ | with_reducible refine Gd.f ?_ | with_reducible refine Gd.dec (fun _ => ?_) (fun _ => ?_) | with_reducible refine Gd.beq (fun _ => ?_) (fun _ => ?_) | with_reducible refine Gd.bne (fun _ => ?_) (fun _ => ?_) | with_reducible refine Gd.not ?_ | refine Gd.t ?_ | refine Gd.f ?_ | with_reducible refine Gd.var (fun _ => ?_) (fun _ => ?_)) <;> first | (exfalso; omega) | skip) | with_reducible refine Sq.mk ?_ | ((with_reducible show Ld1 _ _ _); first | refine Ld1.h H ?_ | refine Ld1.rF ?_ | refine Ld1.r ?_) | ((with_reducible show Ld _ _ _ _); first | refine Ld.h H ?_ | refine Ld.r ?_) | ((with_reducible show Ix _ _ _ _ _); (first | refine Ix.h ?_ | refine Ix.ha ?_)) | (refine Al.hp H ?_; clear H; intro _ _ H _) | (refine St.h H ?_; clear H; intro _ H)) | refine Sm.strix T.ok ?_)
    (replace H := Hp.toR H hn0 hr0)
    (((conv => whnf); refine Cl.mkX (deep_c _ src pr (t0 :: r0) (d) rfl _ (H.atC 1 rfl)) ?_ ?_; rotate_left; (rintro ch w9 ⟨e9, p9, q9, h9, rfl, H'⟩; exact ⟨e9, p9, q9, (by rw [hR, h9]; rfl), rfl, Hp.pan H H' (.inl rfl)⟩)); rintro _ w8 ⟨h1, ex⟩; replace H := H.ext ex; clear ex; have hd40 := deep_le h1; rw [h1, Res.bind_ok] at hR; clear h1)
    rw [if_pos (show curK (t0 :: r0) = k_if from c1)] at hR
    obtain ⟨nx1, t1, r1, h01, hn1, hr1, hb0⟩ := H.atC (c := rdr src pr (t0 :: r0)) 1 rfl
    obtain ⟨rfl, rfl⟩ := List.cons.inj h01
    replace H := Hp.ofR H hb0
    repeat' ((conv => whnf); first | ((with_reducible show Gd (bs _ == _) _ _); first | refine Gd.sY (by assumption) ?_ | refine Gd.sk (by assumption) ?_ | refine Gd.sN (by assumption) ?_) | ((conv => whnf); first | (((with_reducible show Gd _ _ _); first | with_reducible refine Gd.t ?_ | with_reducible refine Gd.f ?_ | with_reducible refine Gd.dec (fun _ => ?_) (fun _ => ?_) | with_reducible refine Gd.beq (fun _ => ?_) (fun _ => ?_) | with_reducible refine Gd.bne (fun _ => ?_) (fun _ => ?_) | with_reducible refine Gd.not ?_ | refine Gd.t ?_ | refine Gd.f ?_ | with_reducible refine Gd.var (fun _ => ?_) (fun _ => ?_)) <;> first | (exfalso; omega) | skip) | with_reducible refine Sq.mk ?_ | ((with_reducible show Ld1 _ _ _); first | refine Ld1.h H ?_ | refine Ld1.rF ?_ | refine Ld1.r ?_) | ((with_reducible show Ld _ _ _ _); first | refine Ld.h H ?_ | refine Ld.r ?_) | ((with_reducible show Ix _ _ _ _ _); (first | refine Ix.h ?_ | refine Ix.ha ?_)) | (refine Al.hp H ?_; clear H; intro _ _ H _) | (refine St.h H ?_; clear H; intro _ H)) | refine Sm.strix T.ok ?_)
    replace H := Hp.toR H hn1 hr1
    (conv => whnf)
    refine Cl.mkX (C.choice d _ _ hd40 (H.base2 HB) (H.atC 1 rfl) (by rw [← hR]; exact hne)) ?_ ?_
    · rintro _ w3 ⟨⟨kd, nm, ⟨k1, o1, n1, a1, b1, A1, c1, l1⟩, B, cb, b, E, ce, f⟩, ts', h1, rfl, H'⟩
      replace H := H.updn (c := rdr src pr (t0 :: r0)) (Hp.swap H') rfl (.inl rfl) (.inl rfl)
      clear H'
      repeat' ((conv => whnf); first | ((with_reducible show Gd (bs _ == _) _ _); first | refine Gd.sY (by assumption) ?_ | refine Gd.sk (by assumption) ?_ | refine Gd.sN (by assumption) ?_) | ((conv => whnf); first | (((with_reducible show Gd _ _ _); first | with_reducible refine Gd.t ?_ | with_reducible refine Gd.f ?_ | with_reducible refine Gd.dec (fun _ => ?_) (fun _ => ?_) | with_reducible refine Gd.beq (fun _ => ?_) (fun _ => ?_) | with_reducible refine Gd.bne (fun _ => ?_) (fun _ => ?_) | with_reducible refine Gd.not ?_ | refine Gd.t ?_ | refine Gd.f ?_ | with_reducible refine Gd.var (fun _ => ?_) (fun _ => ?_)) <;> first | (exfalso; omega) | skip) | with_reducible refine Sq.mk ?_ | ((with_reducible show Ld1 _ _ _); first | refine Ld1.h H ?_ | refine Ld1.rF ?_ | refine Ld1.r ?_) | ((with_reducible show Ld _ _ _ _); first | refine Ld.h H ?_ | refine Ld.r ?_) | ((with_reducible show Ix _ _ _ _ _); (first | refine Ix.h ?_ | refine Ix.ha ?_)) | (refine Al.hp H ?_; clear H; intro _ _ H _) | (refine St.h H ?_; clear H; intro _ H)) | refine Sm.strix T.ok ?_)
      exact ⟨.mk kd nm (.mk k1 o1 n1 a1 b1 A1 c1 l1) B cb b E ce f, ts', by rw [hR, h1], sm_v rfl, H.sel [0, 1] rfl⟩
    · rintro ch w2 ⟨e, p, q, h1, rfl, H'⟩
      exact ⟨e, p, q, by rw [hR, h1], rfl, Hp.pan H H' (.inl rfl)⟩
  by_cases c2 : t0.kind = k_while
  · repeat' ((conv => whnf); first | ((with_reducible show Gd (bs _ == _) _ _); first | refine Gd.sY (by assumption) ?_ | refine Gd.sk (by assumption) ?_ | refine Gd.sN (by assumption) ?_) | ((conv => whnf); first | (((with_reducible show Gd _ _ _); first | with_reducible refine Gd.t ?_ | with_reducible refine Gd.f ?_ | with_reducible refine Gd.dec (fun _ => ?_) (fun _ => ?_) | with_reducible refine Gd.beq (fun _ => ?_) (fun _ => ?_) | with_reducible refine Gd.bne (fun _ => ?_) (fun _ => ?_) | with_reducible refine Gd.not ?_ | refine Gd.t ?_ | refine Gd.f ?_ | with_reducible refine Gd.var (fun _ => ?_) (fun _ => ?_)) <;> first | (exfalso; omega) | skip) | with_reducible refine Sq.mk ?_ | ((with_reducible show Ld1 _ _ _); first | refine Ld1.h H ?_ | refine Ld1.rF ?_ | refine Ld1.r ?_) | ((with_reducible show Ld _ _ _ _); first | refine Ld.h H ?_ | refine Ld.r ?_) | ((with_reducible show Ix _ _ _ _ _); (first | refine Ix.h ?_ | refine Ix.ha ?_)) | (refine Al.hp H ?_; clear H; intro _ _ H _) | (refine St.h H ?_; clear H; intro _ H)) | refine Sm.strix T.ok ?_)
    (replace H := Hp.toR H hn0 hr0)
    (((conv => whnf); refine Cl.mkX (deep_c _ src pr (t0 :: r0) (d) rfl _ (H.atC 1 rfl)) ?_ ?_; rotate_left; (rintro ch w9 ⟨e9, p9, q9, h9, rfl, H'⟩; exact ⟨e9, p9, q9, (by rw [hR, h9]; rfl), rfl, Hp.pan H H' (.inl rfl)⟩)); rintro _ w8 ⟨h1, ex⟩; replace H := H.ext ex; clear ex; have hd40 := deep_le h1; rw [h1, Res.bind_ok] at hR; clear h1)
    rw [if_neg (show ¬ curK (t0 :: r0) = k_if from c1), if_pos (show curK (t0 :: r0) = k_while from c2)] at hR
    obtain ⟨nx1, t1, r1, h01, hn1, hr1, hb0⟩ := H.atC (c := rdr src pr (t0 :: r0)) 1 rfl
    obtain ⟨rfl, rfl⟩ := List.cons.inj h01
    replace H := Hp.ofR H hb0
    repeat' ((conv => whnf); first | ((with_reducible show Gd (bs _ == _) _ _); first | refine Gd.sY (by assumption) ?_ | refine Gd.sk (by assumption) ?_ | refine Gd.sN (by assumption) ?_) | ((conv => whnf); first | (((with_reducible show Gd _ _ _); first | with_reducible refine Gd.t ?_ | with_reducible refine Gd.f ?_ | with_reducible refine Gd.dec (fun _ => ?_) (fun _ => ?_) | with_reducible refine Gd.beq (fun _ => ?_) (fun _ => ?_) | with_reducible refine Gd.bne (fun _ => ?_) (fun _ => ?_) | with_reducible refine Gd.not ?_ | refine Gd.t ?_ | refine Gd.f ?_ | with_reducible refine Gd.var (fun _ => ?_) (fun _ => ?_)) <;> first | (exfalso; omega) | skip) | with_reducible refine Sq.mk ?_ | ((with_reducible show Ld1 _ _ _); first | refine Ld1.h H ?_ | refine Ld1.rF ?_ | refine Ld1.r ?_) | ((with_reducible show Ld _ _ _ _); first | refine Ld.h H ?_ | refine Ld.r ?_) | ((with_reducible show Ix _ _ _ _ _); (first | refine Ix.h ?_ | refine Ix.ha ?_)) | (refine Al.hp H ?_; clear H; intro _ _ H _) | (refine St.h H ?_; clear H; intro _ H)) | refine Sm.strix T.ok ?_)
    replace H := Hp.toR H hn1 hr1
    (((conv => whnf); refine Cl.mkX (step_c _ src pr (t0 :: r0) wb _ (H.base2 HB) X.lo X.tb X.len (H.atC 1 rfl) (begins_ne hbg)) ?_ ?_; rotate_left; (rintro ch w9 ⟨e9, p9, q9, h9, rfl, H'⟩; exact ⟨e9, p9, q9, (by rw [hR, h9]; rfl), rfl, Hp.pan H H' (.inl rfl)⟩)); rintro _ w8 ⟨ts1, h1, H'⟩; replace H := H.upd (c := rdr src pr (t0 :: r0)) H' rfl (.inl rfl); clear H'; rw [h1, Res.bind_ok] at hR; clear h1)
    repeat' ((conv => whnf); first | ((with_reducible show Gd (bs _ == _) _ _); first | refine Gd.sY (by assumption) ?_ | refine Gd.sk (by assumption) ?_ | refine Gd.sN (by assumption) ?_) | ((conv => whnf); first | (((with_reducible show Gd _ _ _); first | with_reducible refine Gd.t ?_ | with_reducible refine Gd.f ?_ | with_reducible refine Gd.dec (fun _ => ?_) (fun _ => ?_) | with_reducible refine Gd.beq (fun _ => ?_) (fun _ => ?_) | with_reducible refine Gd.bne (fun _ => ?_) (fun _ => ?_) | with_reducible refine Gd.not ?_ | refine Gd.t ?_ | refine Gd.f ?_ | with_reducible refine Gd.var (fun _ => ?_) (fun _ => ?_)) <;> first | (exfalso; omega) | skip) | with_reducible refine Sq.mk ?_ | ((with_reducible show Ld1 _ _ _); first | refine Ld1.h H ?_ | refine Ld1.rF ?_ | refine Ld1.r ?_) | ((with_reducible show Ld _ _ _ _); first | refine Ld.h H ?_ | refine Ld.r ?_) | ((with_reducible show Ix _ _ _ _ _); (first | refine Ix.h ?_ | refine Ix.ha ?_)) | (refine Al.hp H ?_; clear H; intro _ _ H _) | (refine St.h H ?_; clear H; intro _ H)) | refine Sm.strix T.ok ?_)
    ((conv => whnf); refine Cl.mkX (C.expr 0 d ts1 _ (by omega) hd (H.base2 HB) (H.atC 1 rfl) (Res.bind_out (by rw [← hR]; exact hne))) ?_ ?_; rotate_left; (rintro ch w9 ⟨e9, p9, q9, h9, rfl, H'⟩; exact ⟨e9, p9, q9, (by rw [hR, h9]; rfl), rfl, Hp.pan H H' (.inl rfl)⟩))
    rintro _ w3 ⟨⟨kd, o, n, nm, cb, A2, c2, l2⟩, ts2, h2, rfl, H'⟩
    replace H := H.updn (c := rdr src pr ts1) (Hp.swap H') rfl (.inl rfl) (.inl rfl)
    clear H'
    rw [h2, Res.bind_ok] at hR
    repeat' ((conv => whnf); first | ((with_reducible show Gd (bs _ == _) _ _); first | refine Gd.sY (by assumption) ?_ | refine Gd.sk (by assumption) ?_ | refine Gd.sN (by assumption) ?_) | ((conv => whnf); first | (((with_reducible show Gd _ _ _); first | with_reducible refine Gd.t ?_ | with_reducible refine Gd.f ?_ | with_reducible refine Gd.dec (fun _ => ?_) (fun _ => ?_) | with_reducible refine Gd.beq (fun _ => ?_) (fun _ => ?_) | with_reducible refine Gd.bne (fun _ => ?_) (fun _ => ?_) | with_reducible refine Gd.not ?_ | refine Gd.t ?_ | refine Gd.f ?_ | with_reducible refine Gd.var (fun _ => ?_) (fun _ => ?_)) <;> first | (exfalso; omega) | skip) | with_reducible refine Sq.mk ?_ | ((with_reducible show Ld1 _ _ _); first | refine Ld1.h H ?_ | refine Ld1.rF ?_ | refine Ld1.r ?_) | ((with_reducible show Ld _ _ _ _); first | refine Ld.h H ?_ | refine Ld.r ?_) | ((with_reducible show Ix _ _ _ _ _); (first | refine Ix.h ?_ | refine Ix.ha ?_)) | (refine St.h H ?_; clear H; intro _ H)) | refine Sm.strix T.ok ?_)
    ((conv => whnf); refine Al.hp H ?_; clear H; intro p5 _ H _)
    repeat' ((conv => whnf); first | ((with_reducible show Gd (bs _ == _) _ _); first | refine Gd.sY (by assumption) ?_ | refine Gd.sk (by assumption) ?_ | refine Gd.sN (by assumption) ?_) | ((conv => whnf); first | (((with_reducible show Gd _ _ _); first | with_reducible refine Gd.t ?_ | with_reducible refine Gd.f ?_ | with_reducible refine Gd.dec (fun _ => ?_) (fun _ => ?_) | with_reducible refine Gd.beq (fun _ => ?_) (fun _ => ?_) | with_reducible refine Gd.bne (fun _ => ?_) (fun _ => ?_) | with_reducible refine Gd.not ?_ | refine Gd.t ?_ | refine Gd.f ?_ | with_reducible refine Gd.var (fun _ => ?_) (fun _ => ?_)) <;> first | (exfalso; omega) | skip) | with_reducible refine Sq.mk ?_ | ((with_reducible show Ld1 _ _ _); first | refine Ld1.h H ?_ | refine Ld1.rF ?_ | refine Ld1.r ?_) | ((with_reducible show Ld _ _ _ _); first | refine Ld.h H ?_ | refine Ld.r ?_) | ((with_reducible show Ix _ _ _ _ _); (first | refine Ix.h ?_ | refine Ix.ha ?_)) | (refine Al.hp H ?_; clear H; intro _ _ H _) | (refine St.h H ?_; clear H; intro _ H)) | refine Sm.strix T.ok ?_)
    have hblk := fun ts w => C.block (d + 1) ts w (by omega)
    rw [← hwd] at hblk
    (conv => whnf)
    refine Dr.chX T.ok mixed [0, 1, 2, 3] [4, 5, 6] (by kernel_rfl) rfl rfl (fun w' => Blk w' p5 27 (ET.enc (.mk kd o n nm cb A2 c2 l2))) (PanX R pr w) (fun ch F' w' hds h => by (conv => whnf); rw [show F'.ds = [] from hds]; exact h) (fun w1 eT _ => ?_)
    replace H := H.ext eT
    repeat' ((conv => whnf); first | refine QLd1.own (fun _ hw => hw) ?_ | refine QLd.own (fun _ hw => hw) ?_)
    (conv => whnf)
    refine ⟨H.blk 0 rfl, ?_⟩
    ((conv => whnf); refine Cl.mkX (hblk ts2 _ (H.base2 HB) (H.atC 3 rfl) (Res.bind_out (by rw [← hR]; exact hne))) ?_ ?_; rotate_left; (rintro ch w9 ⟨e9, p9, q9, h9, rfl, H'⟩; exact ⟨e9, p9, q9, (by rw [hR, h9]; rfl), rfl, Hp.pan H H' (.inl rfl)⟩))
    rintro _ w4 ⟨B, cB, b, ts3, h3, rfl, H'⟩
    replace H := H.updn (c := rdr src pr ts2) (Hp.swap H') rfl (.inl rfl) (.inl rfl)
    clear H'
    rw [h3, Res.bind_ok] at hR
    (conv => whnf)
    refine ⟨H.blk 1 rfl, ?_⟩
    repeat' (first | refine ⟨H.blk 1 rfl, ?_⟩ | ((conv => whnf); first | ((with_reducible show Gd (bs _ == _) _ _); first | refine Gd.sY (by assumption) ?_ | refine Gd.sk (by assumption) ?_ | refine Gd.sN (by assumption) ?_) | ((conv => whnf); first | (((with_reducible show Gd _ _ _); first | with_reducible refine Gd.t ?_ | with_reducible refine Gd.f ?_ | with_reducible refine Gd.dec (fun _ => ?_) (fun _ => ?_) | with_reducible refine Gd.beq (fun _ => ?_) (fun _ => ?_) | with_reducible refine Gd.bne (fun _ => ?_) (fun _ => ?_) | with_reducible refine Gd.not ?_ | refine Gd.t ?_ | refine Gd.f ?_ | with_reducible refine Gd.var (fun _ => ?_) (fun _ => ?_)) <;> first | (exfalso; omega) | skip) | with_reducible refine Sq.mk ?_ | ((with_reducible show Ld1 _ _ _); first | refine Ld1.h H ?_ | refine Ld1.rF ?_ | refine Ld1.r ?_) | ((with_reducible show Ld _ _ _ _); first | refine Ld.h H ?_ | refine Ld.r ?_) | ((with_reducible show Ix _ _ _ _ _); (first | refine Ix.h ?_ | refine Ix.ha ?_)) | (refine Al.hp H ?_; clear H; intro _ _ H _) | (refine St.h H ?_; clear H; intro _ H)) | refine Sm.strix T.ok ?_))
    refine ⟨.mk 5 [] (.mk kd o n nm cb A2 c2 l2) B cB b none 0 [], ts3, hR, sm_v rfl, Hp.stsN 5 [] ?_⟩
    replace H := Hp.stl0 H
    exact H.sel [3, 1, 0, 2] rfl
  have hp : t0.kind = k_let ∨ t0.kind = k_spawn ∨ t0.kind = k_sync ∨ t0.kind = k_do ∨ t0.kind = k_return ∨ t0.kind = k_break ∨ t0.kind = k_continue ∨ t0.kind = k_name := by
    rcases begins_or hbg with h | h | h | h | h | h | h | h | h | h <;> first | exact absurd h c1 | exact absurd h c2 | simp [h]
  rcases hp with c3 | c3 | c3 | c3 | c3 | c3 | c3 | c3
  all_goals
    repeat' ((conv => whnf); first | ((with_reducible show Gd (bs _ == _) _ _); first | refine Gd.sY (by assumption) ?_ | refine Gd.sk (by assumption) ?_ | refine Gd.sN (by assumption) ?_) | ((conv => whnf); first | (((with_reducible show Gd _ _ _); first | with_reducible refine Gd.t ?_ | with_reducible refine Gd.f ?_ | with_reducible refine Gd.dec (fun _ => ?_) (fun _ => ?_) | with_reducible refine Gd.beq (fun _ => ?_) (fun _ => ?_) | with_reducible refine Gd.bne (fun _ => ?_) (fun _ => ?_) | with_reducible refine Gd.not ?_ | refine Gd.t ?_ | refine Gd.f ?_ | with_reducible refine Gd.var (fun _ => ?_) (fun _ => ?_)) <;> first | (exfalso; omega) | skip) | with_reducible refine Sq.mk ?_ | ((with_reducible show Ld1 _ _ _); first | refine Ld1.h H ?_ | refine Ld1.rF ?_ | refine Ld1.r ?_) | ((with_reducible show Ld _ _ _ _); first | refine Ld.h H ?_ | refine Ld.r ?_) | ((with_reducible show Ix _ _ _ _ _); (first | refine Ix.h ?_ | refine Ix.ha ?_)) | (refine Al.hp H ?_; clear H; intro _ _ H _) | (refine St.h H ?_; clear H; intro _ H)) | refine Sm.strix T.ok ?_)
    (replace H := Hp.toR H hn0 hr0)
    (((conv => whnf); refine Cl.mkX (deep_c _ src pr (t0 :: r0) (d) rfl _ (H.atC 1 rfl)) ?_ ?_; rotate_left; (rintro ch w9 ⟨e9, p9, q9, h9, rfl, H'⟩; exact ⟨e9, p9, q9, (by rw [hR, h9]; rfl), rfl, Hp.pan H H' (.inl rfl)⟩)); rintro _ w8 ⟨h1, ex⟩; replace H := H.ext ex; clear ex; have hd40 := deep_le h1; rw [h1, Res.bind_ok] at hR; clear h1)
    rw [if_neg (show ¬ curK (t0 :: r0) = k_if from c1), if_neg (show ¬ curK (t0 :: r0) = k_while from c2)] at hR
    obtain ⟨nx1, t1, r1, h01, hn1, hr1, hb0⟩ := H.atC (c := rdr src pr (t0 :: r0)) 1 rfl
    obtain ⟨rfl, rfl⟩ := List.cons.inj h01
    replace H := Hp.ofR H hb0
    repeat' ((conv => whnf); first | ((with_reducible show Gd (bs _ == _) _ _); first | refine Gd.sY (by assumption) ?_ | refine Gd.sk (by assumption) ?_ | refine Gd.sN (by assumption) ?_) | ((conv => whnf); first | (((with_reducible show Gd _ _ _); first | with_reducible refine Gd.t ?_ | with_reducible refine Gd.f ?_ | with_reducible refine Gd.dec (fun _ => ?_) (fun _ => ?_) | with_reducible refine Gd.beq (fun _ => ?_) (fun _ => ?_) | with_reducible refine Gd.bne (fun _ => ?_) (fun _ => ?_) | with_reducible refine Gd.not ?_ | refine Gd.t ?_ | refine Gd.f ?_ | with_reducible refine Gd.var (fun _ => ?_) (fun _ => ?_)) <;> first | (exfalso; omega) | skip) | with_reducible refine Sq.mk ?_ | ((with_reducible show Ld1 _ _ _); first | refine Ld1.h H ?_ | refine Ld1.rF ?_ | refine Ld1.r ?_) | ((with_reducible show Ld _ _ _ _); first | refine Ld.h H ?_ | refine Ld.r ?_) | ((with_reducible show Ix _ _ _ _ _); (first | refine Ix.h ?_ | refine Ix.ha ?_)) | (refine Al.hp H ?_; clear H; intro _ _ H _) | (refine St.h H ?_; clear H; intro _ H)) | refine Sm.strix T.ok ?_)
    replace H := Hp.toR H hn1 hr1
    ((conv => whnf); refine Cl.mkX (plain_c X C d (t0 :: r0) _ hd (H.base2 HB) (H.atC 1 rfl) hbg (Res.bind_out (by rw [← hR]; exact hne))) ?_ ?_; rotate_left; (rintro ch w9 ⟨e9, p9, q9, h9, rfl, H'⟩; exact ⟨e9, p9, q9, (by rw [hR, h9]; rfl), rfl, Hp.pan H H' (.inl rfl)⟩))
    rintro _ w3 ⟨⟨kd, nm, ⟨k1, o1, n1, a1, b1, A1, c1, l1⟩, B, cb, b, E, ce, f⟩, ts1, h1, rfl, H'⟩
    replace H := H.updn (c := rdr src pr (t0 :: r0)) (Hp.swap H') rfl (.inl rfl) (.inl rfl)
    clear H'
    rw [h1, Res.bind_ok] at hR
    repeat' ((conv => whnf); first | ((with_reducible show Gd (bs _ == _) _ _); first | refine Gd.sY (by assumption) ?_ | refine Gd.sk (by assumption) ?_ | refine Gd.sN (by assumption) ?_) | ((conv => whnf); first | (((with_reducible show Gd _ _ _); first | with_reducible refine Gd.t ?_ | with_reducible refine Gd.f ?_ | with_reducible refine Gd.dec (fun _ => ?_) (fun _ => ?_) | with_reducible refine Gd.beq (fun _ => ?_) (fun _ => ?_) | with_reducible refine Gd.bne (fun _ => ?_) (fun _ => ?_) | with_reducible refine Gd.not ?_ | refine Gd.t ?_ | refine Gd.f ?_ | with_reducible refine Gd.var (fun _ => ?_) (fun _ => ?_)) <;> first | (exfalso; omega) | skip) | with_reducible refine Sq.mk ?_ | ((with_reducible show Ld1 _ _ _); first | refine Ld1.h H ?_ | refine Ld1.rF ?_ | refine Ld1.r ?_) | ((with_reducible show Ld _ _ _ _); first | refine Ld.h H ?_ | refine Ld.r ?_) | ((with_reducible show Ix _ _ _ _ _); (first | refine Ix.h ?_ | refine Ix.ha ?_)) | (refine St.h H ?_; clear H; intro _ H)) | refine Sm.strix T.ok ?_)
    ((conv => whnf); refine Al.hp H ?_; clear H; intro p6 _ H _)
    repeat' ((conv => whnf); first | ((with_reducible show Gd (bs _ == _) _ _); first | refine Gd.sY (by assumption) ?_ | refine Gd.sk (by assumption) ?_ | refine Gd.sN (by assumption) ?_) | ((conv => whnf); first | (((with_reducible show Gd _ _ _); first | with_reducible refine Gd.t ?_ | with_reducible refine Gd.f ?_ | with_reducible refine Gd.dec (fun _ => ?_) (fun _ => ?_) | with_reducible refine Gd.beq (fun _ => ?_) (fun _ => ?_) | with_reducible refine Gd.bne (fun _ => ?_) (fun _ => ?_) | with_reducible refine Gd.not ?_ | refine Gd.t ?_ | refine Gd.f ?_ | with_reducible refine Gd.var (fun _ => ?_) (fun _ => ?_)) <;> first | (exfalso; omega) | skip) | with_reducible refine Sq.mk ?_ | ((with_reducible show Ld1 _ _ _); first | refine Ld1.h H ?_ | refine Ld1.rF ?_ | refine Ld1.r ?_) | ((with_reducible show Ld _ _ _ _); first | refine Ld.h H ?_ | refine Ld.r ?_) | ((with_reducible show Ix _ _ _ _ _); (first | refine Ix.h ?_ | refine Ix.ha ?_)) | (refine Al.hp H ?_; clear H; intro _ _ H _) | (refine St.h H ?_; clear H; intro _ H)) | refine Sm.strix T.ok ?_)
    (((conv => whnf); refine Cl.mkX (take_c s_semi src pr (ts1) wb _ (H.base2 HB) X.lo X.tb X.len (H.atC 3 rfl) (by decide)) ?_ ?_; rotate_left; (rintro ch w9 ⟨e9, p9, q9, h9, rfl, H'⟩; exact ⟨e9, p9, q9, (by rw [hR, h9]; rfl), rfl, Hp.pan H H' (.inl rfl)⟩)); rintro _ w8 ⟨t9, ts9, h1, rfl, H'⟩; replace H := H.upd (c := rdr src pr (ts1)) H' rfl (.inl rfl); clear H'; rw [h1, Res.bind_ok] at hR; clear h1)
    repeat' ((conv => whnf); first | ((with_reducible show Gd (bs _ == _) _ _); first | refine Gd.sY (by assumption) ?_ | refine Gd.sk (by assumption) ?_ | refine Gd.sN (by assumption) ?_) | ((conv => whnf); first | (((with_reducible show Gd _ _ _); first | with_reducible refine Gd.t ?_ | with_reducible refine Gd.f ?_ | with_reducible refine Gd.dec (fun _ => ?_) (fun _ => ?_) | with_reducible refine Gd.beq (fun _ => ?_) (fun _ => ?_) | with_reducible refine Gd.bne (fun _ => ?_) (fun _ => ?_) | with_reducible refine Gd.not ?_ | refine Gd.t ?_ | refine Gd.f ?_ | with_reducible refine Gd.var (fun _ => ?_) (fun _ => ?_)) <;> first | (exfalso; omega) | skip) | with_reducible refine Sq.mk ?_ | ((with_reducible show Ld1 _ _ _); first | refine Ld1.h H ?_ | refine Ld1.rF ?_ | refine Ld1.r ?_) | ((with_reducible show Ld _ _ _ _); first | refine Ld.h H ?_ | refine Ld.r ?_) | ((with_reducible show Ix _ _ _ _ _); (first | refine Ix.h ?_ | refine Ix.ha ?_)) | (refine Al.hp H ?_; clear H; intro _ _ H _) | (refine St.h H ?_; clear H; intro _ H)) | refine Sm.strix T.ok ?_)
    exact ⟨.mk kd nm (.mk k1 o1 n1 a1 b1 A1 c1 l1) B cb b E ce f, ts9, hR, sm_v rfl, H.sel [1, 2] rfl⟩
end
end Go.Proofs.YtapdmkgdiaechaaDoor
namespace Go.Proofs.YtapdmkgdiaechaaDoor
open Go Go.Sh Go.Tx
set_option linter.unusedVariables false
set_option linter.unusedSimpArgs false
set_option linter.unusedSectionVars false
attribute [local irreducible] Blk Ext RdS
section
variable {src : Bs} {pr : Nat} {wb : World} {F : PF} (X : Txt src pr wb) (C : Con src pr wb F)
include X C
set_option maxHeartbeats 4000000 in
theorem block_c (d : Nat) (ts : List Tk) (w : World) (hd : d ≤ 41) (hwb : Ext wb w) (h : Rdr src pr ts w) (hne : blockP F d ts ≠ .out) :
    Cl Tryd.prog 25 #[.pointer (some ⟨pr, 0, none⟩), .int .i64 (d : Int)] w (OkB src pr (blockP F d ts) w) (PanX (blockP F d ts) pr w) := by
  have HB := X.ok hwb
  have hsl := X.len
  obtain ⟨R, hR⟩ : ∃ R, R = blockP F d ts := ⟨_, rfl⟩
  rw [← hR] at hne ⊢
  unfold blockP at hR
  refine calls_ex (args := [.pointer (some ⟨pr, 0, none⟩), .int .i64 (d : Int)]) T.ok Tryd.func25 rfl rfl rfl rfl ?_
  have H := Hp.start (S := (· = pr)) (rdr_ok h) (fun k hk => hk)
  clear h
  repeat' ((conv => whnf); first | ((with_reducible show Gd (bs _ == _) _ _); first | refine Gd.sY (by assumption) ?_ | refine Gd.sk (by assumption) ?_ | refine Gd.sN (by assumption) ?_) | ((conv => whnf); first | (((with_reducible show Gd _ _ _); first | with_reducible refine Gd.t ?_ | with_reducible refine Gd.f ?_ | with_reducible refine Gd.dec (fun _ => ?_) (fun _ => ?_) | with_reducible refine Gd.beq (fun _ => ?_) (fun _ => ?_) | with_reducible refine Gd.bne (fun _ => ?_) (fun _ => ?_) | with_reducible refine Gd.not ?_ | refine Gd.t ?_ | refine Gd.f ?_ | with_reducible refine Gd.var (fun _ => ?_) (fun _ => ?_)) <;> first | (exfalso; omega) | skip) | with_reducible refine Sq.mk ?_ | ((with_reducible show Ld1 _ _ _); first | refine Ld1.h H ?_ | refine Ld1.rF ?_ | refine Ld1.r ?_) | ((with_reducible show Ld _ _ _ _); first | refine Ld.h H ?_ | refine Ld.r ?_) | ((with_reducible show Ix _ _ _ _ _); (first | refine Ix.h ?_ | refine Ix.ha ?_)) | (refine Al.hp H ?_; clear H; intro _ _ H _) | (refine St.h H ?_; clear H; intro _ H)) | refine Sm.strix T.ok ?_)
  (((conv => whnf); refine Cl.mkX (take_c s_lb src pr (ts) wb _ (H.base2 HB) X.lo X.tb X.len (H.atC 0 rfl) (by decide)) ?_ ?_; rotate_left; (rintro ch w9 ⟨e9, p9, q9, h9, rfl, H'⟩; exact ⟨e9, p9, q9, (by rw [hR, h9]; rfl), rfl, Hp.pan H H' (.inl rfl)⟩)); rintro _ w8 ⟨t1, ts1, h1, rfl, H'⟩; replace H := H.upd (c := rdr src pr (ts)) H' rfl (.inl rfl); clear H'; rw [h1, Res.bind_ok] at hR; clear h1)
  have hN : ts1.length ≤ src.length + 2 := (H.atC (c := rdr src pr ts1) 0 rfl).len
  generalize hN0 : ts1.length + 1 = N at hR
  have hNb : N ≤ 1000010 := by omega
  replace H := Hp.nil (Hp.sts0 H) SM.enc 10 47
  repeat' ((conv => whnf); first | ((with_reducible show Gd (bs _ == _) _ _); first | refine Gd.sY (by assumption) ?_ | refine Gd.sk (by assumption) ?_ | refine Gd.sN (by assumption) ?_) | ((conv => whnf); first | (((with_reducible show Gd _ _ _); first | with_reducible refine Gd.t ?_ | with_reducible refine Gd.f ?_ | with_reducible refine Gd.dec (fun _ => ?_) (fun _ => ?_) | with_reducible refine Gd.beq (fun _ => ?_) (fun _ => ?_) | with_reducible refine Gd.bne (fun _ => ?_) (fun _ => ?_) | with_reducible refine Gd.not ?_ | refine Gd.t ?_ | refine Gd.f ?_ | with_reducible refine Gd.var (fun _ => ?_) (fun _ => ?_)) <;> first | (exfalso; omega) | skip) | with_reducible refine Sq.mk ?_ | ((with_reducible show Ld1 _ _ _); first | refine Ld1.h H ?_ | refine Ld1.rF ?_ | refine Ld1.r ?_) | ((with_reducible show Ld _ _ _ _); first | refine Ld.h H ?_ | refine Ld.r ?_) | ((with_reducible show Ix _ _ _ _ _); (first | refine Ix.h ?_ | refine Ix.ha ?_)) | (refine Al.hp H ?_; clear H; intro _ _ H _) | (refine St.h H ?_; clear H; intro _ H)) | refine Sm.strix T.ok ?_)
  refine Lp.g0 T.ok (σ := Nat × Option Addr × Nat × List SM × List Tk) (fun q => [(5, .slice q.2.1 q.2.2.2.1.length q.2.2.1), (4, .slice none 0 0), (0, .pointer (some ⟨pr, 0, none⟩)), (1, .int .i64 (d : Int))])
    (fun q w' => R = (loopB F d q.1 (SM.es q.2.2.2.1) q.2.2.2.2).bind (fun l ts2 => (takeP s_rb ts2).bind fun _ ts3 => .ok l ts3) ∧ q.1 + q.2.2.2.1.length ≤ N ∧ Hp (· = pr) w w' [qu SM.enc 10 47 q.2.1 q.2.2.1 q.2.2.2.1, sts q.2.2.2.1, rdr src pr q.2.2.2.2]) (fun q _ => q.1) (N, none, 0, [], ts1) rfl ⟨rfl, rfl, rfl, rfl, trivial⟩ ⟨hR, Nat.le_refl _, H⟩ ?_
  clear H hR hN0 hN
  rintro ⟨f, A, c, l, ts⟩ w5 ⟨hR, hN, H⟩
  simp only at hR hN H ⊢
  cases f with
  | zero => exact absurd hR hne
  | succ f =>
  simp only [loopB] at hR
  (obtain ⟨nx, t0, r0, rfl, hnx, hr0, hb0⟩ := H.atC (c := rdr src pr ts) 2 rfl; replace H := Hp.ofR H hb0; clear hb0)
  by_cases hk : t0.kind = s_rb
  · rw [if_pos (show curK (t0 :: r0) = s_rb from hk), Res.bind_ok] at hR
    repeat' ((conv => whnf); first | ((with_reducible show Gd (bs _ == _) _ _); first | refine Gd.sY (by assumption) ?_ | refine Gd.sk (by assumption) ?_ | refine Gd.sN (by assumption) ?_) | ((conv => whnf); first | (((with_reducible show Gd _ _ _); first | with_reducible refine Gd.t ?_ | with_reducible refine Gd.f ?_ | with_reducible refine Gd.dec (fun _ => ?_) (fun _ => ?_) | with_reducible refine Gd.beq (fun _ => ?_) (fun _ => ?_) | with_reducible refine Gd.bne (fun _ => ?_) (fun _ => ?_) | with_reducible refine Gd.not ?_ | refine Gd.t ?_ | refine Gd.f ?_ | with_reducible refine Gd.var (fun _ => ?_) (fun _ => ?_)) <;> first | (exfalso; omega) | skip) | with_reducible refine Sq.mk ?_ | ((with_reducible show Ld1 _ _ _); first | refine Ld1.h H ?_ | refine Ld1.rF ?_ | refine Ld1.r ?_) | ((with_reducible show Ld _ _ _ _); first | refine Ld.h H ?_ | refine Ld.r ?_) | ((with_reducible show Ix _ _ _ _ _); (first | refine Ix.h ?_ | refine Ix.ha ?_)) | (refine Al.hp H ?_; clear H; intro _ _ H _) | (refine St.h H ?_; clear H; intro _ H)) | refine Sm.strix T.ok ?_)
    (replace H := Hp.toR H hnx hr0; clear hnx hr0)
    (((conv => whnf); refine Cl.mkX (take_c s_rb src pr (t0 :: r0) wb _ (H.base2 HB) X.lo X.tb X.len (H.atC 2 rfl) (by decide)) ?_ ?_; rotate_left; (rintro ch w9 ⟨e9, p9, q9, h9, rfl, H'⟩; exact ⟨e9, p9, q9, (by rw [hR, h9]; rfl), rfl, Hp.pan H H' (.inl rfl)⟩)); rintro _ w8 ⟨t1, ts1, h1, rfl, H'⟩; replace H := H.upd (c := rdr src pr (t0 :: r0)) H' rfl (.inl rfl); clear H'; rw [h1, Res.bind_ok] at hR; clear h1)
    repeat' ((conv => whnf); first | ((with_reducible show Gd (bs _ == _) _ _); first | refine Gd.sY (by assumption) ?_ | refine Gd.sk (by assumption) ?_ | refine Gd.sN (by assumption) ?_) | ((conv => whnf); first | (((with_reducible show Gd _ _ _); first | with_reducible refine Gd.t ?_ | with_reducible refine Gd.f ?_ | with_reducible refine Gd.dec (fun _ => ?_) (fun _ => ?_) | with_reducible refine Gd.beq (fun _ => ?_) (fun _ => ?_) | with_reducible refine Gd.bne (fun _ => ?_) (fun _ => ?_) | with_reducible refine Gd.not ?_ | refine Gd.t ?_ | refine Gd.f ?_ | with_reducible refine Gd.var (fun _ => ?_) (fun _ => ?_)) <;> first | (exfalso; omega) | skip) | with_reducible refine Sq.mk ?_ | ((with_reducible show Ld1 _ _ _); first | refine Ld1.h H ?_ | refine Ld1.rF ?_ | refine Ld1.r ?_) | ((with_reducible show Ld _ _ _ _); first | refine Ld.h H ?_ | refine Ld.r ?_) | ((with_reducible show Ix _ _ _ _ _); (first | refine Ix.h ?_ | refine Ix.ha ?_)) | (refine Al.hp H ?_; clear H; intro _ _ H _) | (refine St.h H ?_; clear H; intro _ H)) | refine Sm.strix T.ok ?_)
    exact ⟨A, c, l, ts1, hR, rfl, Hp.stlN H⟩
  rw [if_neg (show ¬ curK (t0 :: r0) = s_rb from hk), Res.bind_assoc] at hR
  repeat' ((conv => whnf); first | ((with_reducible show Gd (bs _ == _) _ _); first | refine Gd.sY (by assumption) ?_ | refine Gd.sk (by assumption) ?_ | refine Gd.sN (by assumption) ?_) | ((conv => whnf); first | (((with_reducible show Gd _ _ _); first | with_reducible refine Gd.t ?_ | with_reducible refine Gd.f ?_ | with_reducible refine Gd.dec (fun _ => ?_) (fun _ => ?_) | with_reducible refine Gd.beq (fun _ => ?_) (fun _ => ?_) | with_reducible refine Gd.bne (fun _ => ?_) (fun _ => ?_) | with_reducible refine Gd.not ?_ | refine Gd.t ?_ | refine Gd.f ?_ | with_reducible refine Gd.var (fun _ => ?_) (fun _ => ?_)) <;> first | (exfalso; omega) | skip) | with_reducible refine Sq.mk ?_ | ((with_reducible show Ld1 _ _ _); first | refine Ld1.h H ?_ | refine Ld1.rF ?_ | refine Ld1.r ?_) | ((with_reducible show Ld _ _ _ _); first | refine Ld.h H ?_ | refine Ld.r ?_) | ((with_reducible show Ix _ _ _ _ _); (first | refine Ix.h ?_ | refine Ix.ha ?_)) | (refine Al.hp H ?_; clear H; intro _ _ H _) | (refine St.h H ?_; clear H; intro _ H)) | refine Sm.strix T.ok ?_)
  (replace H := Hp.toR H hnx hr0; clear hnx hr0)
  ((conv => whnf); refine Cl.mkX (statement_c X C d (t0 :: r0) _ hd (H.base2 HB) (H.atC 2 rfl) (Res.bind_out (by rw [← hR]; exact hne))) ?_ ?_; rotate_left; (rintro ch w9 ⟨e9, p9, q9, h9, rfl, H'⟩; exact ⟨e9, p9, q9, (by rw [hR, h9]; rfl), rfl, Hp.pan H H' (.inl rfl)⟩))
  rintro _ w3 ⟨⟨kd, nm, ⟨k1, o1, n1, a1, b1, A1, c1, l1⟩, B, cb, b, E, ce, el⟩, ts2, h2, rfl, H'⟩
  replace H := H.updn (c := rdr src pr (t0 :: r0)) (Hp.swap H') rfl (.inl rfl) (.inl rfl)
  clear H'
  rw [h2, Res.bind_ok] at hR
  refine Sm.lith (cs := SM.enc (.mk kd nm (.mk k1 o1 n1 a1 b1 A1 c1 l1) B cb b E ce el)) H T.ok (fun p5 w4 H _ => ?_)
  refine Sm.ap1 (enc := SM.enc) (.mk kd nm (.mk k1 o1 n1 a1 b1 A1 c1 l1) B cb b E ce el) H T.ok ?_ ?_ (fun A' c' w6 H => ?_)
  · show (l.length + 1) * 152 ≤ _; omega
  · omega
  simp only [List.cons_append, List.nil_append] at H
  repeat' ((conv => whnf); first | ((with_reducible show Gd (bs _ == _) _ _); first | refine Gd.sY (by assumption) ?_ | refine Gd.sk (by assumption) ?_ | refine Gd.sN (by assumption) ?_) | ((conv => whnf); first | (((with_reducible show Gd _ _ _); first | with_reducible refine Gd.t ?_ | with_reducible refine Gd.f ?_ | with_reducible refine Gd.dec (fun _ => ?_) (fun _ => ?_) | with_reducible refine Gd.beq (fun _ => ?_) (fun _ => ?_) | with_reducible refine Gd.bne (fun _ => ?_) (fun _ => ?_) | with_reducible refine Gd.not ?_ | refine Gd.t ?_ | refine Gd.f ?_ | with_reducible refine Gd.var (fun _ => ?_) (fun _ => ?_)) <;> first | (exfalso; omega) | skip) | with_reducible refine Sq.mk ?_ | ((with_reducible show Ld1 _ _ _); first | refine Ld1.h H ?_ | refine Ld1.rF ?_ | refine Ld1.r ?_) | ((with_reducible show Ld _ _ _ _); first | refine Ld.h H ?_ | refine Ld.r ?_) | ((with_reducible show Ix _ _ _ _ _); (first | refine Ix.h ?_ | refine Ix.ha ?_)) | (refine Al.hp H ?_; clear H; intro _ _ H _) | (refine St.h H ?_; clear H; intro _ H)) | refine Sm.strix T.ok ?_)
  refine ⟨(f, A', c', l ++ [.mk kd nm (.mk k1 o1 n1 a1 b1 A1 c1 l1) B cb b E ce el], ts2), ⟨at_val rfl (by simp), rfl, rfl, rfl, trivial⟩, rfl, ⟨?_, ?_, ?_⟩, Nat.lt_succ_self f⟩
  · rw [hR, SM.es_app]; rfl
  · simp only [List.length_append, List.length_cons, List.length_nil]; omega
  · exact Hp.swap (Hp.stsS (H.sel [0, 1, 0, 0] rfl))
set_option maxHeartbeats 4000000 in
theorem choice_c (d : Nat) (ts : List Tk) (w : World) (hd : d ≤ 40) (hwb : Ext wb w) (h : Rdr src pr ts w) (hne : choiceP F d ts ≠ .out) :
    Cl Tryd.prog 47 #[.pointer (some ⟨pr, 0, none⟩), .int .i64 (d : Int)] w (OkS src pr (choiceP F d ts) w) (PanX (choiceP F d ts) pr w) := by
  have HB := X.ok hwb
  have hwd : IntKind.i64.wrap ((d : Int) + 1) = ((d + 1 : Nat) : Int) := w64 rfl (by omega) (by omega)
  have hblk := fun ts w => C.block (d + 1) ts w (by omega)
  rw [← hwd] at hblk
  have hcho := fun ts w => C.choice (d + 1) ts w
  rw [← hwd] at hcho
  obtain ⟨R, hR⟩ : ∃ R, R = choiceP F d ts := ⟨_, rfl⟩
  rw [← hR] at hne ⊢
  unfold choiceP at hR
  refine calls_ex (args := [.pointer (some ⟨pr, 0, none⟩), .int .i64 (d : Int)]) T.ok Tryd.func47 rfl rfl rfl rfl ?_
  have H := Hp.start (S := (· = pr)) (rdr_ok h) (fun k hk => hk)
  clear h
  refine Sq.mk ?_
  ((conv => whnf); refine Al.hp H ?_; clear H; intro p4 _ H _)
  repeat' ((conv => whnf); first | ((with_reducible show Gd (bs _ == _) _ _); first | refine Gd.sY (by assumption) ?_ | refine Gd.sk (by assumption) ?_ | refine Gd.sN (by assumption) ?_) | ((conv => whnf); first | (((with_reducible show Gd _ _ _); first | with_reducible refine Gd.t ?_ | with_reducible refine Gd.f ?_ | with_reducible refine Gd.dec (fun _ => ?_) (fun _ => ?_) | with_reducible refine Gd.beq (fun _ => ?_) (fun _ => ?_) | with_reducible refine Gd.bne (fun _ => ?_) (fun _ => ?_) | with_reducible refine Gd.not ?_ | refine Gd.t ?_ | refine Gd.f ?_ | with_reducible refine Gd.var (fun _ => ?_) (fun _ => ?_)) <;> first | (exfalso; omega) | skip) | with_reducible refine Sq.mk ?_ | ((with_reducible show Ld1 _ _ _); first | refine Ld1.h H ?_ | refine Ld1.rF ?_ | refine Ld1.r ?_) | ((with_reducible show Ld _ _ _ _); first | refine Ld.h H ?_ | refine Ld.r ?_) | ((with_reducible show Ix _ _ _ _ _); (first | refine Ix.h ?_ | refine Ix.ha ?_)) | (refine Al.hp H ?_; clear H; intro _ _ H _) | (refine St.h H ?_; clear H; intro _ H)) | refine Sm.strix T.ok ?_)
  (((conv => whnf); refine Cl.mkX (take_c k_if src pr (ts) wb _ (H.base2 HB) X.lo X.tb X.len (H.atC 1 rfl) (by decide)) ?_ ?_; rotate_left; (rintro ch w9 ⟨e9, p9, q9, h9, rfl, H'⟩; exact ⟨e9, p9, q9, (by rw [hR, h9]; rfl), rfl, Hp.pan H H' (.inl rfl)⟩)); rintro _ w8 ⟨t1, ts1, h1, rfl, H'⟩; replace H := H.upd (c := rdr src pr (ts)) H' rfl (.inl rfl); clear H'; rw [h1, Res.bind_ok] at hR; clear h1)
  repeat' ((conv => whnf); first | ((with_reducible show Gd (bs _ == _) _ _); first | refine Gd.sY (by assumption) ?_ | refine Gd.sk (by assumption) ?_ | refine Gd.sN (by assumption) ?_) | ((conv => whnf); first | (((with_reducible show Gd _ _ _); first | with_reducible refine Gd.t ?_ | with_reducible refine Gd.f ?_ | with_reducible refine Gd.dec (fun _ => ?_) (fun _ => ?_) | with_reducible refine Gd.beq (fun _ => ?_) (fun _ => ?_) | with_reducible refine Gd.bne (fun _ => ?_) (fun _ => ?_) | with_reducible refine Gd.not ?_ | refine Gd.t ?_ | refine Gd.f ?_ | with_reducible refine Gd.var (fun _ => ?_) (fun _ => ?_)) <;> first | (exfalso; omega) | skip) | with_reducible refine Sq.mk ?_ | ((with_reducible show Ld1 _ _ _); first | refine Ld1.h H ?_ | refine Ld1.rF ?_ | refine Ld1.r ?_) | ((with_reducible show Ld _ _ _ _); first | refine Ld.h H ?_ | refine Ld.r ?_) | ((with_reducible show Ix _ _ _ _ _); (first | refine Ix.h ?_ | refine Ix.ha ?_)) | (refine Al.hp H ?_; clear H; intro _ _ H _) | (refine St.h H ?_; clear H; intro _ H)) | refine Sm.strix T.ok ?_)
  ((conv => whnf); refine Cl.mkX (C.expr 0 d ts1 _ (by omega) (by omega) (H.base2 HB) (H.atC 1 rfl) (Res.bind_out (by rw [← hR]; exact hne))) ?_ ?_; rotate_left; (rintro ch w9 ⟨e9, p9, q9, h9, rfl, H'⟩; exact ⟨e9, p9, q9, (by rw [hR, h9]; rfl), rfl, Hp.pan H H' (.inl rfl)⟩))
  rintro _ w3 ⟨⟨kd, o, n, nm, cb, A2, c2, l2⟩, ts2, h2, rfl, H'⟩
  replace H := H.updn (c := rdr src pr ts1) (Hp.swap H') rfl (.inl rfl) (.inl rfl)
  clear H'
  rw [h2, Res.bind_ok] at hR
  repeat' ((conv => whnf); first | ((with_reducible show Gd (bs _ == _) _ _); first | refine Gd.sY (by assumption) ?_ | refine Gd.sk (by assumption) ?_ | refine Gd.sN (by assumption) ?_) | ((conv => whnf); first | (((with_reducible show Gd _ _ _); first | with_reducible refine Gd.t ?_ | with_reducible refine Gd.f ?_ | with_reducible refine Gd.dec (fun _ => ?_) (fun _ => ?_) | with_reducible refine Gd.beq (fun _ => ?_) (fun _ => ?_) | with_reducible refine Gd.bne (fun _ => ?_) (fun _ => ?_) | with_reducible refine Gd.not ?_ | refine Gd.t ?_ | refine Gd.f ?_ | with_reducible refine Gd.var (fun _ => ?_) (fun _ => ?_)) <;> first | (exfalso; omega) | skip) | with_reducible refine Sq.mk ?_ | ((with_reducible show Ld1 _ _ _); first | refine Ld1.h H ?_ | refine Ld1.rF ?_ | refine Ld1.r ?_) | ((with_reducible show Ld _ _ _ _); first | refine Ld.h H ?_ | refine Ld.r ?_) | ((with_reducible show Ix _ _ _ _ _); (first | refine Ix.h ?_ | refine Ix.ha ?_)) | (refine St.h H ?_; clear H; intro _ H)) | refine Sm.strix T.ok ?_)
  ((conv => whnf); refine Al.hp H ?_; clear H; intro p5 _ H _)
  repeat' ((conv => whnf); first | ((with_reducible show Gd (bs _ == _) _ _); first | refine Gd.sY (by assumption) ?_ | refine Gd.sk (by assumption) ?_ | refine Gd.sN (by assumption) ?_) | ((conv => whnf); first | (((with_reducible show Gd _ _ _); first | with_reducible refine Gd.t ?_ | with_reducible refine Gd.f ?_ | with_reducible refine Gd.dec (fun _ => ?_) (fun _ => ?_) | with_reducible refine Gd.beq (fun _ => ?_) (fun _ => ?_) | with_reducible refine Gd.bne (fun _ => ?_) (fun _ => ?_) | with_reducible refine Gd.not ?_ | refine Gd.t ?_ | refine Gd.f ?_ | with_reducible refine Gd.var (fun _ => ?_) (fun _ => ?_)) <;> first | (exfalso; omega) | skip) | with_reducible refine Sq.mk ?_ | ((with_reducible show Ld1 _ _ _); first | refine Ld1.h H ?_ | refine Ld1.rF ?_ | refine Ld1.r ?_) | ((with_reducible show Ld _ _ _ _); first | refine Ld.h H ?_ | refine Ld.r ?_) | ((with_reducible show Ix _ _ _ _ _); (first | refine Ix.h ?_ | refine Ix.ha ?_)) | (refine Al.hp H ?_; clear H; intro _ _ H _) | (refine St.h H ?_; clear H; intro _ H)) | refine Sm.strix T.ok ?_)
  ((conv => whnf); refine Cl.mkX (hblk ts2 _ (H.base2 HB) (H.atC 3 rfl) (Res.bind_out (by rw [← hR]; exact hne))) ?_ ?_; rotate_left; (rintro ch w9 ⟨e9, p9, q9, h9, rfl, H'⟩; exact ⟨e9, p9, q9, (by rw [hR, h9]; rfl), rfl, Hp.pan H H' (.inl rfl)⟩))
  rintro _ w4 ⟨B, cB, b, ts3, h3, rfl, H'⟩
  replace H := H.updn (c := rdr src pr ts2) (Hp.swap H') rfl (.inl rfl) (.inl rfl)
  clear H'
  rw [h3, Res.bind_ok] at hR
  repeat' ((conv => whnf); first | ((with_reducible show Gd (bs _ == _) _ _); first | refine Gd.sY (by assumption) ?_ | refine Gd.sk (by assumption) ?_ | refine Gd.sN (by assumption) ?_) | ((conv => whnf); first | (((with_reducible show Gd _ _ _); first | with_reducible refine Gd.t ?_ | with_reducible refine Gd.f ?_ | with_reducible refine Gd.dec (fun _ => ?_) (fun _ => ?_) | with_reducible refine Gd.beq (fun _ => ?_) (fun _ => ?_) | with_reducible refine Gd.bne (fun _ => ?_) (fun _ => ?_) | with_reducible refine Gd.not ?_ | refine Gd.t ?_ | refine Gd.f ?_ | with_reducible refine Gd.var (fun _ => ?_) (fun _ => ?_)) <;> first | (exfalso; omega) | skip) | with_reducible refine Sq.mk ?_ | ((with_reducible show Ld1 _ _ _); first | refine Ld1.h H ?_ | refine Ld1.rF ?_ | refine Ld1.r ?_) | ((with_reducible show Ld _ _ _ _); first | refine Ld.h H ?_ | refine Ld.r ?_) | ((with_reducible show Ix _ _ _ _ _); (first | refine Ix.h ?_ | refine Ix.ha ?_)) | (refine St.h H ?_; clear H; intro _ H)) | refine Sm.strix T.ok ?_)
  (obtain ⟨nx3, t3, r3, rfl, hn3, hr3, hb0⟩ := H.atC (c := rdr src pr ts3) 4 rfl; replace H := Hp.ofR H hb0; clear hb0)
  by_cases hel : t3.kind = k_else
  case neg =>
    rw [if_pos (show curK (t3 :: r3) ≠ k_else from hel)] at hR
    repeat' ((conv => whnf); first | ((with_reducible show Gd (bs _ == _) _ _); first | refine Gd.sY (by assumption) ?_ | refine Gd.sk (by assumption) ?_ | refine Gd.sN (by assumption) ?_) | ((conv => whnf); first | (((with_reducible show Gd _ _ _); first | with_reducible refine Gd.t ?_ | with_reducible refine Gd.f ?_ | with_reducible refine Gd.dec (fun _ => ?_) (fun _ => ?_) | with_reducible refine Gd.beq (fun _ => ?_) (fun _ => ?_) | with_reducible refine Gd.bne (fun _ => ?_) (fun _ => ?_) | with_reducible refine Gd.not ?_ | refine Gd.t ?_ | refine Gd.f ?_ | with_reducible refine Gd.var (fun _ => ?_) (fun _ => ?_)) <;> first | (exfalso; omega) | skip) | with_reducible refine Sq.mk ?_ | ((with_reducible show Ld1 _ _ _); first | refine Ld1.h H ?_ | refine Ld1.rF ?_ | refine Ld1.r ?_) | ((with_reducible show Ld _ _ _ _); first | refine Ld.h H ?_ | refine Ld.r ?_) | ((with_reducible show Ix _ _ _ _ _); (first | refine Ix.h ?_ | refine Ix.ha ?_)) | (refine Al.hp H ?_; clear H; intro _ _ H _) | (refine St.h H ?_; clear H; intro _ H)) | refine Sm.strix T.ok ?_)
    (replace H := Hp.toR H hn3 hr3)
    replace H := Hp.stl0 H
    refine ⟨.mk 4 [] (.mk kd o n nm cb A2 c2 l2) B cB b none 0 [], t3 :: r3, hR, sm_v rfl, Hp.stsN 4 [] ?_⟩
    exact H.sel [3, 1, 0, 2] rfl
  rw [if_neg (show ¬ curK (t3 :: r3) ≠ k_else from fun e => e hel)] at hR
  repeat' ((conv => whnf); first | ((with_reducible show Gd (bs _ == _) _ _); first | refine Gd.sY (by assumption) ?_ | refine Gd.sk (by assumption) ?_ | refine Gd.sN (by assumption) ?_) | ((conv => whnf); first | (((with_reducible show Gd _ _ _); first | with_reducible refine Gd.t ?_ | with_reducible refine Gd.f ?_ | with_reducible refine Gd.dec (fun _ => ?_) (fun _ => ?_) | with_reducible refine Gd.beq (fun _ => ?_) (fun _ => ?_) | with_reducible refine Gd.bne (fun _ => ?_) (fun _ => ?_) | with_reducible refine Gd.not ?_ | refine Gd.t ?_ | refine Gd.f ?_ | with_reducible refine Gd.var (fun _ => ?_) (fun _ => ?_)) <;> first | (exfalso; omega) | skip) | with_reducible refine Sq.mk ?_ | ((with_reducible show Ld1 _ _ _); first | refine Ld1.h H ?_ | refine Ld1.rF ?_ | refine Ld1.r ?_) | ((with_reducible show Ld _ _ _ _); first | refine Ld.h H ?_ | refine Ld.r ?_) | ((with_reducible show Ix _ _ _ _ _); (first | refine Ix.h ?_ | refine Ix.ha ?_)) | (refine Al.hp H ?_; clear H; intro _ _ H _) | (refine St.h H ?_; clear H; intro _ H)) | refine Sm.strix T.ok ?_)
  (replace H := Hp.toR H hn3 hr3)
  (((conv => whnf); refine Cl.mkX (step_c _ src pr (t3 :: r3) wb _ (H.base2 HB) X.lo X.tb X.len (H.atC 4 rfl) (by rw [curK_cons, hel]; decide)) ?_ ?_; rotate_left; (rintro ch w9 ⟨e9, p9, q9, h9, rfl, H'⟩; exact ⟨e9, p9, q9, (by rw [hR, h9]; rfl), rfl, Hp.pan H H' (.inl rfl)⟩)); rintro _ w8 ⟨ts4, h1, H'⟩; replace H := H.upd (c := rdr src pr (t3 :: r3)) H' rfl (.inl rfl); clear H'; rw [h1, Res.bind_ok] at hR; clear h1)
  (obtain ⟨nx4, t4, r4, rfl, hn4, hr4, hb0⟩ := H.atC (c := rdr src pr ts4) 4 rfl; replace H := Hp.ofR H hb0; clear hb0)
  by_cases hi : t4.kind = k_if
  · rw [if_pos (show curK (t4 :: r4) = k_if from hi)] at hR
    repeat' ((conv => whnf); first | ((with_reducible show Gd (bs _ == _) _ _); first | refine Gd.sY (by assumption) ?_ | refine Gd.sk (by assumption) ?_ | refine Gd.sN (by assumption) ?_) | ((conv => whnf); first | (((with_reducible show Gd _ _ _); first | with_reducible refine Gd.t ?_ | with_reducible refine Gd.f ?_ | with_reducible refine Gd.dec (fun _ => ?_) (fun _ => ?_) | with_reducible refine Gd.beq (fun _ => ?_) (fun _ => ?_) | with_reducible refine Gd.bne (fun _ => ?_) (fun _ => ?_) | with_reducible refine Gd.not ?_ | refine Gd.t ?_ | refine Gd.f ?_ | with_reducible refine Gd.var (fun _ => ?_) (fun _ => ?_)) <;> first | (exfalso; omega) | skip) | with_reducible refine Sq.mk ?_ | ((with_reducible show Ld1 _ _ _); first | refine Ld1.h H ?_ | refine Ld1.rF ?_ | refine Ld1.r ?_) | ((with_reducible show Ld _ _ _ _); first | refine Ld.h H ?_ | refine Ld.r ?_) | ((with_reducible show Ix _ _ _ _ _); (first | refine Ix.h ?_ | refine Ix.ha ?_)) | (refine Al.hp H ?_; clear H; intro _ _ H _) | (refine St.h H ?_; clear H; intro _ H)) | refine Sm.strix T.ok ?_)
    (replace H := Hp.toR H hn4 hr4)
    (((conv => whnf); refine Cl.mkX (deep_c _ src pr (t4 :: r4) (d + 1) hwd _ (H.atC 4 rfl)) ?_ ?_; rotate_left; (rintro ch w9 ⟨e9, p9, q9, h9, rfl, H'⟩; exact ⟨e9, p9, q9, (by rw [hR, h9]; rfl), rfl, Hp.pan H H' (.inl rfl)⟩)); rintro _ w8 ⟨h1, ex⟩; replace H := H.ext ex; clear ex; have hd40 := deep_le h1; rw [h1, Res.bind_ok] at hR; clear h1)
    repeat' ((conv => whnf); first | ((with_reducible show Gd (bs _ == _) _ _); first | refine Gd.sY (by assumption) ?_ | refine Gd.sk (by assumption) ?_ | refine Gd.sN (by assumption) ?_) | ((conv => whnf); first | (((with_reducible show Gd _ _ _); first | with_reducible refine Gd.t ?_ | with_reducible refine Gd.f ?_ | with_reducible refine Gd.dec (fun _ => ?_) (fun _ => ?_) | with_reducible refine Gd.beq (fun _ => ?_) (fun _ => ?_) | with_reducible refine Gd.bne (fun _ => ?_) (fun _ => ?_) | with_reducible refine Gd.not ?_ | refine Gd.t ?_ | refine Gd.f ?_ | with_reducible refine Gd.var (fun _ => ?_) (fun _ => ?_)) <;> first | (exfalso; omega) | skip) | with_reducible refine Sq.mk ?_ | ((with_reducible show Ld1 _ _ _); first | refine Ld1.h H ?_ | refine Ld1.rF ?_ | refine Ld1.r ?_) | ((with_reducible show Ld _ _ _ _); first | refine Ld.h H ?_ | refine Ld.r ?_) | ((with_reducible show Ix _ _ _ _ _); (first | refine Ix.h ?_ | refine Ix.ha ?_)) | (refine Al.hp H ?_; clear H; intro _ _ H _) | (refine St.h H ?_; clear H; intro _ H)) | refine Sm.strix T.ok ?_)
    replace H := Hp.nil (Hp.sts0 H) SM.enc 10 47
    (conv => whnf)
    refine Dr.chX T.ok mixed [0, 1, 2, 3, 4, 8] [5, 6, 7, 9] (by kernel_rfl) rfl rfl (fun w' => Blk w' p5 47 (SM.enc (.mk 4 [] (.mk kd o n nm cb A2 c2 l2) B cB b none 0 []))) (PanX R pr w) (fun ch F' w' hds h => by (conv => whnf); rw [show F'.ds = [] from hds]; exact h) (fun w1 eT _ => ?_)
    replace H := H.ext eT
    repeat' ((conv => whnf); first | refine QLd1.own (fun _ hw => hw) ?_ | refine QLd.own (fun _ hw => hw) ?_)
    (conv => whnf)
    refine ⟨H.blk 3 rfl, ?_⟩
    ((conv => whnf); refine Cl.mkX (hcho (t4 :: r4) _ (by omega) (H.base2 HB) (H.atC 6 rfl) (Res.bind_out (by rw [← hR]; exact hne))) ?_ ?_; rotate_left; (rintro ch w9 ⟨e9, p9, q9, h9, rfl, H'⟩; exact ⟨e9, p9, q9, (by rw [hR, h9]; rfl), rfl, Hp.pan H H' (.inl rfl)⟩))
    rintro _ w5 ⟨⟨kd2, nm2, ⟨k1, o1, n1, a1, b1, A1, c1, l1⟩, B2, cb2, b2, E2, ce2, el2⟩, ts5, h5, rfl, H'⟩
    replace H := H.updn (c := rdr src pr (t4 :: r4)) (Hp.swap H') rfl (.inl rfl) (.inl rfl)
    clear H'
    rw [h5, Res.bind_ok] at hR
    (conv => whnf)
    refine ⟨H.blk 4 rfl, ?_⟩
    refine Sm.lith (cs := SM.enc (.mk kd2 nm2 (.mk k1 o1 n1 a1 b1 A1 c1 l1) B2 cb2 b2 E2 ce2 el2)) H T.ok (fun p6 w6 H _ => ?_)
    (conv => whnf)
    refine ⟨H.blk 5 rfl, ?_⟩
    refine Sm.ap1 (enc := SM.enc) (.mk kd2 nm2 (.mk k1 o1 n1 a1 b1 A1 c1 l1) B2 cb2 b2 E2 ce2 el2) H T.ok ?_ ?_ (fun A' c' w7 H => ?_)
    · show (0 + 1) * 152 ≤ _; omega
    · show 0 + 1 ≤ _; omega
    simp only [List.cons_append, List.nil_append] at H
    (conv => whnf)
    refine ⟨H.blk 4 rfl, ?_⟩
    repeat' ((conv => whnf); first | ((with_reducible show Gd (bs _ == _) _ _); first | refine Gd.sY (by assumption) ?_ | refine Gd.sk (by assumption) ?_ | refine Gd.sN (by assumption) ?_) | ((conv => whnf); first | (((with_reducible show Gd _ _ _); first | with_reducible refine Gd.t ?_ | with_reducible refine Gd.f ?_ | with_reducible refine Gd.dec (fun _ => ?_) (fun _ => ?_) | with_reducible refine Gd.beq (fun _ => ?_) (fun _ => ?_) | with_reducible refine Gd.bne (fun _ => ?_) (fun _ => ?_) | with_reducible refine Gd.not ?_ | refine Gd.t ?_ | refine Gd.f ?_ | with_reducible refine Gd.var (fun _ => ?_) (fun _ => ?_)) <;> first | (exfalso; omega) | skip) | with_reducible refine Sq.mk ?_ | ((with_reducible show Ld1 _ _ _); first | refine Ld1.h H ?_ | refine Ld1.rF ?_ | refine Ld1.r ?_) | ((with_reducible show Ld _ _ _ _); first | refine Ld.h H ?_ | refine Ld.r ?_) | ((with_reducible show Ix _ _ _ _ _); (first | refine Ix.h ?_ | refine Ix.ha ?_)) | (refine Al.hp H ?_; clear H; intro _ _ H _) | (refine St.h H ?_; clear H; intro _ H)) | refine Sm.strix T.ok ?_)
    refine ⟨.mk 4 [] (.mk kd o n nm cb A2 c2 l2) B cB b A' c' [.mk kd2 nm2 (.mk k1 o1 n1 a1 b1 A1 c1 l1) B2 cb2 b2 E2 ce2 el2], ts5, hR, sm_v rfl, Hp.stsN 4 [] ?_⟩
    exact (Hp.stlN (Hp.swap (Hp.stsS (l := []) (H.sel [0, 1, 0, 0, 1, 2] rfl)))).sel [2, 1, 0, 0] rfl
  rw [if_neg (show ¬ curK (t4 :: r4) = k_if from hi)] at hR
  repeat' ((conv => whnf); first | ((with_reducible show Gd (bs _ == _) _ _); first | refine Gd.sY (by assumption) ?_ | refine Gd.sk (by assumption) ?_ | refine Gd.sN (by assumption) ?_) | ((conv => whnf); first | (((with_reducible show Gd _ _ _); first | with_reducible refine Gd.t ?_ | with_reducible refine Gd.f ?_ | with_reducible refine Gd.dec (fun _ => ?_) (fun _ => ?_) | with_reducible refine Gd.beq (fun _ => ?_) (fun _ => ?_) | with_reducible refine Gd.bne (fun _ => ?_) (fun _ => ?_) | with_reducible refine Gd.not ?_ | refine Gd.t ?_ | refine Gd.f ?_ | with_reducible refine Gd.var (fun _ => ?_) (fun _ => ?_)) <;> first | (exfalso; omega) | skip) | with_reducible refine Sq.mk ?_ | ((with_reducible show Ld1 _ _ _); first | refine Ld1.h H ?_ | refine Ld1.rF ?_ | refine Ld1.r ?_) | ((with_reducible show Ld _ _ _ _); first | refine Ld.h H ?_ | refine Ld.r ?_) | ((with_reducible show Ix _ _ _ _ _); (first | refine Ix.h ?_ | refine Ix.ha ?_)) | (refine Al.hp H ?_; clear H; intro _ _ H _) | (refine St.h H ?_; clear H; intro _ H)) | refine Sm.strix T.ok ?_)
  (replace H := Hp.toR H hn4 hr4)
  ((conv => whnf); refine Cl.mkX (hblk (t4 :: r4) _ (H.base2 HB) (H.atC 4 rfl) (Res.bind_out (by rw [← hR]; exact hne))) ?_ ?_; rotate_left; (rintro ch w9 ⟨e9, p9, q9, h9, rfl, H'⟩; exact ⟨e9, p9, q9, (by rw [hR, h9]; rfl), rfl, Hp.pan H H' (.inl rfl)⟩))
  rintro _ w5 ⟨E, cE, el, ts5, h5, rfl, H'⟩
  replace H := H.updn (c := rdr src pr (t4 :: r4)) (Hp.swap H') rfl (.inl rfl) (.inl rfl)
  clear H'
  rw [h5, Res.bind_ok] at hR
  repeat' ((conv => whnf); first | ((with_reducible show Gd (bs _ == _) _ _); first | refine Gd.sY (by assumption) ?_ | refine Gd.sk (by assumption) ?_ | refine Gd.sN (by assumption) ?_) | ((conv => whnf); first | (((with_reducible show Gd _ _ _); first | with_reducible refine Gd.t ?_ | with_reducible refine Gd.f ?_ | with_reducible refine Gd.dec (fun _ => ?_) (fun _ => ?_) | with_reducible refine Gd.beq (fun _ => ?_) (fun _ => ?_) | with_reducible refine Gd.bne (fun _ => ?_) (fun _ => ?_) | with_reducible refine Gd.not ?_ | refine Gd.t ?_ | refine Gd.f ?_ | with_reducible refine Gd.var (fun _ => ?_) (fun _ => ?_)) <;> first | (exfalso; omega) | skip) | with_reducible refine Sq.mk ?_ | ((with_reducible show Ld1 _ _ _); first | refine Ld1.h H ?_ | refine Ld1.rF ?_ | refine Ld1.r ?_) | ((with_reducible show Ld _ _ _ _); first | refine Ld.h H ?_ | refine Ld.r ?_) | ((with_reducible show Ix _ _ _ _ _); (first | refine Ix.h ?_ | refine Ix.ha ?_)) | (refine Al.hp H ?_; clear H; intro _ _ H _) | (refine St.h H ?_; clear H; intro _ H)) | refine Sm.strix T.ok ?_)
  refine ⟨.mk 4 [] (.mk kd o n nm cb A2 c2 l2) B cB b E cE el, ts5, hR, sm_v rfl, Hp.stsN 4 [] ?_⟩
  exact H.sel [3, 1, 0, 2] rfl
end
end Go.Proofs.YtapdmkgdiaechaaDoor
namespace Go.Proofs.YtapdmkgdiaechaaDoor
open Go Go.Sh Go.Tx
set_option linter.unusedVariables false
set_option linter.unusedSimpArgs false
set_option linter.unusedSectionVars false
attribute [local irreducible] Blk Ext RdS
/-- a function in memory -/
structure FM where
  name : Bs
  P : Option Addr
  cp : Nat
  params : List Bs
  B : Option Addr
  cb : Nat
  body : List SM
def FM.e (f : FM) : Fnc := ⟨f.name, f.params, SM.es f.body⟩
def FM.enc (f : FM) : List Value := [.string (bs f.name), .slice f.P f.params.length f.cp, .slice f.B f.body.length f.cb]
def FM.v (f : FM) : Value := .agg f.enc.toArray
def FM.fp (f : FM) (k : Nat) : Prop := obk f.P = some k ∨ obk f.B = some k ∨ SM.fps f.body k
def FM.Ok (w : World) (f : FM) : Prop := Que strE 1 9 w 0 f.P f.cp f.params ∧ Que SM.enc 10 47 w 0 f.B f.cb f.body ∧ SM.Oks w f.body ∧ f.params.length ≤ 2000000 ∧ f.body.length ≤ 2000000
def FM.Sep (f : FM) : Prop := SM.Seps f.body ∧ (∀ k, ¬ (obk f.P = some k ∧ (obk f.B = some k ∨ SM.fps f.body k))) ∧ ∀ k, ¬ (obk f.B = some k ∧ SM.fps f.body k)
def FM.fps : List FM → Nat → Prop
  | [], _ => False
  | x :: r, k => FM.fp x k ∨ FM.fps r k
def FM.Oks (w : World) : List FM → Prop
  | [] => True
  | x :: r => FM.Ok w x ∧ FM.Oks w r
def FM.Seps : List FM → Prop
  | [] => True
  | x :: r => FM.Sep x ∧ FM.Seps r ∧ ∀ b, ¬ (FM.fp x b ∧ FM.fps r b)
theorem FM.fps_app (b : Nat) : ∀ l m : List FM, FM.fps (l ++ m) b ↔ FM.fps l b ∨ FM.fps m b
  | [], m => by simp [FM.fps]
  | x :: r, m => by simp [FM.fps, FM.fps_app b r m, or_assoc]
theorem FM.oks_app (w : World) : ∀ l m : List FM, FM.Oks w (l ++ m) ↔ FM.Oks w l ∧ FM.Oks w m
  | [], m => by simp [FM.Oks]
  | x :: r, m => by simp [FM.Oks, FM.oks_app w r m, and_assoc]
theorem FM.seps_app : ∀ l m : List FM, FM.Seps l → FM.Seps m → (∀ b, ¬ (FM.fps l b ∧ FM.fps m b)) → FM.Seps (l ++ m)
  | [], m, _, h, _ => h
  | x :: r, m, hl, hm, hd => by
    obtain ⟨h1, h2, h3⟩ := hl
    refine ⟨h1, FM.seps_app r m h2 hm fun b hb => hd b ⟨.inr hb.1, hb.2⟩, fun b hb => ?_⟩
    rcases (FM.fps_app b r m).1 hb.2 with h | h
    · exact h3 b ⟨hb.1, h⟩
    · exact hd b ⟨.inl hb.1, h⟩
theorem FM.Ok.lt {w : World} {f : FM} (h : FM.Ok w f) (k : Nat) (hk : FM.fp f k) : k < w.heap.size := by
  rcases hk with hk | hk | hk
  · exact (qu_ok h.1).lt k hk
  · exact (qu_ok h.2.1).lt k hk
  · exact SM.Oks.lt h.2.2.1 k hk
theorem FM.Oks.lt {w : World} : ∀ {l : List FM}, FM.Oks w l → ∀ b, FM.fps l b → b < w.heap.size
  | [], _, b, hb => hb.elim
  | x :: r, h, b, hb => by
    rcases hb with hb | hb
    · exact FM.Ok.lt h.1 b hb
    · exact FM.Oks.lt h.2 b hb
theorem FM.Ok.loc {w w' : World} (hs : w.heap.size ≤ w'.heap.size) {f : FM} (h : FM.Ok w f) (hb : ∀ b, FM.fp f b → w'.heap[b]? = w.heap[b]?) : FM.Ok w' f :=
  ⟨(qu_ok h.1).loc w' hs fun k hk => hb k (.inl hk), (qu_ok h.2.1).loc w' hs fun k hk => hb k (.inr (.inl hk)), SM.Oks.loc hs h.2.2.1 fun k hk => hb k (.inr (.inr hk)), h.2.2.2⟩
theorem FM.Oks.loc {w w' : World} (hs : w.heap.size ≤ w'.heap.size) : ∀ {l : List FM}, FM.Oks w l → (∀ b, FM.fps l b → w'.heap[b]? = w.heap[b]?) → FM.Oks w' l
  | [], _, _ => trivial
  | x :: r, h, hb => ⟨FM.Ok.loc hs h.1 fun b hk => hb b (.inl hk), FM.Oks.loc hs h.2 fun b hk => hb b (.inr hk)⟩
/-- functions, as one piece -/
abbrev fns (l : List FM) : Ck := ⟨FM.fps l, fun w => FM.Oks w l ∧ FM.Seps l, true, false⟩
theorem fns_ok {l : List FM} {w : World} (h1 : FM.Oks w l) (h2 : FM.Seps l) : (fns l).Ok w :=
  ⟨⟨h1, h2⟩, FM.Oks.lt h1, fun w' hs hb => ⟨FM.Oks.loc hs h1 hb, h2⟩⟩
section
variable {S : Nat → Prop} {w0 w : World} {Γ : List Ck}
theorem Hp.fns0 (H : Hp S w0 w Γ) : Hp S w0 w (fns [] :: Γ) :=
  H.fr0 (Hp.one (Tch.refl _ _) (fns_ok trivial trivial) (fun k hk => hk.elim)) (.inl rfl)
theorem Hp.fnsS {l : List FM} {t : FM} (H : Hp S w0 w (fns [t] :: fns l :: Γ)) : Hp S w0 w (fns (l ++ [t]) :: Γ) := by
  refine Hp.join2 H rfl rfl (.inl rfl) (fun k hk => ?_) (fun hd h1 h2 => fns_ok ((FM.oks_app w l [t]).2 ⟨h2.holds.1, h1.holds.1⟩) (FM.seps_app _ _ h2.holds.2 h1.holds.2 fun b hb => hd b ⟨hb.2, hb.1⟩))
  rcases (FM.fps_app k l [t]).1 hk with h | h
  · exact .inr h
  · exact .inl h
theorem Hp.fnsN {P B : Option Addr} {cp cb : Nat} {ps : List Bs} {b : List SM} (nm : Bs) (H : Hp S w0 w (qu strE 1 9 P cp ps :: stl B cb b :: Γ)) (hlen : ps.length ≤ 2000000 := by first | (simp; done) | omega | assumption) : Hp S w0 w (fns [⟨nm, P, cp, ps, B, cb, b⟩] :: Γ) := by
  refine Hp.join2 H rfl rfl (.inl rfl) (fun k hk => ?_) (fun hd h1 h2 => fns_ok ⟨⟨h1.holds, h2.holds.1, h2.holds.2.1, hlen, h2.holds.2.2.2.2⟩, trivial⟩ ⟨⟨h2.holds.2.2.1, hd, h2.holds.2.2.2.1⟩, trivial, fun b hb => hb.2.elim⟩)
  rcases hk with (hk | hk | hk) | hk
  · exact .inl hk
  · exact .inr (.inl hk)
  · exact .inr (.inr hk)
  · exact hk.elim
end
theorem con_all {src : Bs} {pr : Nat} {wb : World} (X : Txt src pr wb) : ∀ f, Con src pr wb (pf f)
  | 0 => ⟨fun _ _ _ _ _ _ _ _ h => absurd rfl h, fun _ _ _ _ _ _ h => absurd rfl h, fun _ _ _ _ _ _ h => absurd rfl h, fun _ _ _ _ _ _ h => absurd rfl h, fun _ _ _ _ _ _ h => absurd rfl h⟩
  | f + 1 => ⟨expr_c X (con_all X f), unary_c X (con_all X f), primary_c X (con_all X f), block_c X (con_all X f), choice_c X (con_all X f)⟩
def OkF (src : Bs) (pr : Nat) (R : Res Fnc) (w : World) (v : Value) (w' : World) : Prop := ∃ f ts', R = .ok (FM.e f) ts' ∧ v = f.v ∧ Hp (· = pr) w w' [fns [f], rdr src pr ts']
theorem fm_v {v : Value} {nm : Bs} {P B : Option Addr} {cp cb : Nat} {ps : List Bs} {b : List SM} (h : v = .agg #[.string (bs nm), .slice P ps.length cp, .slice B b.length cb]) : v = FM.v ⟨nm, P, cp, ps, B, cb, b⟩ := h
section
variable {src : Bs} {pr : Nat} {wb : World} {F : PF} (X : Txt src pr wb) (C : Con src pr wb F)
include X C
set_option maxHeartbeats 4000000 in
theorem function_c (ts : List Tk) (w : World) (hwb : Ext wb w) (h : Rdr src pr ts w) (hne : functionP F ts ≠ .out) :
    Cl Tryd.prog 16 #[.pointer (some ⟨pr, 0, none⟩)] w (OkF src pr (functionP F ts) w) (PanX (functionP F ts) pr w) := by
  have HB := X.ok hwb
  have hsl := X.len
  obtain ⟨R, hR⟩ : ∃ R, R = functionP F ts := ⟨_, rfl⟩
  rw [← hR] at hne ⊢
  unfold functionP at hR
  refine calls_ex (args := [.pointer (some ⟨pr, 0, none⟩)]) T.ok Tryd.func16 rfl rfl rfl rfl ?_
  have H := Hp.start (S := (· = pr)) (rdr_ok h) (fun k hk => hk)
  clear h
  refine Sq.mk ?_
  ((conv => whnf); refine Al.hp H ?_; clear H; intro p2 _ H _)
  repeat' ((conv => whnf); first | ((with_reducible show Gd (bs _ == _) _ _); first | refine Gd.sY (by assumption) ?_ | refine Gd.sk (by assumption) ?_ | refine Gd.sN (by assumption) ?_) | ((conv => whnf); first | (((with_reducible show Gd _ _ _); first | with_reducible refine Gd.t ?_ | with_reducible refine Gd.f ?_ | with_reducible refine Gd.dec (fun _ => ?_) (fun _ => ?_) | with_reducible refine Gd.beq (fun _ => ?_) (fun _ => ?_) | with_reducible refine Gd.bne (fun _ => ?_) (fun _ => ?_) | with_reducible refine Gd.not ?_ | refine Gd.t ?_ | refine Gd.f ?_ | with_reducible refine Gd.var (fun _ => ?_) (fun _ => ?_)) <;> first | (exfalso; omega) | skip) | with_reducible refine Sq.mk ?_ | ((with_reducible show Ld1 _ _ _); first | refine Ld1.h H ?_ | refine Ld1.rF ?_ | refine Ld1.r ?_) | ((with_reducible show Ld _ _ _ _); first | refine Ld.h H ?_ | refine Ld.r ?_) | ((with_reducible show Ix _ _ _ _ _); (first | refine Ix.h ?_ | refine Ix.ha ?_)) | (refine Al.hp H ?_; clear H; intro _ _ H _) | (refine St.h H ?_; clear H; intro _ H)) | refine Sm.strix T.ok ?_)
  (((conv => whnf); refine Cl.mkX (take_c k_fn src pr (ts) wb _ (H.base2 HB) X.lo X.tb X.len (H.atC 1 rfl) (by decide)) ?_ ?_; rotate_left; (rintro ch w9 ⟨e9, p9, q9, h9, rfl, H'⟩; exact ⟨e9, p9, q9, (by rw [hR, h9]; rfl), rfl, Hp.pan H H' (.inl rfl)⟩)); rintro _ w8 ⟨t1, ts1, h1, rfl, H'⟩; replace H := H.upd (c := rdr src pr (ts)) H' rfl (.inl rfl); clear H'; rw [h1, Res.bind_ok] at hR; clear h1)
  repeat' ((conv => whnf); first | ((with_reducible show Gd (bs _ == _) _ _); first | refine Gd.sY (by assumption) ?_ | refine Gd.sk (by assumption) ?_ | refine Gd.sN (by assumption) ?_) | ((conv => whnf); first | (((with_reducible show Gd _ _ _); first | with_reducible refine Gd.t ?_ | with_reducible refine Gd.f ?_ | with_reducible refine Gd.dec (fun _ => ?_) (fun _ => ?_) | with_reducible refine Gd.beq (fun _ => ?_) (fun _ => ?_) | with_reducible refine Gd.bne (fun _ => ?_) (fun _ => ?_) | with_reducible refine Gd.not ?_ | refine Gd.t ?_ | refine Gd.f ?_ | with_reducible refine Gd.var (fun _ => ?_) (fun _ => ?_)) <;> first | (exfalso; omega) | skip) | with_reducible refine Sq.mk ?_ | ((with_reducible show Ld1 _ _ _); first | refine Ld1.h H ?_ | refine Ld1.rF ?_ | refine Ld1.r ?_) | ((with_reducible show Ld _ _ _ _); first | refine Ld.h H ?_ | refine Ld.r ?_) | ((with_reducible show Ix _ _ _ _ _); (first | refine Ix.h ?_ | refine Ix.ha ?_)) | (refine Al.hp H ?_; clear H; intro _ _ H _) | (refine St.h H ?_; clear H; intro _ H)) | refine Sm.strix T.ok ?_)
  (((conv => whnf); refine Cl.mkX (take_c k_name src pr (ts1) wb _ (H.base2 HB) X.lo X.tb X.len (H.atC 1 rfl) (by decide)) ?_ ?_; rotate_left; (rintro ch w9 ⟨e9, p9, q9, h9, rfl, H'⟩; exact ⟨e9, p9, q9, (by rw [hR, h9]; rfl), rfl, Hp.pan H H' (.inl rfl)⟩)); rintro _ w8 ⟨t2, ts2, h1, rfl, H'⟩; replace H := H.upd (c := rdr src pr (ts1)) H' rfl (.inl rfl); clear H'; rw [h1, Res.bind_ok] at hR; clear h1)
  repeat' ((conv => whnf); first | ((with_reducible show Gd (bs _ == _) _ _); first | refine Gd.sY (by assumption) ?_ | refine Gd.sk (by assumption) ?_ | refine Gd.sN (by assumption) ?_) | ((conv => whnf); first | (((with_reducible show Gd _ _ _); first | with_reducible refine Gd.t ?_ | with_reducible refine Gd.f ?_ | with_reducible refine Gd.dec (fun _ => ?_) (fun _ => ?_) | with_reducible refine Gd.beq (fun _ => ?_) (fun _ => ?_) | with_reducible refine Gd.bne (fun _ => ?_) (fun _ => ?_) | with_reducible refine Gd.not ?_ | refine Gd.t ?_ | refine Gd.f ?_ | with_reducible refine Gd.var (fun _ => ?_) (fun _ => ?_)) <;> first | (exfalso; omega) | skip) | with_reducible refine Sq.mk ?_ | ((with_reducible show Ld1 _ _ _); first | refine Ld1.h H ?_ | refine Ld1.rF ?_ | refine Ld1.r ?_) | ((with_reducible show Ld _ _ _ _); first | refine Ld.h H ?_ | refine Ld.r ?_) | ((with_reducible show Ix _ _ _ _ _); (first | refine Ix.h ?_ | refine Ix.ha ?_)) | (refine St.h H ?_; clear H; intro _ H)) | refine Sm.strix T.ok ?_)
  ((conv => whnf); refine Al.hp H ?_; clear H; intro p3 _ H _)
  repeat' ((conv => whnf); first | ((with_reducible show Gd (bs _ == _) _ _); first | refine Gd.sY (by assumption) ?_ | refine Gd.sk (by assumption) ?_ | refine Gd.sN (by assumption) ?_) | ((conv => whnf); first | (((with_reducible show Gd _ _ _); first | with_reducible refine Gd.t ?_ | with_reducible refine Gd.f ?_ | with_reducible refine Gd.dec (fun _ => ?_) (fun _ => ?_) | with_reducible refine Gd.beq (fun _ => ?_) (fun _ => ?_) | with_reducible refine Gd.bne (fun _ => ?_) (fun _ => ?_) | with_reducible refine Gd.not ?_ | refine Gd.t ?_ | refine Gd.f ?_ | with_reducible refine Gd.var (fun _ => ?_) (fun _ => ?_)) <;> first | (exfalso; omega) | skip) | with_reducible refine Sq.mk ?_ | ((with_reducible show Ld1 _ _ _); first | refine Ld1.h H ?_ | refine Ld1.rF ?_ | refine Ld1.r ?_) | ((with_reducible show Ld _ _ _ _); first | refine Ld.h H ?_ | refine Ld.r ?_) | ((with_reducible show Ix _ _ _ _ _); (first | refine Ix.h ?_ | refine Ix.ha ?_)) | (refine Al.hp H ?_; clear H; intro _ _ H _) | (refine St.h H ?_; clear H; intro _ H)) | refine Sm.strix T.ok ?_)
  (((conv => whnf); refine Cl.mkX (take_c s_lp src pr (ts2) wb _ (H.base2 HB) X.lo X.tb X.len (H.atC 2 rfl) (by decide)) ?_ ?_; rotate_left; (rintro ch w9 ⟨e9, p9, q9, h9, rfl, H'⟩; exact ⟨e9, p9, q9, (by rw [hR, h9]; rfl), rfl, Hp.pan H H' (.inl rfl)⟩)); rintro _ w8 ⟨t3, ts3, h1, rfl, H'⟩; replace H := H.upd (c := rdr src pr (ts2)) H' rfl (.inl rfl); clear H'; rw [h1, Res.bind_ok] at hR; clear h1)
  have hN : ts3.length ≤ src.length + 2 := (H.atC (c := rdr src pr ts3) 2 rfl).len
  generalize hN0 : ts3.length + 1 = N at hR
  have hNb : N ≤ 1000010 := by omega
  replace H := Hp.nil H strE 1 9
  have hfix : ∀ w', Hp (· = pr) w w' [qu strE 1 9 none 0 [], bk p3 45 [.string (bs t2.text), .slice none 0 0, .slice none 0 0], bk p2 45 T.t45.zero.cells.toList, rdr src pr ts3] → Hp (· = pr) w w' [qu strE 1 9 none 0 [], bk p3 45 [.string (bs t2.text), .slice none 0 0, .slice none 0 0], bk p2 45 T.t45.zero.cells.toList, rdr src pr ts3] := fun _ h => h
  replace H := hfix _ H
  clear hfix
  repeat' ((conv => whnf); first | ((with_reducible show Gd (bs _ == _) _ _); first | refine Gd.sY (by assumption) ?_ | refine Gd.sk (by assumption) ?_ | refine Gd.sN (by assumption) ?_) | ((conv => whnf); first | (((with_reducible show Gd _ _ _); first | with_reducible refine Gd.t ?_ | with_reducible refine Gd.f ?_ | with_reducible refine Gd.dec (fun _ => ?_) (fun _ => ?_) | with_reducible refine Gd.beq (fun _ => ?_) (fun _ => ?_) | with_reducible refine Gd.bne (fun _ => ?_) (fun _ => ?_) | with_reducible refine Gd.not ?_ | refine Gd.t ?_ | refine Gd.f ?_ | with_reducible refine Gd.var (fun _ => ?_) (fun _ => ?_)) <;> first | (exfalso; omega) | skip) | with_reducible refine Sq.mk ?_ | ((with_reducible show Ld1 _ _ _); first | refine Ld1.h H ?_ | refine Ld1.rF ?_ | refine Ld1.r ?_) | ((with_reducible show Ld _ _ _ _); first | refine Ld.h H ?_ | refine Ld.r ?_) | ((with_reducible show Ix _ _ _ _ _); (first | refine Ix.h ?_ | refine Ix.ha ?_)) | (refine Al.hp H ?_; clear H; intro _ _ H _) | (refine St.h H ?_; clear H; intro _ H)) | refine Sm.strix T.ok ?_)
  refine Lp.g0 T.ok (σ := Nat × Option Addr × Nat × List Bs × List Tk) (fun q => [(3, .pointer (some ⟨p3, 0, none⟩)), (2, .pointer (some ⟨p2, 0, none⟩)), (0, .pointer (some ⟨pr, 0, none⟩))])
    (fun q w' => R = (loopN q.1 q.2.2.2.1 q.2.2.2.2).bind (fun ps ts4 => (takeP s_rp ts4).bind fun _ ts5 => (F.block 1 ts5).bind fun b ts6 => .ok ⟨t2.text, ps, b⟩ ts6) ∧ q.1 + q.2.2.2.1.length ≤ N ∧ Hp (· = pr) w w' [qu strE 1 9 q.2.1 q.2.2.1 q.2.2.2.1, bk p3 45 [.string (bs t2.text), .slice q.2.1 q.2.2.2.1.length q.2.2.1, .slice none 0 0], bk p2 45 T.t45.zero.cells.toList, rdr src pr q.2.2.2.2]) (fun q _ => q.1) (N, none, 0, [], ts3) rfl ⟨rfl, rfl, rfl, trivial⟩ ⟨hR, Nat.le_refl _, H⟩ ?_
  clear H hR hN0 hN
  rintro ⟨f, A, c, l, ts⟩ w5 ⟨hR, hN, H⟩
  simp only at hR hN H ⊢
  cases f with
  | zero => exact absurd hR hne
  | succ f =>
  simp only [loopN] at hR
  (obtain ⟨nx, t0, r0, rfl, hnx, hr0, hb0⟩ := H.atC (c := rdr src pr ts) 3 rfl; replace H := Hp.ofR H hb0; clear hb0)
  by_cases hk : t0.kind = s_rp
  · rw [if_pos (show curK (t0 :: r0) = s_rp from hk), Res.bind_ok] at hR
    repeat' ((conv => whnf); first | ((with_reducible show Gd (bs _ == _) _ _); first | refine Gd.sY (by assumption) ?_ | refine Gd.sk (by assumption) ?_ | refine Gd.sN (by assumption) ?_) | ((conv => whnf); first | (((with_reducible show Gd _ _ _); first | with_reducible refine Gd.t ?_ | with_reducible refine Gd.f ?_ | with_reducible refine Gd.dec (fun _ => ?_) (fun _ => ?_) | with_reducible refine Gd.beq (fun _ => ?_) (fun _ => ?_) | with_reducible refine Gd.bne (fun _ => ?_) (fun _ => ?_) | with_reducible refine Gd.not ?_ | refine Gd.t ?_ | refine Gd.f ?_ | with_reducible refine Gd.var (fun _ => ?_) (fun _ => ?_)) <;> first | (exfalso; omega) | skip) | with_reducible refine Sq.mk ?_ | ((with_reducible show Ld1 _ _ _); first | refine Ld1.h H ?_ | refine Ld1.rF ?_ | refine Ld1.r ?_) | ((with_reducible show Ld _ _ _ _); first | refine Ld.h H ?_ | refine Ld.r ?_) | ((with_reducible show Ix _ _ _ _ _); (first | refine Ix.h ?_ | refine Ix.ha ?_)) | (refine Al.hp H ?_; clear H; intro _ _ H _) | (refine St.h H ?_; clear H; intro _ H)) | refine Sm.strix T.ok ?_)
    (replace H := Hp.toR H hnx hr0; clear hnx hr0)
    (((conv => whnf); refine Cl.mkX (take_c s_rp src pr (t0 :: r0) wb _ (H.base2 HB) X.lo X.tb X.len (H.atC 3 rfl) (by decide)) ?_ ?_; rotate_left; (rintro ch w9 ⟨e9, p9, q9, h9, rfl, H'⟩; exact ⟨e9, p9, q9, (by rw [hR, h9]; rfl), rfl, Hp.pan H H' (.inl rfl)⟩)); rintro _ w8 ⟨t5, ts5, h1, rfl, H'⟩; replace H := H.upd (c := rdr src pr (t0 :: r0)) H' rfl (.inl rfl); clear H'; rw [h1, Res.bind_ok] at hR; clear h1)
    repeat' ((conv => whnf); first | ((with_reducible show Gd (bs _ == _) _ _); first | refine Gd.sY (by assumption) ?_ | refine Gd.sk (by assumption) ?_ | refine Gd.sN (by assumption) ?_) | ((conv => whnf); first | (((with_reducible show Gd _ _ _); first | with_reducible refine Gd.t ?_ | with_reducible refine Gd.f ?_ | with_reducible refine Gd.dec (fun _ => ?_) (fun _ => ?_) | with_reducible refine Gd.beq (fun _ => ?_) (fun _ => ?_) | with_reducible refine Gd.bne (fun _ => ?_) (fun _ => ?_) | with_reducible refine Gd.not ?_ | refine Gd.t ?_ | refine Gd.f ?_ | with_reducible refine Gd.var (fun _ => ?_) (fun _ => ?_)) <;> first | (exfalso; omega) | skip) | with_reducible refine Sq.mk ?_ | ((with_reducible show Ld1 _ _ _); first | refine Ld1.h H ?_ | refine Ld1.rF ?_ | refine Ld1.r ?_) | ((with_reducible show Ld _ _ _ _); first | refine Ld.h H ?_ | refine Ld.r ?_) | ((with_reducible show Ix _ _ _ _ _); (first | refine Ix.h ?_ | refine Ix.ha ?_)) | (refine Al.hp H ?_; clear H; intro _ _ H _) | (refine St.h H ?_; clear H; intro _ H)) | refine Sm.strix T.ok ?_)
    ((conv => whnf); refine Cl.mkX (C.block 1 ts5 _ (by omega) (H.base2 HB) (H.atC 3 rfl) (Res.bind_out (by rw [← hR]; exact hne))) ?_ ?_; rotate_left; (rintro ch w9 ⟨e9, p9, q9, h9, rfl, H'⟩; exact ⟨e9, p9, q9, (by rw [hR, h9]; rfl), rfl, Hp.pan H H' (.inl rfl)⟩))
    rintro _ w6 ⟨B, cB, b, ts6, h6, rfl, H'⟩
    replace H := H.updn (c := rdr src pr ts5) (Hp.swap H') rfl (.inl rfl) (.inl rfl)
    clear H'
    rw [h6, Res.bind_ok] at hR
    repeat' ((conv => whnf); first | ((with_reducible show Gd (bs _ == _) _ _); first | refine Gd.sY (by assumption) ?_ | refine Gd.sk (by assumption) ?_ | refine Gd.sN (by assumption) ?_) | ((conv => whnf); first | (((with_reducible show Gd _ _ _); first | with_reducible refine Gd.t ?_ | with_reducible refine Gd.f ?_ | with_reducible refine Gd.dec (fun _ => ?_) (fun _ => ?_) | with_reducible refine Gd.beq (fun _ => ?_) (fun _ => ?_) | with_reducible refine Gd.bne (fun _ => ?_) (fun _ => ?_) | with_reducible refine Gd.not ?_ | refine Gd.t ?_ | refine Gd.f ?_ | with_reducible refine Gd.var (fun _ => ?_) (fun _ => ?_)) <;> first | (exfalso; omega) | skip) | with_reducible refine Sq.mk ?_ | ((with_reducible show Ld1 _ _ _); first | refine Ld1.h H ?_ | refine Ld1.rF ?_ | refine Ld1.r ?_) | ((with_reducible show Ld _ _ _ _); first | refine Ld.h H ?_ | refine Ld.r ?_) | ((with_reducible show Ix _ _ _ _ _); (first | refine Ix.h ?_ | refine Ix.ha ?_)) | (refine Al.hp H ?_; clear H; intro _ _ H _) | (refine St.h H ?_; clear H; intro _ H)) | refine Sm.strix T.ok ?_)
    exact ⟨⟨t2.text, A, c, l, B, cB, b⟩, ts6, hR, fm_v rfl, Hp.fnsN t2.text (H.sel [1, 0, 2] rfl)⟩
  rw [if_neg (show ¬ curK (t0 :: r0) = s_rp from hk)] at hR
  by_cases hl0 : l.length = 0
  · rw [if_neg (by omega), Res.bind_ok, Res.bind_assoc] at hR
    repeat' ((conv => whnf); first | ((with_reducible show Gd (bs _ == _) _ _); first | refine Gd.sY (by assumption) ?_ | refine Gd.sk (by assumption) ?_ | refine Gd.sN (by assumption) ?_) | ((conv => whnf); first | (((with_reducible show Gd _ _ _); first | with_reducible refine Gd.t ?_ | with_reducible refine Gd.f ?_ | with_reducible refine Gd.dec (fun _ => ?_) (fun _ => ?_) | with_reducible refine Gd.beq (fun _ => ?_) (fun _ => ?_) | with_reducible refine Gd.bne (fun _ => ?_) (fun _ => ?_) | with_reducible refine Gd.not ?_ | refine Gd.t ?_ | refine Gd.f ?_ | with_reducible refine Gd.var (fun _ => ?_) (fun _ => ?_)) <;> first | (exfalso; omega) | skip) | with_reducible refine Sq.mk ?_ | ((with_reducible show Ld1 _ _ _); first | refine Ld1.h H ?_ | refine Ld1.rF ?_ | refine Ld1.r ?_) | ((with_reducible show Ld _ _ _ _); first | refine Ld.h H ?_ | refine Ld.r ?_) | ((with_reducible show Ix _ _ _ _ _); (first | refine Ix.h ?_ | refine Ix.ha ?_)) | (refine Al.hp H ?_; clear H; intro _ _ H _) | (refine St.h H ?_; clear H; intro _ H)) | refine Sm.strix T.ok ?_)
    all_goals first | (exfalso; omega) | skip
    (replace H := Hp.toR H hnx hr0; clear hnx hr0)
    (conv => whnf)
    refine Dr.chX T.ok mixed [0, 1, 2, 7] [3, 4, 5, 6, 8] (by kernel_rfl) rfl rfl (fun w' => Blk w' p3 45 [.string (bs t2.text), .slice A l.length c, .slice none 0 0]) (PanX R pr w) (fun ch F' w' hds h => by (conv => whnf); rw [show F'.ds = [] from hds]; exact h) (fun w1 eT _ => ?_)
    replace H := H.ext eT
    repeat' ((conv => whnf); first | refine QLd1.own (fun _ hw => hw) ?_ | refine QLd.own (fun _ hw => hw) ?_)
    (conv => whnf)
    refine ⟨H.blk 1 rfl, ?_⟩
    (((conv => whnf); refine Cl.mkX (take_c k_name src pr (t0 :: r0) wb _ (H.base2 HB) X.lo X.tb X.len (H.atC 3 rfl) (by decide)) ?_ ?_; rotate_left; (rintro ch w9 ⟨e9, p9, q9, h9, rfl, H'⟩; exact ⟨e9, p9, q9, (by rw [hR, h9]; rfl), rfl, Hp.pan H H' (.inl rfl)⟩)); rintro _ w8 ⟨t6, ts6, h1, rfl, H'⟩; replace H := H.upd (c := rdr src pr (t0 :: r0)) H' rfl (.inl rfl); clear H'; rw [h1, Res.bind_ok] at hR; clear h1)
    (conv => whnf)
    refine ⟨H.blk 1 rfl, ?_⟩
    (conv => whnf)
    refine ⟨H.blk 1 rfl, ?_⟩
    refine Sm.lith (cs := [.string (bs t6.text)]) H T.ok (fun p5 w4 H _ => ?_)
    (conv => whnf)
    refine ⟨H.blk 2 rfl, ?_⟩
    refine Sm.ap1 (enc := strE) t6.text H T.ok ?_ ?_ (fun A' c' w7 H => ?_)
    · show (l.length + 1) * 16 ≤ _; omega
    · omega
    simp only [List.cons_append, List.nil_append] at H
    (conv => whnf)
    refine ⟨H.blk 1 rfl, ?_⟩
    repeat' ((conv => whnf); first | ((with_reducible show Gd (bs _ == _) _ _); first | refine Gd.sY (by assumption) ?_ | refine Gd.sk (by assumption) ?_ | refine Gd.sN (by assumption) ?_) | ((conv => whnf); first | (((with_reducible show Gd _ _ _); first | with_reducible refine Gd.t ?_ | with_reducible refine Gd.f ?_ | with_reducible refine Gd.dec (fun _ => ?_) (fun _ => ?_) | with_reducible refine Gd.beq (fun _ => ?_) (fun _ => ?_) | with_reducible refine Gd.bne (fun _ => ?_) (fun _ => ?_) | with_reducible refine Gd.not ?_ | refine Gd.t ?_ | refine Gd.f ?_ | with_reducible refine Gd.var (fun _ => ?_) (fun _ => ?_)) <;> first | (exfalso; omega) | skip) | with_reducible refine Sq.mk ?_ | ((with_reducible show Ld1 _ _ _); first | refine Ld1.h H ?_ | refine Ld1.rF ?_ | refine Ld1.r ?_) | ((with_reducible show Ld _ _ _ _); first | refine Ld.h H ?_ | refine Ld.r ?_) | ((with_reducible show Ix _ _ _ _ _); (first | refine Ix.h ?_ | refine Ix.ha ?_)) | (refine Al.hp H ?_; clear H; intro _ _ H _) | (refine St.h H ?_; clear H; intro _ H)) | refine Sm.strix T.ok ?_)
    refine ⟨(f, A', c', l ++ [t6.text], ts6), ⟨rfl, rfl, rfl, trivial⟩, rfl, ⟨hR, ?_, ?_⟩, Nat.lt_succ_self f⟩
    · simp only [List.length_append, List.length_cons, List.length_nil]; omega
    · have hl1 : (l ++ [t6.text]).length = l.length + 1 := by simp
      simp only [hl1]
      exact H
  · rw [if_pos hl0] at hR
    replace hR : R = (takeP s_comma (t0 :: r0)).bind fun _ ts1 => (takeP k_name ts1).bind fun t ts2 => (loopN f (l ++ [t.text]) ts2).bind (fun ps ts4 => (takeP s_rp ts4).bind fun _ ts5 => (F.block 1 ts5).bind fun b ts6 => .ok ⟨t2.text, ps, b⟩ ts6) := by
      rw [hR]
      cases takeP s_comma (t0 :: r0) with
      | out => rfl
      | err e p => rfl
      | ok a ts1 => simp only [Res.bind_ok, Res.bind_assoc]
    repeat' ((conv => whnf); first | ((with_reducible show Gd (bs _ == _) _ _); first | refine Gd.sY (by assumption) ?_ | refine Gd.sk (by assumption) ?_ | refine Gd.sN (by assumption) ?_) | ((conv => whnf); first | (((with_reducible show Gd _ _ _); first | with_reducible refine Gd.t ?_ | with_reducible refine Gd.f ?_ | with_reducible refine Gd.dec (fun _ => ?_) (fun _ => ?_) | with_reducible refine Gd.beq (fun _ => ?_) (fun _ => ?_) | with_reducible refine Gd.bne (fun _ => ?_) (fun _ => ?_) | with_reducible refine Gd.not ?_ | refine Gd.t ?_ | refine Gd.f ?_ | with_reducible refine Gd.var (fun _ => ?_) (fun _ => ?_)) <;> first | (exfalso; omega) | skip) | with_reducible refine Sq.mk ?_ | ((with_reducible show Ld1 _ _ _); first | refine Ld1.h H ?_ | refine Ld1.rF ?_ | refine Ld1.r ?_) | ((with_reducible show Ld _ _ _ _); first | refine Ld.h H ?_ | refine Ld.r ?_) | ((with_reducible show Ix _ _ _ _ _); (first | refine Ix.h ?_ | refine Ix.ha ?_)) | (refine Al.hp H ?_; clear H; intro _ _ H _) | (refine St.h H ?_; clear H; intro _ H)) | refine Sm.strix T.ok ?_)
    all_goals first | (exfalso; omega) | skip
    (replace H := Hp.toR H hnx hr0; clear hnx hr0)
    (((conv => whnf); refine Cl.mkX (take_c s_comma src pr (t0 :: r0) wb _ (H.base2 HB) X.lo X.tb X.len (H.atC 3 rfl) (by decide)) ?_ ?_; rotate_left; (rintro ch w9 ⟨e9, p9, q9, h9, rfl, H'⟩; exact ⟨e9, p9, q9, (by rw [hR, h9]; rfl), rfl, Hp.pan H H' (.inl rfl)⟩)); rintro _ w8 ⟨t7, ts7, h1, rfl, H'⟩; replace H := H.upd (c := rdr src pr (t0 :: r0)) H' rfl (.inl rfl); clear H'; rw [h1, Res.bind_ok] at hR; clear h1)
    repeat' ((conv => whnf); first | ((with_reducible show Gd (bs _ == _) _ _); first | refine Gd.sY (by assumption) ?_ | refine Gd.sk (by assumption) ?_ | refine Gd.sN (by assumption) ?_) | ((conv => whnf); first | (((with_reducible show Gd _ _ _); first | with_reducible refine Gd.t ?_ | with_reducible refine Gd.f ?_ | with_reducible refine Gd.dec (fun _ => ?_) (fun _ => ?_) | with_reducible refine Gd.beq (fun _ => ?_) (fun _ => ?_) | with_reducible refine Gd.bne (fun _ => ?_) (fun _ => ?_) | with_reducible refine Gd.not ?_ | refine Gd.t ?_ | refine Gd.f ?_ | with_reducible refine Gd.var (fun _ => ?_) (fun _ => ?_)) <;> first | (exfalso; omega) | skip) | with_reducible refine Sq.mk ?_ | ((with_reducible show Ld1 _ _ _); first | refine Ld1.h H ?_ | refine Ld1.rF ?_ | refine Ld1.r ?_) | ((with_reducible show Ld _ _ _ _); first | refine Ld.h H ?_ | refine Ld.r ?_) | ((with_reducible show Ix _ _ _ _ _); (first | refine Ix.h ?_ | refine Ix.ha ?_)) | (refine Al.hp H ?_; clear H; intro _ _ H _) | (refine St.h H ?_; clear H; intro _ H)) | refine Sm.strix T.ok ?_)
    (conv => whnf)
    refine Dr.chX T.ok mixed [0, 1, 2, 7] [3, 4, 5, 6, 8] (by kernel_rfl) rfl rfl (fun w' => Blk w' p3 45 [.string (bs t2.text), .slice A l.length c, .slice none 0 0]) (PanX R pr w) (fun ch F' w' hds h => by (conv => whnf); rw [show F'.ds = [] from hds]; exact h) (fun w1 eT _ => ?_)
    replace H := H.ext eT
    repeat' ((conv => whnf); first | refine QLd1.own (fun _ hw => hw) ?_ | refine QLd.own (fun _ hw => hw) ?_)
    (conv => whnf)
    refine ⟨H.blk 1 rfl, ?_⟩
    (((conv => whnf); refine Cl.mkX (take_c k_name src pr (ts7) wb _ (H.base2 HB) X.lo X.tb X.len (H.atC 3 rfl) (by decide)) ?_ ?_; rotate_left; (rintro ch w9 ⟨e9, p9, q9, h9, rfl, H'⟩; exact ⟨e9, p9, q9, (by rw [hR, h9]; rfl), rfl, Hp.pan H H' (.inl rfl)⟩)); rintro _ w8 ⟨t6, ts6, h1, rfl, H'⟩; replace H := H.upd (c := rdr src pr (ts7)) H' rfl (.inl rfl); clear H'; rw [h1, Res.bind_ok] at hR; clear h1)
    (conv => whnf)
    refine ⟨H.blk 1 rfl, ?_⟩
    (conv => whnf)
    refine ⟨H.blk 1 rfl, ?_⟩
    refine Sm.lith (cs := [.string (bs t6.text)]) H T.ok (fun p5 w4 H _ => ?_)
    (conv => whnf)
    refine ⟨H.blk 2 rfl, ?_⟩
    refine Sm.ap1 (enc := strE) t6.text H T.ok ?_ ?_ (fun A' c' w7 H => ?_)
    · show (l.length + 1) * 16 ≤ _; omega
    · omega
    simp only [List.cons_append, List.nil_append] at H
    (conv => whnf)
    refine ⟨H.blk 1 rfl, ?_⟩
    repeat' ((conv => whnf); first | ((with_reducible show Gd (bs _ == _) _ _); first | refine Gd.sY (by assumption) ?_ | refine Gd.sk (by assumption) ?_ | refine Gd.sN (by assumption) ?_) | ((conv => whnf); first | (((with_reducible show Gd _ _ _); first | with_reducible refine Gd.t ?_ | with_reducible refine Gd.f ?_ | with_reducible refine Gd.dec (fun _ => ?_) (fun _ => ?_) | with_reducible refine Gd.beq (fun _ => ?_) (fun _ => ?_) | with_reducible refine Gd.bne (fun _ => ?_) (fun _ => ?_) | with_reducible refine Gd.not ?_ | refine Gd.t ?_ | refine Gd.f ?_ | with_reducible refine Gd.var (fun _ => ?_) (fun _ => ?_)) <;> first | (exfalso; omega) | skip) | with_reducible refine Sq.mk ?_ | ((with_reducible show Ld1 _ _ _); first | refine Ld1.h H ?_ | refine Ld1.rF ?_ | refine Ld1.r ?_) | ((with_reducible show Ld _ _ _ _); first | refine Ld.h H ?_ | refine Ld.r ?_) | ((with_reducible show Ix _ _ _ _ _); (first | refine Ix.h ?_ | refine Ix.ha ?_)) | (refine Al.hp H ?_; clear H; intro _ _ H _) | (refine St.h H ?_; clear H; intro _ H)) | refine Sm.strix T.ok ?_)
    refine ⟨(f, A', c', l ++ [t6.text], ts6), ⟨rfl, rfl, rfl, trivial⟩, rfl, ⟨hR, ?_, ?_⟩, Nat.lt_succ_self f⟩
    · simp only [List.length_append, List.length_cons, List.length_nil]; omega
    · have hl1 : (l ++ [t6.text]).length = l.length + 1 := by simp
      simp only [hl1]
      exact H
end
end Go.Proofs.YtapdmkgdiaechaaDoor
namespace Go.Proofs.YtapdmkgdiaechaaDoor
open Go.RowKit Go.Extern.Stop Go.Stop Go.Extern
theorem tas_valueOf27 (t : Addr) (w : World) : (ReflectliteValue.unpack (.iface 55 (.pointer (some t)))).run Tryd.prog w
    = .ok (.agg #[.pointer (some ⟨8, 55, none⟩), .pointer (some ⟨w.heap.size, 0, none⟩), .int .u64 150]) (w.alloc (.cells #[.pointer (some t)] 55)) := by kernel_rfl
theorem tas_type27 (a : Addr) (w : World) : (ReflectliteValue.methodAny (ReflectliteValue.valueError "reflectlite.Value.Type" 0) (fun t _ _ _ => ReflectliteType.toType t) #[.agg #[.pointer (some ⟨8, 55, none⟩), .pointer (some a), .int .u64 150]]).run Tryd.prog w
    = .ok (.iface 92 (.agg #[.pointer (some ⟨8, 55, none⟩)])) w := by kernel_rfl
theorem tas_methodKind (h : Value) (w : World) : (Go.method 262 92 (.agg #[h]) "Kind").run Tryd.prog w = .ok (73, h) w := by kernel_rfl
theorem tas_kind27 (w : World) : ((ReflectliteType.abiMethod fun t => (fun a : Nat => Value.int IntKind.u8 (a : Int)) <$> Rtype.kind t) #[.pointer (some ⟨8, 55, none⟩)]).run Tryd.prog w = .ok (.int .u8 22) w := by kernel_rfl
theorem tas_kind25 (w : World) : ((ReflectliteType.abiMethod fun t => (fun a : Nat => Value.int IntKind.u8 (a : Int)) <$> Rtype.kind t) #[.pointer (some ⟨8, 50, none⟩)]).run Tryd.prog w = .ok (.int .u8 22) w := by kernel_rfl

theorem rlm (z : Sem Value) (f : TypeId → Addr → Nat → Nat → Sem Value) (v : Value) :
    ReflectliteValue.method z f #[v] = (do match ← ReflectliteValue.parts v with | none => z | some (t, a, fl) => f t a fl (fl % 32)) := rfl
theorem tas_parts27 (a : Addr) (w : World) : (ReflectliteValue.parts (.agg #[.pointer (some ⟨8, 55, none⟩), .pointer (some a), .int .u64 150])).run Tryd.prog w = .ok (some (55, a, 150)) w := by kernel_rfl
theorem tas_isNil27 (a p : Addr) (W : World) (ha : W.cell? a = some (.pointer (some p))) :
    (ReflectliteValue.method (ReflectliteValue.valueError "reflectlite.Value.IsNil" 0) ReflectliteValue.isNil #[.agg #[.pointer (some ⟨8, 55, none⟩), .pointer (some a), .int .u64 150]]).run Tryd.prog W = .ok (.bool false) W := by
  rw [rlm]
  simp only [Sem.run_bind, tas_parts27, Result.andThen]
  simp [ReflectliteValue.isNil, loadVar, isAgg, underlying, Tryd.underlying55, ha, Result.andThen]

theorem tas_methodElem (h : Value) (w : World) : (Go.method 262 92 (.agg #[h]) "Elem").run Tryd.prog w = .ok (83, .agg #[h]) w := by kernel_rfl
theorem tas_methodImplements (h : Value) (w : World) : (Go.method 262 92 (.agg #[h]) "Implements").run Tryd.prog w = .ok (84, .agg #[h]) w := by kernel_rfl
theorem tas_methodAssignableTo (h : Value) (w : World) : (Go.method 262 92 (.agg #[h]) "AssignableTo").run Tryd.prog w = .ok (81, .agg #[h]) w := by kernel_rfl
theorem tas_elem27 (w : World) : (ReflectliteType.method ReflectliteType.elem #[.agg #[.pointer (some ⟨8, 55, none⟩)]]).run Tryd.prog w = .ok (.iface 92 (.agg #[.pointer (some ⟨8, 50, none⟩)])) w := by kernel_rfl
theorem tas_implements25 (w : World) : (ReflectliteType.relation "Implements" ReflectliteType.implements_ #[.agg #[.pointer (some ⟨8, 50, none⟩)], .iface 92 (.agg #[.pointer (some ⟨8, 52, none⟩)])]).run Tryd.prog w = .ok (.bool true) w := by kernel_rfl
theorem tas_typeOf25 (v : Value) (w : World) : (ReflectliteType.typeOf #[.iface 50 v]).run Tryd.prog w = .ok (.iface 92 (.agg #[.pointer (some ⟨8, 50, none⟩)])) w := by kernel_rfl
theorem tas_assignable25 (w : World) : (ReflectliteType.relation "AssignableTo" ReflectliteType.assignableTo #[.agg #[.pointer (some ⟨8, 50, none⟩)], .iface 92 (.agg #[.pointer (some ⟨8, 50, none⟩)])]).run Tryd.prog w = .ok (.bool true) w := by kernel_rfl
theorem tas_valueOf25 (e : Addr) (w : World) : (ReflectliteValue.unpack (.iface 50 (.pointer (some e)))).run Tryd.prog w
    = .ok (.agg #[.pointer (some ⟨8, 50, none⟩), .pointer (some ⟨w.heap.size, 0, none⟩), .int .u64 150]) (w.alloc (.cells #[.pointer (some e)] 50)) := by kernel_rfl

theorem tas_elemOf27 (w : World) : (Rtype.elem? 55).run Tryd.prog w = .ok (some 50) w := by kernel_rfl
theorem tas_mk25 (p : Addr) (w : World) : (ReflectliteValue.mk 50 p ReflectliteValue.flagAddr).run Tryd.prog w = .ok (.agg #[.pointer (some ⟨8, 50, none⟩), .pointer (some p), .int .u64 406]) w := by kernel_rfl
theorem tas_elemV27 (a p : Addr) (W : World) (ha : W.cell? a = some (.pointer (some p))) :
    (ReflectliteValue.method (ReflectliteValue.valueError "reflectlite.Value.Elem" 0) ReflectliteValue.elem #[.agg #[.pointer (some ⟨8, 55, none⟩), .pointer (some a), .int .u64 150]]).run Tryd.prog W
      = .ok (.agg #[.pointer (some ⟨8, 50, none⟩), .pointer (some p), .int .u64 406]) W := by
  rw [rlm]
  simp only [Sem.run_bind, tas_parts27, Result.andThen]
  simp [ReflectliteValue.elem, loadVar, isAgg, underlying, Tryd.underlying55, ha, Result.andThen, tas_elemOf27, tas_mk25]
theorem rls (v x : Value) : ReflectliteValue.set #[v, x] = (do
    let (some (dst, a, fl), some (src, b, _)) := (← ReflectliteValue.parts v, ← ReflectliteValue.parts x)
      | unsupported (.noEntry "extern/(internal/reflectlite.Value).Set.zeroValue")
    if fl / ReflectliteValue.flagAddr % 2 == 0 then unsupported (.noEntry "extern/(internal/reflectlite.Value).Set.unaddressable")
    let val ← loadVar src b
    if ← Rtype.directlyAssignable dst src then storeVar dst a val
    else if ← Rtype.implements dst src then
      if (← Rtype.kind src) == 20 then
        match val with
        | .nilIface => unsupported (.noEntry "extern/reflectlite: a nil value of one interface type handed on as a value of another")
        | _ => storeVar dst a val
      else storeVar dst a (.iface src val)
    else panicString ("reflectlite.Set: value of type " ++ (← Rtype.spelt src) ++ " is not assignable to type " ++ (← Rtype.spelt dst))
    pure (.tuple #[])) := rfl
theorem tas_parts25a (a : Addr) (w : World) : (ReflectliteValue.parts (.agg #[.pointer (some ⟨8, 50, none⟩), .pointer (some a), .int .u64 406])).run Tryd.prog w = .ok (some (50, a, 406)) w := by kernel_rfl
theorem tas_parts25 (a : Addr) (w : World) : (ReflectliteValue.parts (.agg #[.pointer (some ⟨8, 50, none⟩), .pointer (some a), .int .u64 150])).run Tryd.prog w = .ok (some (50, a, 150)) w := by kernel_rfl
theorem tas_direct25 (w : World) : (Rtype.directlyAssignable 50 50).run Tryd.prog w = .ok true w := by kernel_rfl
theorem tas_size25 (w : World) : (sizeOf 50).run Tryd.prog w = .ok 1 w := by kernel_rfl
theorem tas_set25 (ta b e : Addr) (old : Value) (W : World) (hb : W.cell? b = some (.pointer (some e))) (ht : W.cell? ta = some old) (hf : W.frozen? ta = false) :
    (ReflectliteValue.set #[.agg #[.pointer (some ⟨8, 50, none⟩), .pointer (some ta), .int .u64 406], .agg #[.pointer (some ⟨8, 50, none⟩), .pointer (some b), .int .u64 150]]).run Tryd.prog W
      = .ok (.tuple #[]) (W.setCell ta (.pointer (some e))) := by
  rw [rls]
  simp only [Sem.run_bind, tas_parts25a, tas_parts25, Result.andThen]
  simp [ReflectliteValue.flagAddr, loadVar, isAgg, underlying, Tryd.underlying50, hb, Result.andThen, tas_direct25, storeVar, Value.cells, storeCells, Addr.add]
  rw [run_store Tryd.prog W ta _ _ (by rfl)]
  simp [ht, hf]

set_option maxRecDepth 20000 in
set_option maxHeartbeats 8000000 in
theorem as_hit (e t : Addr) (old : Value) (w : World) (hg : w.cell? ⟨0, 0, none⟩ = some (.iface 92 (.agg #[.pointer (some ⟨8, 52, none⟩)]))) (ht0 : w.cell? t = some old) (hf0 : w.frozen? t = false) :
    Calls Tryd.prog 14 #[.iface 50 (.pointer (some e)), .iface 55 (.pointer (some t))] w fun ev w' => ev = .returned (.bool true) ∧ w' = ((((w.alloc (.cells #[.pointer (some t)] 55)).alloc (.cells #[.pointer (some ⟨8, 55, none⟩), .pointer (some ⟨w.heap.size, 0, none⟩), .int .u64 150] 68)).alloc (.cells #[.pointer (some ⟨8, 55, none⟩), .pointer (some ⟨w.heap.size, 0, none⟩), .int .u64 150] 68)).alloc (.cells #[.pointer (some e)] 50)).setCell t (.pointer (some e)) := by
  have h6 := @run_callFunc_extern Tryd.prog 18 _ (fun args => ReflectliteValue.unpack (args.getD 0 (.tuple #[]))) Tryd.func18 (by kernel_rfl) (by kernel_rfl) (by kernel_rfl) (by kernel_rfl)
  have h7 := @run_callFunc_extern Tryd.prog 19 _ (ReflectliteValue.methodAny (ReflectliteValue.valueError "reflectlite.Value.Type" 0) (fun t _ _ _ => ReflectliteType.toType t)) Tryd.func19 (by kernel_rfl) (by kernel_rfl) (by kernel_rfl) (by kernel_rfl)
  have h8 := @run_callFunc_extern Tryd.prog 20 _ (ReflectliteValue.method (ReflectliteValue.valueError "reflectlite.Value.IsNil" 0) ReflectliteValue.isNil) Tryd.func20 (by kernel_rfl) (by kernel_rfl) (by kernel_rfl) (by kernel_rfl)
  have h27 := @run_callFunc_extern Tryd.prog 73 _ (ReflectliteType.abiMethod fun t => do pure (.int .u8 (← Rtype.kind t))) Tryd.func73 (by kernel_rfl) (by kernel_rfl) (by kernel_rfl) (by kernel_rfl)
  have h37 := @run_callFunc_extern Tryd.prog 83 _ (ReflectliteType.method ReflectliteType.elem) Tryd.func83 (by kernel_rfl) (by kernel_rfl) (by kernel_rfl) (by kernel_rfl)
  have h38 := @run_callFunc_extern Tryd.prog 84 _ (ReflectliteType.relation "Implements" ReflectliteType.implements_) Tryd.func84 (by kernel_rfl) (by kernel_rfl) (by kernel_rfl) (by kernel_rfl)
  have h10 := @run_callFunc_extern Tryd.prog 30 _ ReflectliteType.typeOf Tryd.func30 (by kernel_rfl) (by kernel_rfl) (by kernel_rfl) (by kernel_rfl)
  have h35 := @run_callFunc_extern Tryd.prog 81 _ (ReflectliteType.relation "AssignableTo" ReflectliteType.assignableTo) Tryd.func81 (by kernel_rfl) (by kernel_rfl) (by kernel_rfl) (by kernel_rfl)
  have h11 := @run_callFunc_extern Tryd.prog 31 _ (ReflectliteValue.method (ReflectliteValue.valueError "reflectlite.Value.Elem" 0) ReflectliteValue.elem) Tryd.func31 (by kernel_rfl) (by kernel_rfl) (by kernel_rfl) (by kernel_rfl)
  have h12 := @run_callFunc_extern Tryd.prog 32 _ ReflectliteValue.set Tryd.func32 (by kernel_rfl) (by kernel_rfl) (by kernel_rfl) (by kernel_rfl)
  have tO := tas_typeOf25
  have mA := tas_methodAssignableTo
  have a25 := tas_assignable25
  have v25 := tas_valueOf25
  have f6 := tas_valueOf27
  have f7 := tas_type27
  have mK := tas_methodKind
  have mE := tas_methodElem
  have mI := tas_methodImplements
  have k27 := tas_kind27
  have k25 := tas_kind25
  have e27 := tas_elem27
  have i25 := tas_implements25
  have n8 := tas_isNil27 ⟨w.heap.size, 0, none⟩ t ((w.alloc (.cells #[.pointer (some t)] 55)).alloc (.cells #[.pointer (some ⟨8, 55, none⟩), .pointer (some ⟨w.heap.size, 0, none⟩), .int .u64 150] 68)) (by simp)
  have hlt : 0 < w.heap.size := by
    rcases Nat.eq_zero_or_pos w.heap.size with h0 | h
    · simp [World.cell?, h0] at hg
    · exact h
  have hg2 : ((w.alloc (.cells #[.pointer (some t)] 55)).alloc (.cells #[.pointer (some ⟨8, 55, none⟩), .pointer (some ⟨w.heap.size, 0, none⟩), .int .u64 150] 68)).cell? ⟨0, 0, none⟩ = some (.iface 92 (.agg #[.pointer (some ⟨8, 52, none⟩)])) := by
    rw [World.cell?_alloc_lt _ _ ⟨0, 0, none⟩ (by simp), World.cell?_alloc_lt _ _ ⟨0, 0, none⟩ hlt]; exact hg
  have htl : t.block < w.heap.size := by
    rcases Nat.lt_or_ge t.block w.heap.size with h | h
    · exact h
    · simp [World.cell?, Array.getElem?_eq_none h] at ht0
  have el := tas_elemV27 ⟨w.heap.size, 0, none⟩ t (((w.alloc (.cells #[.pointer (some t)] 55)).alloc (.cells #[.pointer (some ⟨8, 55, none⟩), .pointer (some ⟨w.heap.size, 0, none⟩), .int .u64 150] 68)).alloc (.cells #[.pointer (some ⟨8, 55, none⟩), .pointer (some ⟨w.heap.size, 0, none⟩), .int .u64 150] 68)) (by rw [World.cell?_alloc_lt _ _ ⟨w.heap.size, 0, none⟩ (by simp; omega)]; simp)
  have st := tas_set25 t ⟨w.heap.size + 1 + 1 + 1, 0, none⟩ e old ((((w.alloc (.cells #[.pointer (some t)] 55)).alloc (.cells #[.pointer (some ⟨8, 55, none⟩), .pointer (some ⟨w.heap.size, 0, none⟩), .int .u64 150] 68)).alloc (.cells #[.pointer (some ⟨8, 55, none⟩), .pointer (some ⟨w.heap.size, 0, none⟩), .int .u64 150] 68)).alloc (.cells #[.pointer (some e)] 50))
    (by rw [World.cell?_alloc_at _ _ _ _ (by simp)]; rfl)
    (by rw [World.cell?_alloc_lt _ _ t (by simp; omega), World.cell?_alloc_lt _ _ t (by simp; omega), World.cell?_alloc_lt _ _ t (by simp; omega), World.cell?_alloc_lt _ _ t htl]; exact ht0)
    (by rw [World.frozen?_alloc_old _ _ t (by simp; omega), World.frozen?_alloc_old _ _ t (by simp; omega), World.frozen?_alloc_old _ _ t (by simp; omega), World.frozen?_alloc_old _ _ t (Nat.ne_of_lt htl)]; exact hf0)
  go_enter Tryd.func14, Tryd.ntmps14
  go_wp2
  refine wp_loop_rounds 1 ?_
  rw [rounds_succ]
  go_wp2
  go_ret
  exact ⟨rfl, rfl⟩
end Go.Proofs.YtapdmkgdiaechaaDoor
namespace Go.Proofs.YtapdmkgdiaechaaDoor
open Go Go.Sh Go.Tx
set_option linter.unusedVariables false
set_option linter.unusedSimpArgs false
set_option linter.unusedSectionVars false
/-- a closure whose first region recovers and keeps what it got -/
theorem DCl.recov2 {P : Program} {T : Tab} (hT : TabOk P T) {f : FuncId} {fn : Func} {args : List Value} {w : World} {k : FrameMode → World → Prop} {m id d d2 : Nat} {o o2 : Oper} {c2 : Code} {u u1 : FrameMode} {v : Value}
    (hf : P.funcs[f]? = some fn) (hb : fn.body = some (.seq (.region id #[o, o2] false) c2)) (hm : fn.ntmps = m) (hrs : fn.results = #[]) (hn : Nat.ble args.length m = true)
    (ho : ∀ ρ w, (execOp ρ o).run P w = .ok .recover w) (hg : o.guard = none) (hd : o.dst = some d) (hdn : Nat.blt d m = true)
    (ho2 : o2.op = .assign (.tmp d)) (hg2 : o2.guard = none) (hd2 : o2.dst = some d2) (hdn2 : Nat.blt d2 m = true)
    (hu : (u = .returning ∧ v = .nilIface ∧ u1 = .returning) ∨ ∃ x, u = .panicking [{ v := x, recovered := false }] ∧ v = x ∧ u1 = .panicking [{ v := x, recovered := true }])
    (h : exC P T m c2 ⟨(d2, v) :: (d, v) :: argsEnv args 0, []⟩ w (fun e F w' => match e with | .normal | .ret => F.ds = [] ∧ k u1 w' | _ => False)) : DCl P f args.toArray u w k := by
  subst hm
  refine ⟨callsD_of_wpS hf hb fun c₀ cs hc => ?_⟩
  refine wpS_seq (wpS_region ?_)
  have hr0 : List.range (#[o, o2] : Array Oper).size = [0, 1] := rfl
  rw [hr0]
  have ha1 := (Agr.enter (fn := fn) hn).put (d := some d) (by simpa [dstOk] using hdn) v
  have ha := ha1.put (d := some d2) (by simpa [dstOk] using hdn2) v
  have hev := ha1.ev (.tmp d) v (by simp [evF, Fr.put, Sh.look])
  have fin : ∀ c₁ : Frame, c₁ = { c₀ with mode := u1 } → c2.wpS P (bodyPostS P fn c₀ cs (fun e u' w' => match e with | .returned _ => k u' w' | _ => False)) (Act.put (Act.put { tmps := args.toArray ++ Array.replicate (fn.ntmps - args.toArray.size) undef, defers := [] } (some d) v) (some d2) v) (c₁ :: cs) w := fun c₁ h1 => by
    refine wpS_of_wp (wp_mono (exC_sound hT c2 _ _ w _ ha (by exact h)) fun e a' w' q => ?_)
    obtain ⟨F', ha', q⟩ := q
    cases e with
    | normal =>
      refine ⟨ha'.2.1.trans q.1, u1, by rw [h1], .tuple #[], ?_, q.2⟩
      exact (by simp [results, hrs] : (results fn a'.tmps).run P w' = .ok (.tuple #[]) w')
    | ret =>
      refine ⟨ha'.2.1.trans q.1, u1, by rw [h1], .tuple #[], ?_, q.2⟩
      exact (by simp [results, hrs] : (results fn a'.tmps).run P w' = .ok (.tuple #[]) w')
    | _ => exact q.elim
  have snd : ∀ (Q : Exit → Act → List Frame → World → Prop) (c₁ : Frame), Q .normal (Act.put (Act.put { tmps := args.toArray ++ Array.replicate (fn.ntmps - args.toArray.size) undef, defers := [] } (some d) v) (some d2) v) (c₁ :: cs) w → wpOpsS P #[o, o2] Q [1] (Act.put { tmps := args.toArray ++ Array.replicate (fn.ntmps - args.toArray.size) undef, defers := [] } (some d) v) (c₁ :: cs) w := fun Q c₁ h1 => by
    unfold wpOpsS
    simp only [List.getElem?_toArray, List.getElem?_cons_succ, List.getElem?_cons_zero, wanted_none hg2, if_true]
    have hx : ∀ ρ w, (execOp ρ o2).run P w = .ok (.value (ρ (.tmp d))) w := fun ρ w => by unfold execOp; rw [ho2]; rfl
    simp only [hx, hev, Oper.upon, hd2]
    unfold wpOpsS
    exact h1
  unfold wpOpsS
  simp only [List.getElem?_toArray, List.getElem?_cons_zero, wanted_none hg, if_true, ho, hd]
  rcases hu with ⟨h1, rfl, h3⟩ | ⟨x, h1, rfl, h3⟩
  · have : recoverD (c₀ :: cs) = none := by simp [recoverD, hc, h1]
    simp only [this]
    exact snd _ c₀ (fin c₀ (by rw [h3, ← h1, ← hc]))
  · have : recoverD (c₀ :: cs) = some (v, { c₀ with mode := u1 } :: cs) := by simp [recoverD, hc, h1, h3]
    simp only [this]
    exact snd _ _ (fin _ rfl)
/-- the package's own mark of errors -/
def EG (w : World) : Prop := w.cell? ⟨0, 0, none⟩ = some (.iface 92 (.agg #[.pointer (some ⟨8, 52, none⟩)]))
theorem EG.lt {w : World} (h : EG w) : 0 < w.heap.size := by
  rcases Nat.lt_or_ge 0 w.heap.size with h1 | h1
  · exact h1
  · unfold EG at h
    simp [World.cell?, Array.getElem?_eq_none h1] at h
theorem EG.ext {w w' : World} (h : EG w) (e : Ext w w') : EG w' := by
  have hb : w'.heap[0]? = w.heap[0]? := Go.RowKit.Below.block e _ h.lt
  unfold EG at h ⊢
  unfold World.cell? at h ⊢
  simp only at h hb ⊢
  rw [hb]; exact h
theorem as_c (q t : Nat) (old : Value) (w : World) (hE : EG w) (hb : Blk w t 50 [old]) :
    Cl Tryd.prog 14 #[.iface 50 (.pointer (some ⟨q, 0, none⟩)), .iface 55 (.pointer (some ⟨t, 0, none⟩))] w
      (fun v w' => v = .bool true ∧ Hp (· = t) w w' [bk t 50 [.pointer (some ⟨q, 0, none⟩)]]) (fun _ _ => False) := by
  refine ⟨Calls.mono (as_hit ⟨q, 0, none⟩ ⟨t, 0, none⟩ old w hE ?_ ?_) ?_⟩
  · exact hb.cell 0
  · exact hb.frozen _ rfl
  rintro ev w' ⟨rfl, rfl⟩
  refine ⟨rfl, ?_⟩
  have e := (((Ext.alloc w (.cells #[.pointer (some ⟨t, 0, none⟩)] 55)).trans (Ext.alloc _ (.cells #[.pointer (some ⟨8, 55, none⟩), .pointer (some ⟨w.heap.size, 0, none⟩), .int .u64 150] 68))).trans (Ext.alloc _ (.cells #[.pointer (some ⟨8, 55, none⟩), .pointer (some ⟨w.heap.size, 0, none⟩), .int .u64 150] 68))).trans (Ext.alloc _ (.cells #[.pointer (some ⟨q, 0, none⟩)] 50))
  have H0 : Hp (· = t) w w [bk t 50 [old]] := Hp.start (S := (· = t)) (bk_ok hb) (fun k hk => hk)
  have H := H0.ext e
  have hst := St.h (vs := [Value.pointer (some ⟨q, 0, none⟩)]) (o := 0) (k := fun w' => Hp (· = t) w w' [bk t 50 [.pointer (some ⟨q, 0, none⟩)]]) H (fun w' H => H)
  exact hst.out
attribute [local irreducible] Blk Ext RdS
theorem run_as (x : Value) (w : World) : (Instr.typeAssert (.iface 50 x) 20 52 true).run Tryd.prog w = .ok (.tuple #[.iface 50 x, .bool true]) w := by kernel_rfl
theorem parse1_ret (p2 p3 : Nat) (w : World) : DCl Tryd.prog 13 #[.pointer (some ⟨p2, 0, none⟩), .pointer (some ⟨p3, 0, none⟩)] .returning w (fun u w' => u = .returning ∧ Ext w w') := by
  refine DCl.recov2 (args := [.pointer (some ⟨p2, 0, none⟩), .pointer (some ⟨p3, 0, none⟩)]) T.ok Tryd.func13 rfl rfl rfl rfl (fun ρ w => rfl) rfl rfl rfl rfl rfl rfl rfl (.inl ⟨rfl, rfl, rfl⟩) ?_
  have H := Hp.begin nw w
  repeat' ((conv => whnf); first | (((with_reducible show Gd _ _ _); first | with_reducible refine Gd.t ?_ | with_reducible refine Gd.f ?_ | with_reducible refine Gd.dec (fun _ => ?_) (fun _ => ?_) | with_reducible refine Gd.beq (fun _ => ?_) (fun _ => ?_) | with_reducible refine Gd.bne (fun _ => ?_) (fun _ => ?_) | with_reducible refine Gd.not ?_ | refine Gd.t ?_ | refine Gd.f ?_ | with_reducible refine Gd.var (fun _ => ?_) (fun _ => ?_)) <;> first | (exfalso; omega) | skip) | with_reducible refine Sq.mk ?_ | ((with_reducible show Ld1 _ _ _); first | refine Ld1.h H ?_ | refine Ld1.rF ?_ | refine Ld1.r ?_) | ((with_reducible show Ld _ _ _ _); first | refine Ld.h H ?_ | refine Ld.r ?_) | ((with_reducible show Ix _ _ _ _ _); (first | refine Ix.h ?_ | refine Ix.ha ?_)) | (refine Al.hp H ?_; clear H; intro _ _ H _) | (refine St.h H ?_; clear H; intro _ H))
  exact ⟨rfl, rfl, H.e⟩
theorem parse1_pan {w0 w : World} {q p2 p3 : Nat} {e : Int} {p : Nat} {c2 x y : Value} (hE : EG w0) (H : Hp nw w0 w [bk q 57 [.int .i64 e, .int .i64 (p : Int)], bk p3 40 [x, y], bk p2 37 [c2]]) :
    DCl Tryd.prog 13 #[.pointer (some ⟨p2, 0, none⟩), .pointer (some ⟨p3, 0, none⟩)] (.panicking (pk q)) w
      (fun u w' => u = .panicking [{ v := .iface 50 (.pointer (some ⟨q, 0, none⟩)), recovered := true }] ∧ Hp nw w0 w' [bk p3 40 [.int .i64 e, .int .i64 (p : Int)], bk p2 37 [.slice none 0 0]]) := by
  refine DCl.recov2 (args := [.pointer (some ⟨p2, 0, none⟩), .pointer (some ⟨p3, 0, none⟩)]) T.ok Tryd.func13 rfl rfl rfl rfl (fun ρ w => rfl) rfl rfl rfl rfl rfl rfl rfl (.inr ⟨_, rfl, rfl, rfl⟩) ?_
  repeat' ((conv => whnf); first | (((with_reducible show Gd _ _ _); first | with_reducible refine Gd.t ?_ | with_reducible refine Gd.f ?_ | with_reducible refine Gd.dec (fun _ => ?_) (fun _ => ?_) | with_reducible refine Gd.beq (fun _ => ?_) (fun _ => ?_) | with_reducible refine Gd.bne (fun _ => ?_) (fun _ => ?_) | with_reducible refine Gd.not ?_ | refine Gd.t ?_ | refine Gd.f ?_ | with_reducible refine Gd.var (fun _ => ?_) (fun _ => ?_)) <;> first | (exfalso; omega) | skip) | with_reducible refine Sq.mk ?_ | ((with_reducible show Ld1 _ _ _); first | refine Ld1.h H ?_ | refine Ld1.rF ?_ | refine Ld1.r ?_) | ((with_reducible show Ld _ _ _ _); first | refine Ld.h H ?_ | refine Ld.r ?_) | ((with_reducible show Ix _ _ _ _ _); (first | refine Ix.h ?_ | refine Ix.ha ?_)) | (refine St.h H ?_; clear H; intro _ H))
  ((conv => whnf); refine Al.hp H ?_; clear H; intro p5 _ H _)
  repeat' ((conv => whnf); first | (((with_reducible show Gd _ _ _); first | with_reducible refine Gd.t ?_ | with_reducible refine Gd.f ?_ | with_reducible refine Gd.dec (fun _ => ?_) (fun _ => ?_) | with_reducible refine Gd.beq (fun _ => ?_) (fun _ => ?_) | with_reducible refine Gd.bne (fun _ => ?_) (fun _ => ?_) | with_reducible refine Gd.not ?_ | refine Gd.t ?_ | refine Gd.f ?_ | with_reducible refine Gd.var (fun _ => ?_) (fun _ => ?_)) <;> first | (exfalso; omega) | skip) | with_reducible refine Sq.mk ?_ | ((with_reducible show Ld1 _ _ _); first | refine Ld1.h H ?_ | refine Ld1.rF ?_ | refine Ld1.r ?_) | ((with_reducible show Ld _ _ _ _); first | refine Ld.h H ?_ | refine Ld.r ?_) | ((with_reducible show Ix _ _ _ _ _); (first | refine Ix.h ?_ | refine Ix.ha ?_)) | (refine Al.hp H ?_; clear H; intro _ _ H _) | (refine St.h H ?_; clear H; intro _ H))
  refine Sm.ran (run_as _ _) ?_
  repeat' ((conv => whnf); first | (((with_reducible show Gd _ _ _); first | with_reducible refine Gd.t ?_ | with_reducible refine Gd.f ?_ | with_reducible refine Gd.dec (fun _ => ?_) (fun _ => ?_) | with_reducible refine Gd.beq (fun _ => ?_) (fun _ => ?_) | with_reducible refine Gd.bne (fun _ => ?_) (fun _ => ?_) | with_reducible refine Gd.not ?_ | refine Gd.t ?_ | refine Gd.f ?_ | with_reducible refine Gd.var (fun _ => ?_) (fun _ => ?_)) <;> first | (exfalso; omega) | skip) | with_reducible refine Sq.mk ?_ | ((with_reducible show Ld1 _ _ _); first | refine Ld1.h H ?_ | refine Ld1.rF ?_ | refine Ld1.r ?_) | ((with_reducible show Ld _ _ _ _); first | refine Ld.h H ?_ | refine Ld.r ?_) | ((with_reducible show Ix _ _ _ _ _); (first | refine Ix.h ?_ | refine Ix.ha ?_)) | (refine Al.hp H ?_; clear H; intro _ _ H _) | (refine St.h H ?_; clear H; intro _ H))
  ((conv => whnf); refine Cl.mk (as_c q p5 (.pointer none) _ (hE.ext H.e) (H.blk 0 rfl)) ?_)
  rintro _ w6 ⟨rfl, H'⟩
  replace H := H.updb H'
  clear H'
  repeat' ((conv => whnf); first | (((with_reducible show Gd _ _ _); first | with_reducible refine Gd.t ?_ | with_reducible refine Gd.f ?_ | with_reducible refine Gd.dec (fun _ => ?_) (fun _ => ?_) | with_reducible refine Gd.beq (fun _ => ?_) (fun _ => ?_) | with_reducible refine Gd.bne (fun _ => ?_) (fun _ => ?_) | with_reducible refine Gd.not ?_ | refine Gd.t ?_ | refine Gd.f ?_ | with_reducible refine Gd.var (fun _ => ?_) (fun _ => ?_)) <;> first | (exfalso; omega) | skip) | with_reducible refine Sq.mk ?_ | ((with_reducible show Ld1 _ _ _); first | refine Ld1.h H ?_ | refine Ld1.rF ?_ | refine Ld1.r ?_) | ((with_reducible show Ld _ _ _ _); first | refine Ld.h H ?_ | refine Ld.r ?_) | ((with_reducible show Ix _ _ _ _ _); (first | refine Ix.h ?_ | refine Ix.ha ?_)) | (refine Al.hp H ?_; clear H; intro _ _ H _) | (refine St.h H ?_; clear H; intro _ H))
  exact ⟨rfl, rfl, H.sel [2, 2] rfl⟩
/-- what reading comes to -/
def PR (l : Bs) : Res (List Fnc) := if 16384 < l.length then .err 2 0 else parseP l (fuelOf l)
def OkP (l : Bs) (w : World) (v : Value) (w' : World) : Prop :=
  (∃ m ts A c, PR l = .ok (m.map FM.e) ts ∧ v = .tuple #[.agg #[.slice A m.length c], .agg #[.int .i64 0, .int .i64 0]] ∧ m.length ≤ 2000000 ∧ Hp nw w w' [qu FM.enc 3 45 A c m, fns m]) ∨
  (∃ e p, PR l = .err e p ∧ v = .tuple #[.agg #[.slice none 0 0], .agg #[.int .i64 e, .int .i64 (p : Int)]] ∧ Ext w w')
/-- all that the program's reading leans on -/
structure Rg (w : World) : Prop where
  tb : Tb w
  eg : EG w
theorem Rg.ext {w w' : World} (h : Rg w) (e : Ext w w') : Rg w' := ⟨h.tb.ext e, h.eg.ext e⟩
set_option maxHeartbeats 4000000 in
theorem Parse_c (l : Bs) (w : World) (hG : Rg w) : Cl Tryd.prog 11 #[.string (bs l)] w (OkP l w) (fun _ _ => False) := by
  refine calls_exd (args := [.string (bs l)]) T.ok Tryd.func11 rfl rfl rfl rfl ?_
  have H := Hp.begin nw w
  have hsz := bs_size l
  refine Sq.mk ?_
  ((conv => whnf); refine Al.hp H ?_; clear H; intro p2 _ H _)
  ((conv => whnf); refine Al.hp H ?_; clear H; intro p3 _ H _)
  by_cases hlong : 16384 < l.length
  · repeat' ((conv => whnf); first | (((with_reducible show Gd _ _ _); first | with_reducible refine Gd.t ?_ | with_reducible refine Gd.f ?_ | with_reducible refine Gd.dec (fun _ => ?_) (fun _ => ?_) | with_reducible refine Gd.beq (fun _ => ?_) (fun _ => ?_) | with_reducible refine Gd.bne (fun _ => ?_) (fun _ => ?_) | with_reducible refine Gd.not ?_ | refine Gd.t ?_ | refine Gd.f ?_ | with_reducible refine Gd.var (fun _ => ?_) (fun _ => ?_)) <;> first | (exfalso; omega) | skip) | with_reducible refine Sq.mk ?_ | ((with_reducible show Ld1 _ _ _); first | refine Ld1.h H ?_ | refine Ld1.rF ?_ | refine Ld1.r ?_) | ((with_reducible show Ld _ _ _ _); first | refine Ld.h H ?_ | refine Ld.r ?_) | ((with_reducible show Ix _ _ _ _ _); (first | refine Ix.h ?_ | refine Ix.ha ?_)) | (refine Al.hp H ?_; clear H; intro _ _ H _) | (refine St.h H ?_; clear H; intro _ H))
    all_goals first | (exfalso; omega) | skip
    exact .inr ⟨2, 0, by unfold PR; rw [if_pos hlong], rfl, H.e⟩
  obtain ⟨R, hR⟩ : ∃ R, R = PR l := ⟨_, rfl⟩
  have hne : R ≠ .out := by
    rw [hR]; unfold PR; rw [if_neg hlong]
    intro e
    have := parse_fin l
    rw [e] at this
    exact this
  have hRp : R = parseP l (fuelOf l) := by rw [hR]; unfold PR; rw [if_neg hlong]
  unfold parseP at hRp
  repeat' ((conv => whnf); first | (((with_reducible show Gd _ _ _); first | with_reducible refine Gd.t ?_ | with_reducible refine Gd.f ?_ | with_reducible refine Gd.dec (fun _ => ?_) (fun _ => ?_) | with_reducible refine Gd.beq (fun _ => ?_) (fun _ => ?_) | with_reducible refine Gd.bne (fun _ => ?_) (fun _ => ?_) | with_reducible refine Gd.not ?_ | refine Gd.t ?_ | refine Gd.f ?_ | with_reducible refine Gd.var (fun _ => ?_) (fun _ => ?_)) <;> first | (exfalso; omega) | skip) | with_reducible refine Sq.mk ?_ | ((with_reducible show Ld1 _ _ _); first | refine Ld1.h H ?_ | refine Ld1.rF ?_ | refine Ld1.r ?_) | ((with_reducible show Ld _ _ _ _); first | refine Ld.h H ?_ | refine Ld.r ?_) | ((with_reducible show Ix _ _ _ _ _); (first | refine Ix.h ?_ | refine Ix.ha ?_)) | (refine St.h H ?_; clear H; intro _ H))
  all_goals first | (exfalso; omega) | skip
  ((conv => whnf); refine Al.hp H ?_; clear H; intro pr _ H _)
  repeat' ((conv => whnf); first | (((with_reducible show Gd _ _ _); first | with_reducible refine Gd.t ?_ | with_reducible refine Gd.f ?_ | with_reducible refine Gd.dec (fun _ => ?_) (fun _ => ?_) | with_reducible refine Gd.beq (fun _ => ?_) (fun _ => ?_) | with_reducible refine Gd.bne (fun _ => ?_) (fun _ => ?_) | with_reducible refine Gd.not ?_ | refine Gd.t ?_ | refine Gd.f ?_ | with_reducible refine Gd.var (fun _ => ?_) (fun _ => ?_)) <;> first | (exfalso; omega) | skip) | with_reducible refine Sq.mk ?_ | ((with_reducible show Ld1 _ _ _); first | refine Ld1.h H ?_ | refine Ld1.rF ?_ | refine Ld1.r ?_) | ((with_reducible show Ld _ _ _ _); first | refine Ld.h H ?_ | refine Ld.r ?_) | ((with_reducible show Ix _ _ _ _ _); (first | refine Ix.h ?_ | refine Ix.ha ?_)) | (refine Al.hp H ?_; clear H; intro _ _ H _) | (refine St.h H ?_; clear H; intro _ H))
  have hfix : ∀ w', Hp nw w w' [bk pr 62 (rdrCs l 0 ⟨[], [], 0, 0, 0⟩), bk p3 40 [.int .i64 0, .int .i64 0], bk p2 37 [.slice none 0 0]] → Hp nw w w' [bk pr 62 (rdrCs l 0 ⟨[], [], 0, 0, 0⟩), bk p3 40 [.int .i64 0, .int .i64 0], bk p2 37 [.slice none 0 0]] := fun _ h => h
  replace H := hfix _ H
  clear hfix
  have hwl := words_len l (l.length + 1) 0
  replace H := Hp.toR (t := ⟨[], [], 0, 0, 0⟩) (r := words l (l.length + 1) 0) H (Nat.zero_le _) ⟨fun _ => rfl, by omega, by decide, by decide⟩
  have X : Txt l pr w := ⟨by assumption, hG.tb, by omega⟩
  have C := con_all X (fuelOf l)
  (conv => whnf)
  refine Cl.mkX (step_c false l pr (⟨[], [], 0, 0, 0⟩ :: words l (l.length + 1) 0) w _ H.e X.lo X.tb X.len (H.atC 0 rfl) (by show ([] : Bs) ≠ k_end; decide)) ?_ ?_
  rotate_left
  · rintro ch w9 ⟨e9, p9, q9, h9, rfl, H'⟩
    replace H := H.upd (c := rdr l pr (⟨[], [], 0, 0, 0⟩ :: words l (l.length + 1) 0)) H' rfl (.inl rfl)
    have hR9 : R = .err e9 p9 := by rw [hRp, h9]; rfl
    (conv => whnf)
    refine DCl.mono (parse1_pan hG.eg (H.sel [0, 0, 0] rfl)) ?_
    rintro _ w10 ⟨rfl, H2⟩
    replace H := H2
    repeat' ((conv => whnf); first | (((with_reducible show Gd _ _ _); first | with_reducible refine Gd.t ?_ | with_reducible refine Gd.f ?_ | with_reducible refine Gd.dec (fun _ => ?_) (fun _ => ?_) | with_reducible refine Gd.beq (fun _ => ?_) (fun _ => ?_) | with_reducible refine Gd.bne (fun _ => ?_) (fun _ => ?_) | with_reducible refine Gd.not ?_ | refine Gd.t ?_ | refine Gd.f ?_ | with_reducible refine Gd.var (fun _ => ?_) (fun _ => ?_)) <;> first | (exfalso; omega) | skip) | with_reducible refine Sq.mk ?_ | ((with_reducible show Ld1 _ _ _); first | refine Ld1.h H ?_ | refine Ld1.rF ?_ | refine Ld1.r ?_) | ((with_reducible show Ld _ _ _ _); first | refine Ld.h H ?_ | refine Ld.r ?_) | ((with_reducible show Ix _ _ _ _ _); (first | refine Ix.h ?_ | refine Ix.ha ?_)) | (refine Al.hp H ?_; clear H; intro _ _ H _) | (refine St.h H ?_; clear H; intro _ H))
    exact .inr ⟨e9, p9, by rw [← hR, hR9], rfl, H.e⟩
  rintro _ w3 ⟨ts, h1, H'⟩
  replace H := H.upd (c := rdr l pr (⟨[], [], 0, 0, 0⟩ :: words l (l.length + 1) 0)) H' rfl (.inl rfl)
  clear H'
  rw [h1, Res.bind_ok] at hRp
  replace H := Hp.nil (Hp.fns0 H) FM.enc 3 45
  repeat' ((conv => whnf); first | ((with_reducible show Gd (bs _ == _) _ _); first | refine Gd.sY (by assumption) ?_ | refine Gd.sk (by assumption) ?_ | refine Gd.sN (by assumption) ?_) | ((conv => whnf); first | (((with_reducible show Gd _ _ _); first | with_reducible refine Gd.t ?_ | with_reducible refine Gd.f ?_ | with_reducible refine Gd.dec (fun _ => ?_) (fun _ => ?_) | with_reducible refine Gd.beq (fun _ => ?_) (fun _ => ?_) | with_reducible refine Gd.bne (fun _ => ?_) (fun _ => ?_) | with_reducible refine Gd.not ?_ | refine Gd.t ?_ | refine Gd.f ?_ | with_reducible refine Gd.var (fun _ => ?_) (fun _ => ?_)) <;> first | (exfalso; omega) | skip) | with_reducible refine Sq.mk ?_ | ((with_reducible show Ld1 _ _ _); first | refine Ld1.h H ?_ | refine Ld1.rF ?_ | refine Ld1.r ?_) | ((with_reducible show Ld _ _ _ _); first | refine Ld.h H ?_ | refine Ld.r ?_) | ((with_reducible show Ix _ _ _ _ _); (first | refine Ix.h ?_ | refine Ix.ha ?_)) | (refine Al.hp H ?_; clear H; intro _ _ H _) | (refine St.h H ?_; clear H; intro _ H)) | refine Sm.strix T.ok ?_)
  (conv => whnf)
  refine Dr.chXk T.ok mixed [0, 1, 2, 6] [3, 4, 5, 7] (by kernel_rfl) rfl rfl (fun w' => Blk w' p2 37 [.slice none 0 0]) (fun ch w' => ∃ e9 p9 q9 c9, R = .err e9 p9 ∧ ch = pk q9 ∧ Hp nw w w' [bk q9 57 [.int .i64 e9, .int .i64 (p9 : Int)], bk p3 40 [.int .i64 0, .int .i64 0], bk p2 37 [c9]])
    (fun ch w' h => ?_) (fun w1 eT _ => ?_)
  · obtain ⟨e9, p9, q9, c9, hR9, rfl, H⟩ := h
    (conv => whnf)
    refine DCl.mono (parse1_pan hG.eg H) ?_
    rintro _ w10 ⟨rfl, H2⟩
    replace H := H2
    repeat' ((conv => whnf); first | (((with_reducible show Gd _ _ _); first | with_reducible refine Gd.t ?_ | with_reducible refine Gd.f ?_ | with_reducible refine Gd.dec (fun _ => ?_) (fun _ => ?_) | with_reducible refine Gd.beq (fun _ => ?_) (fun _ => ?_) | with_reducible refine Gd.bne (fun _ => ?_) (fun _ => ?_) | with_reducible refine Gd.not ?_ | refine Gd.t ?_ | refine Gd.f ?_ | with_reducible refine Gd.var (fun _ => ?_) (fun _ => ?_)) <;> first | (exfalso; omega) | skip) | with_reducible refine Sq.mk ?_ | ((with_reducible show Ld1 _ _ _); first | refine Ld1.h H ?_ | refine Ld1.rF ?_ | refine Ld1.r ?_) | ((with_reducible show Ld _ _ _ _); first | refine Ld.h H ?_ | refine Ld.r ?_) | ((with_reducible show Ix _ _ _ _ _); (first | refine Ix.h ?_ | refine Ix.ha ?_)) | (refine Al.hp H ?_; clear H; intro _ _ H _) | (refine St.h H ?_; clear H; intro _ H))
    exact .inr ⟨e9, p9, by rw [← hR, hR9], rfl, H.e⟩
  replace H := H.ext eT
  repeat' ((conv => whnf); first | refine QLd1.own (fun _ hw => hw) ?_ | refine QLd.own (fun _ hw => hw) ?_)
  (conv => whnf)
  refine ⟨H.blk 4 rfl, ?_⟩
  (conv => whnf)
  refine Cl.mkX (function_c X C (ts) _ H.e (H.atC 2 rfl) (Res.bind_out (by rw [← hRp]; exact hne))) ?_ ?_
  rotate_left
  · rintro ch w9 ⟨e9, p9, q9, h9, rfl, H'⟩
    replace H := H.upd (c := rdr l pr (ts)) H' rfl (.inl rfl)
    exact ⟨e9, p9, q9, _, by rw [hRp, h9]; rfl, rfl, H.sel [2, 2, 2] rfl⟩
  rintro _ w3 ⟨⟨n1, P1, c1, ps1, B1, d1, b1⟩, ts1, h2, rfl, H'⟩
  replace H := H.updn (c := rdr l pr (ts)) (Hp.swap H') rfl (.inl rfl) (.inl rfl)
  clear H'
  rw [h2, Res.bind_ok] at hRp
  (conv => whnf)
  refine ⟨H.blk 5 rfl, ?_⟩
  refine Sm.lith (cs := FM.enc ⟨n1, P1, c1, ps1, B1, d1, b1⟩) H T.ok (fun p5 w4 H _ => ?_)
  (conv => whnf)
  refine ⟨H.blk 6 rfl, ?_⟩
  refine Sm.ap1 (enc := FM.enc) ⟨n1, P1, c1, ps1, B1, d1, b1⟩ H T.ok ?_ ?_ (fun A' c' w6 H => ?_)
  · show (0 + 1) * 64 ≤ _; omega
  · show 0 + 1 ≤ _; omega
  simp only [List.cons_append, List.nil_append] at H
  (conv => whnf)
  refine ⟨H.blk 5 rfl, ?_⟩
  repeat' ((conv => whnf); first | ((with_reducible show Gd (bs _ == _) _ _); first | refine Gd.sY (by assumption) ?_ | refine Gd.sk (by assumption) ?_ | refine Gd.sN (by assumption) ?_) | ((conv => whnf); first | (((with_reducible show Gd _ _ _); first | with_reducible refine Gd.t ?_ | with_reducible refine Gd.f ?_ | with_reducible refine Gd.dec (fun _ => ?_) (fun _ => ?_) | with_reducible refine Gd.beq (fun _ => ?_) (fun _ => ?_) | with_reducible refine Gd.bne (fun _ => ?_) (fun _ => ?_) | with_reducible refine Gd.not ?_ | refine Gd.t ?_ | refine Gd.f ?_ | with_reducible refine Gd.var (fun _ => ?_) (fun _ => ?_)) <;> first | (exfalso; omega) | skip) | with_reducible refine Sq.mk ?_ | ((with_reducible show Ld1 _ _ _); first | refine Ld1.h H ?_ | refine Ld1.rF ?_ | refine Ld1.r ?_) | ((with_reducible show Ld _ _ _ _); first | refine Ld.h H ?_ | refine Ld.r ?_) | ((with_reducible show Ix _ _ _ _ _); (first | refine Ix.h ?_ | refine Ix.ha ?_)) | (refine Al.hp H ?_; clear H; intro _ _ H _) | (refine St.h H ?_; clear H; intro _ H)) | refine Sm.strix T.ok ?_)
  have hN : ts1.length ≤ l.length + 2 := (H.atC (c := rdr l pr ts1) 3 rfl).len
  generalize hN0 : ts1.length + 1 = N at hRp
  have hNb : N ≤ 1000010 := by omega
  replace H := Hp.swap (Hp.fnsS (l := []) (H.sel [0, 1, 0, 0, 0, 0] rfl))
  refine Lp.go T.ok (σ := Nat × Option Addr × Nat × List FM × List Tk) (fun q => [(2, .pointer (some ⟨p2, 0, none⟩)), (3, .pointer (some ⟨p3, 0, none⟩)), (4, .pointer (some ⟨pr, 0, none⟩))])
    (fun q w' => R = loopF (pf (fuelOf l)) q.1 (q.2.2.2.1.map FM.e) q.2.2.2.2 ∧ q.1 + q.2.2.2.1.length ≤ N + 1 ∧ Hp nw w w' [qu FM.enc 3 45 q.2.1 q.2.2.1 q.2.2.2.1, fns q.2.2.2.1, rdr l pr q.2.2.2.2, bk p3 40 [.int .i64 0, .int .i64 0], bk p2 37 [.slice q.2.1 q.2.2.2.1.length q.2.2.1]]) (fun q _ => q.1) (N, A', c', [⟨n1, P1, c1, ps1, B1, d1, b1⟩], ts1) ⟨rfl, rfl, rfl, trivial⟩ ⟨hRp, Nat.le_refl _, H⟩ ?_
  clear H hRp hN0 hN h2 h1
  rintro ⟨f, A, c, fs, ts⟩ w5 ⟨hRp, hN, H⟩
  simp only at hRp hN H ⊢
  cases f with
  | zero => exact absurd hRp hne
  | succ f =>
  simp only [loopF] at hRp
  obtain ⟨nx, t0, r0, rfl, hnx, hr0, hb0⟩ := H.atC (c := rdr l pr ts) 2 rfl
  replace H := Hp.ofR H hb0
  clear hb0
  by_cases hk : t0.kind = k_end
  · rw [if_pos (show curK (t0 :: r0) = k_end from hk)] at hRp
    repeat' ((conv => whnf); first | ((with_reducible show Gd (bs _ == _) _ _); first | refine Gd.sY (by assumption) ?_ | refine Gd.sk (by assumption) ?_ | refine Gd.sN (by assumption) ?_) | ((conv => whnf); first | (((with_reducible show Gd _ _ _); first | with_reducible refine Gd.t ?_ | with_reducible refine Gd.f ?_ | with_reducible refine Gd.dec (fun _ => ?_) (fun _ => ?_) | with_reducible refine Gd.beq (fun _ => ?_) (fun _ => ?_) | with_reducible refine Gd.bne (fun _ => ?_) (fun _ => ?_) | with_reducible refine Gd.not ?_ | refine Gd.t ?_ | refine Gd.f ?_ | with_reducible refine Gd.var (fun _ => ?_) (fun _ => ?_)) <;> first | (exfalso; omega) | skip) | with_reducible refine Sq.mk ?_ | ((with_reducible show Ld1 _ _ _); first | refine Ld1.h H ?_ | refine Ld1.rF ?_ | refine Ld1.r ?_) | ((with_reducible show Ld _ _ _ _); first | refine Ld.h H ?_ | refine Ld.r ?_) | ((with_reducible show Ix _ _ _ _ _); (first | refine Ix.h ?_ | refine Ix.ha ?_)) | (refine Al.hp H ?_; clear H; intro _ _ H _) | (refine St.h H ?_; clear H; intro _ H)) | refine Sm.strix T.ok ?_)
    (conv => whnf)
    refine DCl.mono (parse1_ret p2 p3 _) ?_
    rintro _ _ ⟨rfl, hx⟩
    replace H := H.ext hx
    clear hx
    refine ⟨rfl, ?_⟩
    repeat' ((conv => whnf); first | (((with_reducible show Gd _ _ _); first | with_reducible refine Gd.t ?_ | with_reducible refine Gd.f ?_ | with_reducible refine Gd.dec (fun _ => ?_) (fun _ => ?_) | with_reducible refine Gd.beq (fun _ => ?_) (fun _ => ?_) | with_reducible refine Gd.bne (fun _ => ?_) (fun _ => ?_) | with_reducible refine Gd.not ?_ | refine Gd.t ?_ | refine Gd.f ?_ | with_reducible refine Gd.var (fun _ => ?_) (fun _ => ?_)) <;> first | (exfalso; omega) | skip) | with_reducible refine Sq.mk ?_ | ((with_reducible show Ld1 _ _ _); first | refine Ld1.h H ?_ | refine Ld1.rF ?_ | refine Ld1.r ?_) | ((with_reducible show Ld _ _ _ _); first | refine Ld.h H ?_ | refine Ld.r ?_) | ((with_reducible show Ix _ _ _ _ _); (first | refine Ix.h ?_ | refine Ix.ha ?_)) | (refine Al.hp H ?_; clear H; intro _ _ H _) | (refine St.h H ?_; clear H; intro _ H))
    exact .inl ⟨fs, t0 :: r0, A, c, by rw [← hR, hRp], rfl, by omega, H.sel [0, 0] rfl⟩
  rw [if_neg (show ¬ curK (t0 :: r0) = k_end from hk)] at hRp
  repeat' ((conv => whnf); first | ((with_reducible show Gd (bs _ == _) _ _); first | refine Gd.sY (by assumption) ?_ | refine Gd.sk (by assumption) ?_ | refine Gd.sN (by assumption) ?_) | ((conv => whnf); first | (((with_reducible show Gd _ _ _); first | with_reducible refine Gd.t ?_ | with_reducible refine Gd.f ?_ | with_reducible refine Gd.dec (fun _ => ?_) (fun _ => ?_) | with_reducible refine Gd.beq (fun _ => ?_) (fun _ => ?_) | with_reducible refine Gd.bne (fun _ => ?_) (fun _ => ?_) | with_reducible refine Gd.not ?_ | refine Gd.t ?_ | refine Gd.f ?_ | with_reducible refine Gd.var (fun _ => ?_) (fun _ => ?_)) <;> first | (exfalso; omega) | skip) | with_reducible refine Sq.mk ?_ | ((with_reducible show Ld1 _ _ _); first | refine Ld1.h H ?_ | refine Ld1.rF ?_ | refine Ld1.r ?_) | ((with_reducible show Ld _ _ _ _); first | refine Ld.h H ?_ | refine Ld.r ?_) | ((with_reducible show Ix _ _ _ _ _); (first | refine Ix.h ?_ | refine Ix.ha ?_)) | (refine Al.hp H ?_; clear H; intro _ _ H _) | (refine St.h H ?_; clear H; intro _ H)) | refine Sm.strix T.ok ?_)
  replace H := Hp.toR H hnx hr0
  (conv => whnf)
  refine Dr.chXk T.ok mixed [0, 1, 2, 6] [3, 4, 5, 7] (by kernel_rfl) rfl rfl (fun w' => Blk w' p2 37 [.slice A fs.length c]) (fun ch w' => ∃ e9 p9 q9 c9, R = .err e9 p9 ∧ ch = pk q9 ∧ Hp nw w w' [bk q9 57 [.int .i64 e9, .int .i64 (p9 : Int)], bk p3 40 [.int .i64 0, .int .i64 0], bk p2 37 [c9]])
    (fun ch w' h => ?_) (fun w1 eT _ => ?_)
  · obtain ⟨e9, p9, q9, c9, hR9, rfl, H⟩ := h
    (conv => whnf)
    refine DCl.mono (parse1_pan hG.eg H) ?_
    rintro _ w10 ⟨rfl, H2⟩
    replace H := H2
    repeat' ((conv => whnf); first | (((with_reducible show Gd _ _ _); first | with_reducible refine Gd.t ?_ | with_reducible refine Gd.f ?_ | with_reducible refine Gd.dec (fun _ => ?_) (fun _ => ?_) | with_reducible refine Gd.beq (fun _ => ?_) (fun _ => ?_) | with_reducible refine Gd.bne (fun _ => ?_) (fun _ => ?_) | with_reducible refine Gd.not ?_ | refine Gd.t ?_ | refine Gd.f ?_ | with_reducible refine Gd.var (fun _ => ?_) (fun _ => ?_)) <;> first | (exfalso; omega) | skip) | with_reducible refine Sq.mk ?_ | ((with_reducible show Ld1 _ _ _); first | refine Ld1.h H ?_ | refine Ld1.rF ?_ | refine Ld1.r ?_) | ((with_reducible show Ld _ _ _ _); first | refine Ld.h H ?_ | refine Ld.r ?_) | ((with_reducible show Ix _ _ _ _ _); (first | refine Ix.h ?_ | refine Ix.ha ?_)) | (refine Al.hp H ?_; clear H; intro _ _ H _) | (refine St.h H ?_; clear H; intro _ H))
    exact .inr ⟨e9, p9, by rw [← hR, hR9], rfl, H.e⟩
  replace H := H.ext eT
  repeat' ((conv => whnf); first | refine QLd1.own (fun _ hw => hw) ?_ | refine QLd.own (fun _ hw => hw) ?_)
  (conv => whnf)
  refine ⟨H.blk 4 rfl, ?_⟩
  (conv => whnf)
  refine Cl.mkX (function_c X C (t0 :: r0) _ H.e (H.atC 2 rfl) (Res.bind_out (by rw [← hRp]; exact hne))) ?_ ?_
  rotate_left
  · rintro ch w9 ⟨e9, p9, q9, h9, rfl, H'⟩
    replace H := H.upd (c := rdr l pr (t0 :: r0)) H' rfl (.inl rfl)
    exact ⟨e9, p9, q9, _, by rw [hRp, h9]; rfl, rfl, H.sel [2, 2, 2] rfl⟩
  rintro _ w3 ⟨⟨n1, P1, c1, ps1, B1, d1, b1⟩, ts1, h2, rfl, H'⟩
  replace H := H.updn (c := rdr l pr (t0 :: r0)) (Hp.swap H') rfl (.inl rfl) (.inl rfl)
  clear H'
  rw [h2, Res.bind_ok] at hRp
  (conv => whnf)
  refine ⟨H.blk 5 rfl, ?_⟩
  refine Sm.lith (cs := FM.enc ⟨n1, P1, c1, ps1, B1, d1, b1⟩) H T.ok (fun p5 w4 H _ => ?_)
  (conv => whnf)
  refine ⟨H.blk 6 rfl, ?_⟩
  refine Sm.ap1 (enc := FM.enc) ⟨n1, P1, c1, ps1, B1, d1, b1⟩ H T.ok ?_ ?_ (fun A' c' w6 H => ?_)
  · show (fs.length + 1) * 64 ≤ _; omega
  · show fs.length + 1 ≤ _; omega
  simp only [List.cons_append, List.nil_append] at H
  (conv => whnf)
  refine ⟨H.blk 5 rfl, ?_⟩
  repeat' ((conv => whnf); first | ((with_reducible show Gd (bs _ == _) _ _); first | refine Gd.sY (by assumption) ?_ | refine Gd.sk (by assumption) ?_ | refine Gd.sN (by assumption) ?_) | ((conv => whnf); first | (((with_reducible show Gd _ _ _); first | with_reducible refine Gd.t ?_ | with_reducible refine Gd.f ?_ | with_reducible refine Gd.dec (fun _ => ?_) (fun _ => ?_) | with_reducible refine Gd.beq (fun _ => ?_) (fun _ => ?_) | with_reducible refine Gd.bne (fun _ => ?_) (fun _ => ?_) | with_reducible refine Gd.not ?_ | refine Gd.t ?_ | refine Gd.f ?_ | with_reducible refine Gd.var (fun _ => ?_) (fun _ => ?_)) <;> first | (exfalso; omega) | skip) | with_reducible refine Sq.mk ?_ | ((with_reducible show Ld1 _ _ _); first | refine Ld1.h H ?_ | refine Ld1.rF ?_ | refine Ld1.r ?_) | ((with_reducible show Ld _ _ _ _); first | refine Ld.h H ?_ | refine Ld.r ?_) | ((with_reducible show Ix _ _ _ _ _); (first | refine Ix.h ?_ | refine Ix.ha ?_)) | (refine Al.hp H ?_; clear H; intro _ _ H _) | (refine St.h H ?_; clear H; intro _ H)) | refine Sm.strix T.ok ?_)
  refine ⟨(f, A', c', fs ++ [⟨n1, P1, c1, ps1, B1, d1, b1⟩], ts1), ⟨rfl, rfl, rfl, trivial⟩, rfl, ⟨?_, ?_, ?_⟩, Nat.lt_succ_self f⟩
  · rw [hRp, List.map_append]; rfl
  · simp only [List.length_append, List.length_cons, List.length_nil]; omega
  · have hl1 : (fs ++ [(⟨n1, P1, c1, ps1, B1, d1, b1⟩ : FM)]).length = fs.length + 1 := by simp
    simp only [hl1]
    exact Hp.swap (Hp.fnsS (H.sel [0, 1, 0, 0, 0, 0] rfl))
end Go.Proofs.YtapdmkgdiaechaaDoor
namespace Go.Proofs.YtapdmkgdiaechaaDoor
open Go Go.Sh Go.Tx
set_option linter.unusedVariables false
set_option linter.unusedSimpArgs false
set_option linter.unusedSectionVars false
attribute [local irreducible] Blk Ext RdS
mutual
def sameE : Ex → Ex → Bool
  | .mk k o n a b l, .mk k2 o2 n2 a2 b2 l2 => k == k2 && o == o2 && n == n2 && a == a2 && b == b2 && sameL l l2
def sameL : List Ex → List Ex → Bool
  | [], [] => true
  | x :: r, y :: s => sameE x y && sameL r s
  | [], _ :: _ => false
  | _ :: _, [] => false
end
theorem sameL_len : ∀ {l m : List Ex}, sameL l m = true → l.length = m.length
  | [], [], _ => rfl
  | x :: r, y :: s, h => by
    simp only [sameL, Bool.and_eq_true] at h
    simp [sameL_len h.2]
  | [], _ :: _, h => by simp [sameL] at h
  | _ :: _, [], h => by simp [sameL] at h
theorem sameL_ne {l m : List Ex} (h : l.length ≠ m.length) : sameL l m = false := by
  cases hx : sameL l m with
  | false => rfl
  | true => exact absurd (sameL_len hx) h
mutual
def ET.sz : ET → Nat
  | .mk _ _ _ _ _ _ _ ks => ET.szs ks + 1
def ET.szs : List ET → Nat
  | [] => 0
  | x :: r => ET.sz x + ET.szs r
end
theorem ET.sz_mem {x : ET} : ∀ {l : List ET}, x ∈ l → ET.sz x ≤ ET.szs l
  | [], h => by simp at h
  | y :: r, h => by
    simp only [ET.szs]
    rcases List.mem_cons.1 h with rfl | h
    · omega
    · have := ET.sz_mem h; omega
theorem ET.oks_mem {w : World} {x : ET} : ∀ {l : List ET}, x ∈ l → ET.Oks w l → ET.Ok w x
  | [], h, _ => by simp at h
  | y :: r, h, hk => by
    rcases List.mem_cons.1 h with rfl | h
    · exact hk.1
    · exact ET.oks_mem h hk.2
theorem ET.es_drop : ∀ (l : List ET) (i : Nat), ET.es (l.drop i) = (ET.es l).drop i
  | l, 0 => by simp
  | [], i + 1 => by simp [ET.es]
  | x :: r, i + 1 => by simp [ET.es, ET.es_drop r i]
theorem ET.Ok.ext {w w' : World} {t : ET} (h : ET.Ok w t) (e : Ext w w') : ET.Ok w' t := ET.Ok.loc e.size h fun b hb => by
  have e2 := e
  unfold Ext at e2
  exact Go.RowKit.Below.block e2 b (ET.Ok.lt h b hb)
set_option maxHeartbeats 2000000 in
theorem sameExpr_c : ∀ (n : Nat) (x y : ET) (w : World), ET.sz x ≤ n → ET.Ok w x → ET.Ok w y → Cl Tryd.prog 8 #[x.v, y.v] w (fun v w' => v = .bool (sameE x.e y.e) ∧ Ext w w') (fun _ _ => False)
  | 0, x, y, w, hn, _, _ => by cases x; simp [ET.sz] at hn
  | n + 1, .mk k1 o1 n1 a1 b1 A1 c1 l1, .mk k2 o2 n2 a2 b2 A2 c2 l2, w, hn, hx, hy => by
    refine calls_ex (args := [.agg #[.int .i64 k1, .int .i64 o1, .int .i64 n1, .string (bs a1), .string (bs b1), .slice A1 l1.length c1], .agg #[.int .i64 k2, .int .i64 o2, .int .i64 n2, .string (bs a2), .string (bs b2), .slice A2 l2.length c2]]) T.ok Tryd.func8 rfl rfl rfl rfl ?_
    have H := Hp.begin nw w
    refine Sq.mk ?_
    ((conv => whnf); refine Al.hp H ?_; clear H; intro p2 _ H _)
    ((conv => whnf); refine Al.hp H ?_; clear H; intro p3 _ H _)
    repeat' ((conv => whnf); first | (((with_reducible show Gd _ _ _); first | with_reducible refine Gd.t ?_ | with_reducible refine Gd.f ?_ | with_reducible refine Gd.dec (fun _ => ?_) (fun _ => ?_) | with_reducible refine Gd.beq (fun _ => ?_) (fun _ => ?_) | with_reducible refine Gd.bne (fun _ => ?_) (fun _ => ?_) | with_reducible refine Gd.not ?_ | refine Gd.t ?_ | refine Gd.f ?_ | with_reducible refine Gd.var (fun _ => ?_) (fun _ => ?_)) <;> first | (exfalso; omega) | skip) | with_reducible refine Sq.mk ?_ | ((with_reducible show Ld1 _ _ _); first | refine Ld1.h H ?_ | refine Ld1.rF ?_ | refine Ld1.r ?_) | ((with_reducible show Ld _ _ _ _); first | refine Ld.h H ?_ | refine Ld.r ?_) | ((with_reducible show Ix _ _ _ _ _); (first | refine Ix.h ?_ | refine Ix.ha ?_)) | (refine Al.hp H ?_; clear H; intro _ _ H _) | (refine St.h H ?_; clear H; intro _ H))
    · rename_i h
      repeat' ((conv => whnf); first | (((with_reducible show Gd _ _ _); first | with_reducible refine Gd.t ?_ | with_reducible refine Gd.f ?_ | with_reducible refine Gd.dec (fun _ => ?_) (fun _ => ?_) | with_reducible refine Gd.beq (fun _ => ?_) (fun _ => ?_) | with_reducible refine Gd.bne (fun _ => ?_) (fun _ => ?_) | with_reducible refine Gd.not ?_ | refine Gd.t ?_ | refine Gd.f ?_ | with_reducible refine Gd.var (fun _ => ?_) (fun _ => ?_)) <;> first | (exfalso; omega) | skip) | with_reducible refine Sq.mk ?_ | ((with_reducible show Ld1 _ _ _); first | refine Ld1.h H ?_ | refine Ld1.rF ?_ | refine Ld1.r ?_) | ((with_reducible show Ld _ _ _ _); first | refine Ld.h H ?_ | refine Ld.r ?_) | ((with_reducible show Ix _ _ _ _ _); (first | refine Ix.h ?_ | refine Ix.ha ?_)) | (refine Al.hp H ?_; clear H; intro _ _ H _) | (refine St.h H ?_; clear H; intro _ H))
      exact ⟨b_eq (by simp [ET.e, sameE, h]), H.e⟩
    · rename_i h
      repeat' ((conv => whnf); first | (((with_reducible show Gd _ _ _); first | with_reducible refine Gd.t ?_ | with_reducible refine Gd.f ?_ | with_reducible refine Gd.dec (fun _ => ?_) (fun _ => ?_) | with_reducible refine Gd.beq (fun _ => ?_) (fun _ => ?_) | with_reducible refine Gd.bne (fun _ => ?_) (fun _ => ?_) | with_reducible refine Gd.not ?_ | refine Gd.t ?_ | refine Gd.f ?_ | with_reducible refine Gd.var (fun _ => ?_) (fun _ => ?_)) <;> first | (exfalso; omega) | skip) | with_reducible refine Sq.mk ?_ | ((with_reducible show Ld1 _ _ _); first | refine Ld1.h H ?_ | refine Ld1.rF ?_ | refine Ld1.r ?_) | ((with_reducible show Ld _ _ _ _); first | refine Ld.h H ?_ | refine Ld.r ?_) | ((with_reducible show Ix _ _ _ _ _); (first | refine Ix.h ?_ | refine Ix.ha ?_)) | (refine Al.hp H ?_; clear H; intro _ _ H _) | (refine St.h H ?_; clear H; intro _ H))
      exact ⟨b_eq (by simp [ET.e, sameE, h]), H.e⟩
    · rename_i h
      repeat' ((conv => whnf); first | (((with_reducible show Gd _ _ _); first | with_reducible refine Gd.t ?_ | with_reducible refine Gd.f ?_ | with_reducible refine Gd.dec (fun _ => ?_) (fun _ => ?_) | with_reducible refine Gd.beq (fun _ => ?_) (fun _ => ?_) | with_reducible refine Gd.bne (fun _ => ?_) (fun _ => ?_) | with_reducible refine Gd.not ?_ | refine Gd.t ?_ | refine Gd.f ?_ | with_reducible refine Gd.var (fun _ => ?_) (fun _ => ?_)) <;> first | (exfalso; omega) | skip) | with_reducible refine Sq.mk ?_ | ((with_reducible show Ld1 _ _ _); first | refine Ld1.h H ?_ | refine Ld1.rF ?_ | refine Ld1.r ?_) | ((with_reducible show Ld _ _ _ _); first | refine Ld.h H ?_ | refine Ld.r ?_) | ((with_reducible show Ix _ _ _ _ _); (first | refine Ix.h ?_ | refine Ix.ha ?_)) | (refine Al.hp H ?_; clear H; intro _ _ H _) | (refine St.h H ?_; clear H; intro _ H))
      exact ⟨b_eq (by simp [ET.e, sameE, h]), H.e⟩
    · rename_i h
      repeat' ((conv => whnf); first | (((with_reducible show Gd _ _ _); first | with_reducible refine Gd.t ?_ | with_reducible refine Gd.f ?_ | with_reducible refine Gd.dec (fun _ => ?_) (fun _ => ?_) | with_reducible refine Gd.beq (fun _ => ?_) (fun _ => ?_) | with_reducible refine Gd.bne (fun _ => ?_) (fun _ => ?_) | with_reducible refine Gd.not ?_ | refine Gd.t ?_ | refine Gd.f ?_ | with_reducible refine Gd.var (fun _ => ?_) (fun _ => ?_)) <;> first | (exfalso; omega) | skip) | with_reducible refine Sq.mk ?_ | ((with_reducible show Ld1 _ _ _); first | refine Ld1.h H ?_ | refine Ld1.rF ?_ | refine Ld1.r ?_) | ((with_reducible show Ld _ _ _ _); first | refine Ld.h H ?_ | refine Ld.r ?_) | ((with_reducible show Ix _ _ _ _ _); (first | refine Ix.h ?_ | refine Ix.ha ?_)) | (refine Al.hp H ?_; clear H; intro _ _ H _) | (refine St.h H ?_; clear H; intro _ H))
      exact ⟨b_eq (by simp only [ET.e, sameE]; rw [sameL_ne (by rw [ET.es_len, ET.es_len]; omega)]; simp), H.e⟩
    · rename_i h1 h2 h3 h4 h5 h6
      rw [bs_eq] at h4 h5
      have h4 := of_decide_eq_true h4
      have h5 := of_decide_eq_true h5
      have hl : l1.length = l2.length := by omega
      have hE : sameE (ET.e (.mk k1 o1 n1 a1 b1 A1 c1 l1)) (ET.e (.mk k2 o2 n2 a2 b2 A2 c2 l2)) = sameL (ET.es l1) (ET.es l2) := by simp [ET.e, sameE, h1, h2, h3, h4, h5]
      rw [hE]
      clear h1 h2 h3 h4 h5 h6 hE
      have hq1 := hx.1.rd
      have hq2 := hy.1.rd
      have hlb : l1.length ≤ 2000000 := hx.2.2
      repeat' ((conv => whnf); first | (((with_reducible show Gd _ _ _); first | with_reducible refine Gd.t ?_ | with_reducible refine Gd.f ?_ | with_reducible refine Gd.dec (fun _ => ?_) (fun _ => ?_) | with_reducible refine Gd.beq (fun _ => ?_) (fun _ => ?_) | with_reducible refine Gd.bne (fun _ => ?_) (fun _ => ?_) | with_reducible refine Gd.not ?_ | refine Gd.t ?_ | refine Gd.f ?_ | with_reducible refine Gd.var (fun _ => ?_) (fun _ => ?_)) <;> first | (exfalso; omega) | skip) | with_reducible refine Sq.mk ?_ | ((with_reducible show Ld1 _ _ _); first | refine Ld1.h H ?_ | refine Ld1.rF ?_ | refine Ld1.r ?_) | ((with_reducible show Ld _ _ _ _); first | refine Ld.h H ?_ | refine Ld.r ?_) | ((with_reducible show Ix _ _ _ _ _); (first | refine Ix.h ?_ | refine Ix.ha ?_)) | (refine Al.hp H ?_; clear H; intro _ _ H _) | (refine St.h H ?_; clear H; intro _ H))
      refine Lp.g0 T.ok (σ := Nat) (fun i => [(5, .int .i64 (i : Int)), (2, .pointer (some ⟨p2, 0, none⟩)), (3, .pointer (some ⟨p3, 0, none⟩))])
        (fun i w' => i ≤ l1.length ∧ sameL (ET.es l1) (ET.es l2) = sameL ((ET.es l1).drop i) ((ET.es l2).drop i) ∧ Hp nw w w' [bk p3 27 [.int .i64 k2, .int .i64 o2, .int .i64 n2, .string (bs a2), .string (bs b2), .slice A2 l2.length c2], bk p2 27 [.int .i64 k1, .int .i64 o1, .int .i64 n1, .string (bs a1), .string (bs b1), .slice A1 l1.length c1]]) (fun i _ => l1.length - i) 0 rfl ⟨rfl, rfl, rfl, trivial⟩ ⟨Nat.zero_le _, rfl, H⟩ ?_
      clear H
      rintro i w5 ⟨hi, hs, H⟩
      by_cases hlt : i < l1.length
      · obtain ⟨u, hu⟩ : ∃ u, l1[i]? = some u := ⟨_, List.getElem?_eq_getElem hlt⟩
        obtain ⟨v, hv⟩ : ∃ v, l2[i]? = some v := ⟨_, List.getElem?_eq_getElem (show i < l2.length by omega)⟩
        have hr1 := RdS.from H.e hq1
        have hr2 := RdS.from H.e hq2
        have hlt2 : i < l2.length := by omega
        have hd1 : (ET.es l1).drop i = ET.e u :: (ET.es l1).drop (i + 1) := by
          obtain ⟨g1, g2⟩ := List.getElem?_eq_some_iff.1 hu
          rw [← ET.es_drop, List.drop_eq_getElem_cons g1, g2, ET.es, ET.es_drop]
        have hd2 : (ET.es l2).drop i = ET.e v :: (ET.es l2).drop (i + 1) := by
          obtain ⟨g1, g2⟩ := List.getElem?_eq_some_iff.1 hv
          rw [← ET.es_drop, List.drop_eq_getElem_cons g1, g2, ET.es, ET.es_drop]
        rw [hd1, hd2, sameL] at hs
        repeat' ((conv => whnf); first | (((with_reducible show Gd _ _ _); first | with_reducible refine Gd.t ?_ | with_reducible refine Gd.f ?_ | with_reducible refine Gd.dec (fun _ => ?_) (fun _ => ?_) | with_reducible refine Gd.beq (fun _ => ?_) (fun _ => ?_) | with_reducible refine Gd.bne (fun _ => ?_) (fun _ => ?_) | with_reducible refine Gd.not ?_ | refine Gd.t ?_ | refine Gd.f ?_ | with_reducible refine Gd.var (fun _ => ?_) (fun _ => ?_)) <;> first | (exfalso; omega) | skip) | with_reducible refine Sq.mk ?_ | ((with_reducible show Ld1 _ _ _); first | refine Ld1.h H ?_ | refine Ld1.rF ?_ | refine Ld1.r ?_) | ((with_reducible show Ld _ _ _ _); first | refine Ld.h H ?_ | refine Ld.r ?_) | ((with_reducible show Ix _ _ _ _ _); (first | refine Ix.h ?_ | refine Ix.ha ?_)) | (refine Al.hp H ?_; clear H; intro _ _ H _) | (refine St.h H ?_; clear H; intro _ H))
        have hzn : ET.sz u ≤ n := by
          have := ET.sz_mem (List.mem_of_getElem? hu)
          simp only [ET.sz] at hn
          omega
        ((conv => whnf); refine Dr.tail T.ok mixed 10 (by kernel_rfl) (fun W wT hW eT _ => ?_); (repeat' ((conv => whnf); first | (((with_reducible show Gd _ _ _); first | with_reducible refine Gd.t ?_ | with_reducible refine Gd.f ?_ | with_reducible refine Gd.dec (fun _ => ?_) (fun _ => ?_) | with_reducible refine Gd.beq (fun _ => ?_) (fun _ => ?_) | with_reducible refine Gd.bne (fun _ => ?_) (fun _ => ?_) | with_reducible refine Gd.not ?_ | refine Gd.t ?_ | refine Gd.f ?_ | with_reducible refine Gd.var (fun _ => ?_) (fun _ => ?_)) <;> first | (exfalso; omega) | skip) | ((with_reducible show QLd1 _ _ _); first | refine QLd1.h hW H ?_ | refine QLd1.rF hW ?_ | refine QLd1.r hW ?_) | ((with_reducible show QLd _ _ _ _); first | refine QLd.h hW H ?_ | refine QLd.r hW ?_) | ((with_reducible show Ix _ _ _ _ _); (first | refine Ix.h ?_ | refine Ix.ha ?_)))); replace H := H.ext eT; clear hW eT)
        (((conv => whnf); refine Cl.mk (sameExpr_c n u v _ hzn ((ET.oks_mem (List.mem_of_getElem? hu) hx.2.1).ext H.e) ((ET.oks_mem (List.mem_of_getElem? hv) hy.2.1).ext H.e)) ?_); rintro _ _ ⟨rfl, hx⟩; replace H := H.ext hx; clear hx)
        cases hb : sameE u.e v.e with
        | true =>
          rw [hb, Bool.true_and] at hs
          repeat' ((conv => whnf); first | (((with_reducible show Gd _ _ _); first | with_reducible refine Gd.t ?_ | with_reducible refine Gd.f ?_ | with_reducible refine Gd.dec (fun _ => ?_) (fun _ => ?_) | with_reducible refine Gd.beq (fun _ => ?_) (fun _ => ?_) | with_reducible refine Gd.bne (fun _ => ?_) (fun _ => ?_) | with_reducible refine Gd.not ?_ | refine Gd.t ?_ | refine Gd.f ?_ | with_reducible refine Gd.var (fun _ => ?_) (fun _ => ?_)) <;> first | (exfalso; omega) | skip) | with_reducible refine Sq.mk ?_ | ((with_reducible show Ld1 _ _ _); first | refine Ld1.h H ?_ | refine Ld1.rF ?_ | refine Ld1.r ?_) | ((with_reducible show Ld _ _ _ _); first | refine Ld.h H ?_ | refine Ld.r ?_) | ((with_reducible show Ix _ _ _ _ _); (first | refine Ix.h ?_ | refine Ix.ha ?_)) | (refine Al.hp H ?_; clear H; intro _ _ H _) | (refine St.h H ?_; clear H; intro _ H))
          exact ⟨i + 1, ⟨at_int (m := ((i + 1 : Nat) : Int)) rfl (w64 (by simp) (by omega) (by omega)), rfl, rfl, trivial⟩, rfl, ⟨by omega, hs, H⟩, by omega⟩
        | false =>
          rw [hb, Bool.false_and] at hs
          repeat' ((conv => whnf); first | (((with_reducible show Gd _ _ _); first | with_reducible refine Gd.t ?_ | with_reducible refine Gd.f ?_ | with_reducible refine Gd.dec (fun _ => ?_) (fun _ => ?_) | with_reducible refine Gd.beq (fun _ => ?_) (fun _ => ?_) | with_reducible refine Gd.bne (fun _ => ?_) (fun _ => ?_) | with_reducible refine Gd.not ?_ | refine Gd.t ?_ | refine Gd.f ?_ | with_reducible refine Gd.var (fun _ => ?_) (fun _ => ?_)) <;> first | (exfalso; omega) | skip) | with_reducible refine Sq.mk ?_ | ((with_reducible show Ld1 _ _ _); first | refine Ld1.h H ?_ | refine Ld1.rF ?_ | refine Ld1.r ?_) | ((with_reducible show Ld _ _ _ _); first | refine Ld.h H ?_ | refine Ld.r ?_) | ((with_reducible show Ix _ _ _ _ _); (first | refine Ix.h ?_ | refine Ix.ha ?_)) | (refine Al.hp H ?_; clear H; intro _ _ H _) | (refine St.h H ?_; clear H; intro _ H))
          exact ⟨b_eq hs.symm, H.e⟩
      · have h1 : (ET.es l1).drop i = [] := List.drop_of_length_le (by rw [ET.es_len]; omega)
        have h2 : (ET.es l2).drop i = [] := List.drop_of_length_le (by rw [ET.es_len]; omega)
        rw [h1, h2] at hs
        repeat' ((conv => whnf); first | (((with_reducible show Gd _ _ _); first | with_reducible refine Gd.t ?_ | with_reducible refine Gd.f ?_ | with_reducible refine Gd.dec (fun _ => ?_) (fun _ => ?_) | with_reducible refine Gd.beq (fun _ => ?_) (fun _ => ?_) | with_reducible refine Gd.bne (fun _ => ?_) (fun _ => ?_) | with_reducible refine Gd.not ?_ | refine Gd.t ?_ | refine Gd.f ?_ | with_reducible refine Gd.var (fun _ => ?_) (fun _ => ?_)) <;> first | (exfalso; omega) | skip) | with_reducible refine Sq.mk ?_ | ((with_reducible show Ld1 _ _ _); first | refine Ld1.h H ?_ | refine Ld1.rF ?_ | refine Ld1.r ?_) | ((with_reducible show Ld _ _ _ _); first | refine Ld.h H ?_ | refine Ld.r ?_) | ((with_reducible show Ix _ _ _ _ _); (first | refine Ix.h ?_ | refine Ix.ha ?_)) | (refine Al.hp H ?_; clear H; intro _ _ H _) | (refine St.h H ?_; clear H; intro _ H))
        all_goals first | (exfalso; omega) | skip
        exact ⟨b_eq hs.symm, H.e⟩
    · rename_i h
      rw [bs_eq] at h
      have h := of_decide_eq_false h
      repeat' ((conv => whnf); first | (((with_reducible show Gd _ _ _); first | with_reducible refine Gd.t ?_ | with_reducible refine Gd.f ?_ | with_reducible refine Gd.dec (fun _ => ?_) (fun _ => ?_) | with_reducible refine Gd.beq (fun _ => ?_) (fun _ => ?_) | with_reducible refine Gd.bne (fun _ => ?_) (fun _ => ?_) | with_reducible refine Gd.not ?_ | refine Gd.t ?_ | refine Gd.f ?_ | with_reducible refine Gd.var (fun _ => ?_) (fun _ => ?_)) <;> first | (exfalso; omega) | skip) | with_reducible refine Sq.mk ?_ | ((with_reducible show Ld1 _ _ _); first | refine Ld1.h H ?_ | refine Ld1.rF ?_ | refine Ld1.r ?_) | ((with_reducible show Ld _ _ _ _); first | refine Ld.h H ?_ | refine Ld.r ?_) | ((with_reducible show Ix _ _ _ _ _); (first | refine Ix.h ?_ | refine Ix.ha ?_)) | (refine Al.hp H ?_; clear H; intro _ _ H _) | (refine St.h H ?_; clear H; intro _ H))
      exact ⟨b_eq (by simp [ET.e, sameE, h]), H.e⟩
    · rename_i h
      rw [bs_eq] at h
      have h := of_decide_eq_false h
      repeat' ((conv => whnf); first | (((with_reducible show Gd _ _ _); first | with_reducible refine Gd.t ?_ | with_reducible refine Gd.f ?_ | with_reducible refine Gd.dec (fun _ => ?_) (fun _ => ?_) | with_reducible refine Gd.beq (fun _ => ?_) (fun _ => ?_) | with_reducible refine Gd.bne (fun _ => ?_) (fun _ => ?_) | with_reducible refine Gd.not ?_ | refine Gd.t ?_ | refine Gd.f ?_ | with_reducible refine Gd.var (fun _ => ?_) (fun _ => ?_)) <;> first | (exfalso; omega) | skip) | with_reducible refine Sq.mk ?_ | ((with_reducible show Ld1 _ _ _); first | refine Ld1.h H ?_ | refine Ld1.rF ?_ | refine Ld1.r ?_) | ((with_reducible show Ld _ _ _ _); first | refine Ld.h H ?_ | refine Ld.r ?_) | ((with_reducible show Ix _ _ _ _ _); (first | refine Ix.h ?_ | refine Ix.ha ?_)) | (refine Al.hp H ?_; clear H; intro _ _ H _) | (refine St.h H ?_; clear H; intro _ H))
      exact ⟨b_eq (by simp [ET.e, sameE, h]), H.e⟩
end Go.Proofs.YtapdmkgdiaechaaDoor
