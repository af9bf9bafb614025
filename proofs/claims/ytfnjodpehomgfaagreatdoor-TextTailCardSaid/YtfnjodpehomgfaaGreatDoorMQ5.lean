/- own work: TyI, TyJ, TyK, TzL, TzM, TzN, TyL, TyM -/
import Derived.Test.YtfnjodpehomgfaaGreatDoorMQ4
set_option linter.unusedVariables false
set_option linter.unusedSimpArgs false
set_option linter.unusedSectionVars false
namespace Go.Proofs.YtfnjodpehomgfaaGreatDoor
open Go Go.Sh Go.Tx
attribute [local irreducible] Blk Ext RdS
theorem deep_le {d : Nat} {ts : List Tk} (h : deepP d ts = .ok () ts) : d ≤ 40 := by
  unfold deepP at h
  split at h
  · simp at h
  · omega
section
variable {src : Bs} {pr : Nat} {wb : World} {F : PF} (X : Txt src pr wb) (C : Con src pr wb F)
include X C
set_option maxHeartbeats 4000000 in
theorem unary_c (d : Nat) (ts : List Tk) (w : World) (hd : d ≤ 41) (hwb : Ext wb w) (h : Rdr src pr ts w) (hne : unaryP F d ts ≠ .out) :
    Cl Tryz.prog 130 #[.pointer (some ⟨pr, 0, none⟩), .int .i64 (d : Int)] w (OkE src pr (unaryP F d ts) w) (PanX (unaryP F d ts) pr w) := by
  have HB := X.ok hwb
  have hwd : IntKind.i64.wrap ((d : Int) + 1) = ((d + 1 : Nat) : Int) := w64 rfl (by omega) (by omega)
  obtain ⟨R, hR⟩ : ∃ R, R = unaryP F d ts := ⟨_, rfl⟩
  rw [← hR] at hne ⊢
  unfold unaryP at hR
  refine calls_ex (args := [.pointer (some ⟨pr, 0, none⟩), .int .i64 (d : Int)]) T.ok Tryz.func130 rfl rfl rfl rfl ?_
  have H := Hp.start (S := (· = pr)) (rdr_ok h) (fun k hk => hk)
  clear h
  refine Sq.mk ?_
  ((conv => whnf); refine Al.hp H ?_; clear H; intro p4 _ H _)
  (obtain ⟨nx, t0, r0, rfl, hn0, hr0, hb0⟩ := H.atC (c := rdr src pr ts) 1 rfl; replace H := Hp.ofR H hb0; clear hb0)
  rw [curK_cons] at hR
  by_cases hs : t0.kind ≠ s_minus ∧ t0.kind ≠ s_bang
  · rw [if_pos hs] at hR
    obtain ⟨hs1, hs2⟩ := hs
    replace hs1 : ¬ t0.kind = s_minus := hs1
    replace hs2 : ¬ t0.kind = s_bang := hs2
    repeat' ((conv => whnf); first | ((with_reducible show Gd (bs _ == _) _ _); first | refine Gd.sY (by assumption) ?_ | refine Gd.sk (by assumption) ?_ | refine Gd.sN (by assumption) ?_) | ((conv => whnf); first | (((with_reducible show Gd ..); first | (with_reducible first | refine Gd.t ?_ | refine Gd.f ?_ | (first | apply Gd.dec | apply Gd.beq | apply Gd.bne) <;> intro _ | refine Gd.not ?_) | refine Gd.t ?_ | refine Gd.f ?_ | apply Gd.var <;> intro _) <;> try (exfalso; omega)) | with_reducible refine Sq.mk ?_ | ((with_reducible show Ld1 ..); first | refine Ld1.h H ?_ | refine Ld1.rF ?_ | refine Ld1.r ?_) | ((with_reducible show Ld ..); first | refine Ld.h H ?_ | refine Ld.r ?_) | ((with_reducible show Ix ..); first | refine Ix.h ?_ | refine Ix.ha ?_) | (refine Al.hp H ?_; clear H; intro _ _ H _) | (refine St.h H ?_; clear H; intro _ H)) | refine Sm.strix T.ok ?_)
    (replace H := Hp.toR H hn0 hr0)
    (conv => whnf)
    refine Cl.mkX (C.primary d _ _ hd (H.base2 HB) (H.atC 1 rfl) (by rw [← hR]; exact hne)) ?_ ?_
    · rintro _ w2 ⟨⟨kd, o, n, nm, cb, A, c, l⟩, ts', h1, rfl, H'⟩
      replace H := H.updn (c := rdr src pr (t0 :: r0)) (Hp.swap H') rfl (.inl rfl) (.inl rfl)
      clear H'
      repeat' ((conv => whnf); first | ((with_reducible show Gd (bs _ == _) _ _); first | refine Gd.sY (by assumption) ?_ | refine Gd.sk (by assumption) ?_ | refine Gd.sN (by assumption) ?_) | ((conv => whnf); first | (((with_reducible show Gd ..); first | (with_reducible first | refine Gd.t ?_ | refine Gd.f ?_ | (first | apply Gd.dec | apply Gd.beq | apply Gd.bne) <;> intro _ | refine Gd.not ?_) | refine Gd.t ?_ | refine Gd.f ?_ | apply Gd.var <;> intro _) <;> try (exfalso; omega)) | with_reducible refine Sq.mk ?_ | ((with_reducible show Ld1 ..); first | refine Ld1.h H ?_ | refine Ld1.rF ?_ | refine Ld1.r ?_) | ((with_reducible show Ld ..); first | refine Ld.h H ?_ | refine Ld.r ?_) | ((with_reducible show Ix ..); first | refine Ix.h ?_ | refine Ix.ha ?_) | (refine Al.hp H ?_; clear H; intro _ _ H _) | (refine St.h H ?_; clear H; intro _ H)) | refine Sm.strix T.ok ?_)
      exact ⟨.mk kd o n nm cb A c l, ts', by rw [hR, h1], et_v rfl, H.sel [0, 1] rfl⟩
    · rintro ch w2 ⟨e, p, q, h1, rfl, H'⟩
      exact ⟨e, p, q, by rw [hR, h1], rfl, Hp.pan H H' (.inl rfl)⟩
  rw [if_neg hs] at hR
  have hend : t0.kind ≠ k_end := fun e => hs (by rw [e]; decide)
  have hfin : ∀ (w' : World) (p5 : Nat) (kk : Int) (e : ET) (ts2 : List Tk), Hp (· = pr) w w' [bk p5 74 (ET.enc e), trs [e], rdr src pr ts2] → Hp (· = pr) w w' [trs [.mk kk 0 0 [] [] (some ⟨p5, 0, none⟩) 1 [e]], rdr src pr ts2] := fun w' p5 kk e ts2 H => by
    have H1 : Hp (· = pr) w w' [bk p5 74 ([e].flatMap ET.enc), trs [e], rdr src pr ts2] := by simpa using H
    exact Hp.trsN kk 0 0 [] [] (Hp.bq (sz := 6) H1 (fun z _ => ET.enc_len z))
  have hun := fun ts w => C.unary (d + 1) ts w
  rw [← hwd] at hun
  by_cases hm : t0.kind = s_minus
  · have hbm : (bs t0.kind == (⟨#[45]⟩ : ByteArray)) = true := by rw [hm]; exact (bs_eq s_minus s_minus).trans (by simp)
    have hcm : (t0.kind == s_minus) = true := by rw [hm]; simp
    repeat' ((conv => whnf); first | ((with_reducible show Gd (bs _ == _) _ _); first | refine Gd.sY (by assumption) ?_ | refine Gd.sk (by assumption) ?_ | refine Gd.sN (by assumption) ?_) | ((conv => whnf); first | (((with_reducible show Gd ..); first | (with_reducible first | refine Gd.t ?_ | refine Gd.f ?_ | (first | apply Gd.dec | apply Gd.beq | apply Gd.bne) <;> intro _ | refine Gd.not ?_) | refine Gd.t ?_ | refine Gd.f ?_ | apply Gd.var <;> intro _) <;> try (exfalso; omega)) | with_reducible refine Sq.mk ?_ | ((with_reducible show Ld1 ..); first | refine Ld1.h H ?_ | refine Ld1.rF ?_ | refine Ld1.r ?_) | ((with_reducible show Ld ..); first | refine Ld.h H ?_ | refine Ld.r ?_) | ((with_reducible show Ix ..); first | refine Ix.h ?_ | refine Ix.ha ?_) | (refine Al.hp H ?_; clear H; intro _ _ H _) | (refine St.h H ?_; clear H; intro _ H)) | refine Sm.strix T.ok ?_)
    (replace H := Hp.toR H hn0 hr0)
    (((conv => whnf); refine Cl.mkX (deep_c _ src pr (t0 :: r0) (d + 1) hwd _ (H.atC 1 rfl)) ?_ ?_; rotate_left; (rintro ch w9 ⟨e9, p9, q9, h9, rfl, H'⟩; exact ⟨e9, p9, q9, (by rw [hR, h9]; rfl), rfl, Hp.pan H H' (.inl rfl)⟩)); rintro _ w8 ⟨h1, ex⟩; replace H := H.ext ex; clear ex; have hd40 := deep_le h1; rw [h1, Res.bind_ok] at hR; clear h1)
    have hd41 : d + 1 ≤ 41 := by omega
    replace hR : R = (stepP (t0.kind == s_minus) (t0 :: r0)).bind fun _ ts1 => if t0.kind = s_minus ∧ curK ts1 = k_number then (stepP false ts1).bind fun _ ts2 => .ok (.mk 0 0 (curT ts1).n [] [] []) ts2 else (F.unary (d + 1) ts1).bind fun e ts2 => .ok (.mk (if t0.kind = s_bang then 3 else 2) 0 0 [] [] [e]) ts2 := hR
    rw [show stepP (t0.kind == s_minus) (t0 :: r0) = stepP (bs t0.kind == (⟨#[45]⟩ : ByteArray)) (t0 :: r0) by rw [hcm, hbm]] at hR
    repeat' ((conv => whnf); first | ((with_reducible show Gd (bs _ == _) _ _); first | refine Gd.sY (by assumption) ?_ | refine Gd.sk (by assumption) ?_ | refine Gd.sN (by assumption) ?_) | ((conv => whnf); first | (((with_reducible show Gd ..); first | (with_reducible first | refine Gd.t ?_ | refine Gd.f ?_ | (first | apply Gd.dec | apply Gd.beq | apply Gd.bne) <;> intro _ | refine Gd.not ?_) | refine Gd.t ?_ | refine Gd.f ?_ | apply Gd.var <;> intro _) <;> try (exfalso; omega)) | with_reducible refine Sq.mk ?_ | ((with_reducible show Ld1 ..); first | refine Ld1.h H ?_ | refine Ld1.rF ?_ | refine Ld1.r ?_) | ((with_reducible show Ld ..); first | refine Ld.h H ?_ | refine Ld.r ?_) | ((with_reducible show Ix ..); first | refine Ix.h ?_ | refine Ix.ha ?_) | (refine Al.hp H ?_; clear H; intro _ _ H _) | (refine St.h H ?_; clear H; intro _ H)) | refine Sm.strix T.ok ?_)
    (((conv => whnf); refine Cl.mkX (step_c _ src pr (t0 :: r0) wb _ (H.base2 HB) X.lo X.tb X.len (H.atC 1 rfl) hend) ?_ ?_; rotate_left; (rintro ch w9 ⟨e9, p9, q9, h9, rfl, H'⟩; exact ⟨e9, p9, q9, (by rw [hR, h9]; rfl), rfl, Hp.pan H H' (.inl rfl)⟩)); rintro _ w8 ⟨ts1, h1, H'⟩; replace H := H.upd (c := rdr src pr (t0 :: r0)) H' rfl (.inl rfl); clear H'; rw [h1, Res.bind_ok] at hR; clear h1)
    by_cases hn : curK ts1 = k_number
    · rw [if_pos (show t0.kind = s_minus ∧ curK ts1 = k_number from ⟨hm, hn⟩)] at hR
      (obtain ⟨nx1, t1, r1, rfl, hn1, hr1, hb0⟩ := H.atC (c := rdr src pr ts1) 1 rfl; replace H := Hp.ofR H hb0; clear hb0)
      replace hn : t1.kind = k_number := hn
      repeat' ((conv => whnf); first | ((with_reducible show Gd (bs _ == _) _ _); first | refine Gd.sY (by assumption) ?_ | refine Gd.sk (by assumption) ?_ | refine Gd.sN (by assumption) ?_) | ((conv => whnf); first | (((with_reducible show Gd ..); first | (with_reducible first | refine Gd.t ?_ | refine Gd.f ?_ | (first | apply Gd.dec | apply Gd.beq | apply Gd.bne) <;> intro _ | refine Gd.not ?_) | refine Gd.t ?_ | refine Gd.f ?_ | apply Gd.var <;> intro _) <;> try (exfalso; omega)) | with_reducible refine Sq.mk ?_ | ((with_reducible show Ld1 ..); first | refine Ld1.h H ?_ | refine Ld1.rF ?_ | refine Ld1.r ?_) | ((with_reducible show Ld ..); first | refine Ld.h H ?_ | refine Ld.r ?_) | ((with_reducible show Ix ..); first | refine Ix.h ?_ | refine Ix.ha ?_) | (refine Al.hp H ?_; clear H; intro _ _ H _) | (refine St.h H ?_; clear H; intro _ H)) | refine Sm.strix T.ok ?_)
      (replace H := Hp.toR H hn1 hr1)
      (((conv => whnf); refine Cl.mkX (step_c _ src pr (t1 :: r1) wb _ (H.base2 HB) X.lo X.tb X.len (H.atC 1 rfl) (by rw [curK_cons, hn]; decide)) ?_ ?_; rotate_left; (rintro ch w9 ⟨e9, p9, q9, h9, rfl, H'⟩; exact ⟨e9, p9, q9, (by rw [hR, h9]; rfl), rfl, Hp.pan H H' (.inl rfl)⟩)); rintro _ w8 ⟨ts2, h1, H'⟩; replace H := H.upd (c := rdr src pr (t1 :: r1)) H' rfl (.inl rfl); clear H'; rw [h1, Res.bind_ok] at hR; clear h1)
      repeat' ((conv => whnf); first | ((with_reducible show Gd (bs _ == _) _ _); first | refine Gd.sY (by assumption) ?_ | refine Gd.sk (by assumption) ?_ | refine Gd.sN (by assumption) ?_) | ((conv => whnf); first | (((with_reducible show Gd ..); first | (with_reducible first | refine Gd.t ?_ | refine Gd.f ?_ | (first | apply Gd.dec | apply Gd.beq | apply Gd.bne) <;> intro _ | refine Gd.not ?_) | refine Gd.t ?_ | refine Gd.f ?_ | apply Gd.var <;> intro _) <;> try (exfalso; omega)) | with_reducible refine Sq.mk ?_ | ((with_reducible show Ld1 ..); first | refine Ld1.h H ?_ | refine Ld1.rF ?_ | refine Ld1.r ?_) | ((with_reducible show Ld ..); first | refine Ld.h H ?_ | refine Ld.r ?_) | ((with_reducible show Ix ..); first | refine Ix.h ?_ | refine Ix.ha ?_) | (refine Al.hp H ?_; clear H; intro _ _ H _) | (refine St.h H ?_; clear H; intro _ H)) | refine Sm.strix T.ok ?_)
      exact ⟨.mk 0 0 t1.n [] [] none 0 [], ts2, hR, et_v rfl, Hp.trsZ 0 0 t1.n [] [] (H.sel [1] rfl)⟩
    · rw [if_neg (show ¬ (t0.kind = s_minus ∧ curK ts1 = k_number) from fun e => hn e.2)] at hR
      (obtain ⟨nx1, t1, r1, rfl, hn1, hr1, hb0⟩ := H.atC (c := rdr src pr ts1) 1 rfl; replace H := Hp.ofR H hb0; clear hb0)
      replace hn : ¬ t1.kind = k_number := hn
      have hnb : ¬ t0.kind = s_bang := by rw [hm]; decide
      rw [if_neg hnb] at hR
      repeat' ((conv => whnf); first | ((with_reducible show Gd (bs _ == _) _ _); first | refine Gd.sY (by assumption) ?_ | refine Gd.sk (by assumption) ?_ | refine Gd.sN (by assumption) ?_) | ((conv => whnf); first | (((with_reducible show Gd ..); first | (with_reducible first | refine Gd.t ?_ | refine Gd.f ?_ | (first | apply Gd.dec | apply Gd.beq | apply Gd.bne) <;> intro _ | refine Gd.not ?_) | refine Gd.t ?_ | refine Gd.f ?_ | apply Gd.var <;> intro _) <;> try (exfalso; omega)) | with_reducible refine Sq.mk ?_ | ((with_reducible show Ld1 ..); first | refine Ld1.h H ?_ | refine Ld1.rF ?_ | refine Ld1.r ?_) | ((with_reducible show Ld ..); first | refine Ld.h H ?_ | refine Ld.r ?_) | ((with_reducible show Ix ..); first | refine Ix.h ?_ | refine Ix.ha ?_) | (refine Al.hp H ?_; clear H; intro _ _ H _) | (refine St.h H ?_; clear H; intro _ H)) | refine Sm.strix T.ok ?_)
      (replace H := Hp.toR H hn1 hr1)
      replace hR : R = (F.unary (d + 1) (t1 :: r1)).bind fun e ts2 => .ok (.mk 2 0 0 [] [] [e]) ts2 := hR
      ((conv => whnf); refine Cl.mkX (hun (t1 :: r1) _ hd41 (H.base2 HB) (H.atC 1 rfl) (Res.bind_out (by rw [← hR]; exact hne))) ?_ ?_; rotate_left; (rintro ch w9 ⟨e9, p9, q9, h9, rfl, H'⟩; exact ⟨e9, p9, q9, (by rw [hR, h9]; rfl), rfl, Hp.pan H H' (.inl rfl)⟩))
      rintro _ w3 ⟨⟨kd, o, n, nm, cb, A2, c2, l2⟩, ts2, h2, rfl, H'⟩
      replace H := H.updn (c := rdr src pr (t1 :: r1)) (Hp.swap H') rfl (.inl rfl) (.inl rfl)
      clear H'
      rw [h2, Res.bind_ok] at hR
      refine Sm.lith (cs := ET.enc (.mk kd o n nm cb A2 c2 l2)) H T.ok (fun p5 w4 H _ => ?_)
      repeat' ((conv => whnf); first | ((with_reducible show Gd (bs _ == _) _ _); first | refine Gd.sY (by assumption) ?_ | refine Gd.sk (by assumption) ?_ | refine Gd.sN (by assumption) ?_) | ((conv => whnf); first | (((with_reducible show Gd ..); first | (with_reducible first | refine Gd.t ?_ | refine Gd.f ?_ | (first | apply Gd.dec | apply Gd.beq | apply Gd.bne) <;> intro _ | refine Gd.not ?_) | refine Gd.t ?_ | refine Gd.f ?_ | apply Gd.var <;> intro _) <;> try (exfalso; omega)) | with_reducible refine Sq.mk ?_ | ((with_reducible show Ld1 ..); first | refine Ld1.h H ?_ | refine Ld1.rF ?_ | refine Ld1.r ?_) | ((with_reducible show Ld ..); first | refine Ld.h H ?_ | refine Ld.r ?_) | ((with_reducible show Ix ..); first | refine Ix.h ?_ | refine Ix.ha ?_) | (refine Al.hp H ?_; clear H; intro _ _ H _) | (refine St.h H ?_; clear H; intro _ H)) | refine Sm.strix T.ok ?_)
      refine ⟨.mk 2 0 0 [] [] (some ⟨p5, 0, none⟩) 1 [.mk kd o n nm cb A2 c2 l2], ts2, hR, et_v rfl, ?_⟩
      exact hfin _ p5 2 _ _ (H.sel [0, 0, 1] rfl)
  · have hb : t0.kind = s_bang := Classical.byContradiction fun e => hs ⟨hm, e⟩
    have hbm : (bs t0.kind == (⟨#[45]⟩ : ByteArray)) = false := by rw [hb]; exact (bs_eq s_bang s_minus).trans (by decide)
    have hcm : (t0.kind == s_minus) = false := by rw [hb]; decide
    repeat' ((conv => whnf); first | ((with_reducible show Gd (bs _ == _) _ _); first | refine Gd.sY (by assumption) ?_ | refine Gd.sk (by assumption) ?_ | refine Gd.sN (by assumption) ?_) | ((conv => whnf); first | (((with_reducible show Gd ..); first | (with_reducible first | refine Gd.t ?_ | refine Gd.f ?_ | (first | apply Gd.dec | apply Gd.beq | apply Gd.bne) <;> intro _ | refine Gd.not ?_) | refine Gd.t ?_ | refine Gd.f ?_ | apply Gd.var <;> intro _) <;> try (exfalso; omega)) | with_reducible refine Sq.mk ?_ | ((with_reducible show Ld1 ..); first | refine Ld1.h H ?_ | refine Ld1.rF ?_ | refine Ld1.r ?_) | ((with_reducible show Ld ..); first | refine Ld.h H ?_ | refine Ld.r ?_) | ((with_reducible show Ix ..); first | refine Ix.h ?_ | refine Ix.ha ?_) | (refine Al.hp H ?_; clear H; intro _ _ H _) | (refine St.h H ?_; clear H; intro _ H)) | refine Sm.strix T.ok ?_)
    (replace H := Hp.toR H hn0 hr0)
    (((conv => whnf); refine Cl.mkX (deep_c _ src pr (t0 :: r0) (d + 1) hwd _ (H.atC 1 rfl)) ?_ ?_; rotate_left; (rintro ch w9 ⟨e9, p9, q9, h9, rfl, H'⟩; exact ⟨e9, p9, q9, (by rw [hR, h9]; rfl), rfl, Hp.pan H H' (.inl rfl)⟩)); rintro _ w8 ⟨h1, ex⟩; replace H := H.ext ex; clear ex; have hd40 := deep_le h1; rw [h1, Res.bind_ok] at hR; clear h1)
    have hd41 : d + 1 ≤ 41 := by omega
    replace hR : R = (stepP (t0.kind == s_minus) (t0 :: r0)).bind fun _ ts1 => if t0.kind = s_minus ∧ curK ts1 = k_number then (stepP false ts1).bind fun _ ts2 => .ok (.mk 0 0 (curT ts1).n [] [] []) ts2 else (F.unary (d + 1) ts1).bind fun e ts2 => .ok (.mk (if t0.kind = s_bang then 3 else 2) 0 0 [] [] [e]) ts2 := hR
    rw [show stepP (t0.kind == s_minus) (t0 :: r0) = stepP (bs t0.kind == (⟨#[45]⟩ : ByteArray)) (t0 :: r0) by rw [hcm, hbm]] at hR
    repeat' ((conv => whnf); first | ((with_reducible show Gd (bs _ == _) _ _); first | refine Gd.sY (by assumption) ?_ | refine Gd.sk (by assumption) ?_ | refine Gd.sN (by assumption) ?_) | ((conv => whnf); first | (((with_reducible show Gd ..); first | (with_reducible first | refine Gd.t ?_ | refine Gd.f ?_ | (first | apply Gd.dec | apply Gd.beq | apply Gd.bne) <;> intro _ | refine Gd.not ?_) | refine Gd.t ?_ | refine Gd.f ?_ | apply Gd.var <;> intro _) <;> try (exfalso; omega)) | with_reducible refine Sq.mk ?_ | ((with_reducible show Ld1 ..); first | refine Ld1.h H ?_ | refine Ld1.rF ?_ | refine Ld1.r ?_) | ((with_reducible show Ld ..); first | refine Ld.h H ?_ | refine Ld.r ?_) | ((with_reducible show Ix ..); first | refine Ix.h ?_ | refine Ix.ha ?_) | (refine Al.hp H ?_; clear H; intro _ _ H _) | (refine St.h H ?_; clear H; intro _ H)) | refine Sm.strix T.ok ?_)
    (((conv => whnf); refine Cl.mkX (step_c _ src pr (t0 :: r0) wb _ (H.base2 HB) X.lo X.tb X.len (H.atC 1 rfl) hend) ?_ ?_; rotate_left; (rintro ch w9 ⟨e9, p9, q9, h9, rfl, H'⟩; exact ⟨e9, p9, q9, (by rw [hR, h9]; rfl), rfl, Hp.pan H H' (.inl rfl)⟩)); rintro _ w8 ⟨ts1, h1, H'⟩; replace H := H.upd (c := rdr src pr (t0 :: r0)) H' rfl (.inl rfl); clear H'; rw [h1, Res.bind_ok] at hR; clear h1)
    rw [if_neg (show ¬ (t0.kind = s_minus ∧ curK ts1 = k_number) from fun e => hm e.1), if_pos hb] at hR
    repeat' ((conv => whnf); first | ((with_reducible show Gd (bs _ == _) _ _); first | refine Gd.sY (by assumption) ?_ | refine Gd.sk (by assumption) ?_ | refine Gd.sN (by assumption) ?_) | ((conv => whnf); first | (((with_reducible show Gd ..); first | (with_reducible first | refine Gd.t ?_ | refine Gd.f ?_ | (first | apply Gd.dec | apply Gd.beq | apply Gd.bne) <;> intro _ | refine Gd.not ?_) | refine Gd.t ?_ | refine Gd.f ?_ | apply Gd.var <;> intro _) <;> try (exfalso; omega)) | with_reducible refine Sq.mk ?_ | ((with_reducible show Ld1 ..); first | refine Ld1.h H ?_ | refine Ld1.rF ?_ | refine Ld1.r ?_) | ((with_reducible show Ld ..); first | refine Ld.h H ?_ | refine Ld.r ?_) | ((with_reducible show Ix ..); first | refine Ix.h ?_ | refine Ix.ha ?_) | (refine Al.hp H ?_; clear H; intro _ _ H _) | (refine St.h H ?_; clear H; intro _ H)) | refine Sm.strix T.ok ?_)
    replace hR : R = (F.unary (d + 1) ts1).bind fun e ts2 => .ok (.mk 3 0 0 [] [] [e]) ts2 := hR
    ((conv => whnf); refine Cl.mkX (hun ts1 _ hd41 (H.base2 HB) (H.atC 1 rfl) (Res.bind_out (by rw [← hR]; exact hne))) ?_ ?_; rotate_left; (rintro ch w9 ⟨e9, p9, q9, h9, rfl, H'⟩; exact ⟨e9, p9, q9, (by rw [hR, h9]; rfl), rfl, Hp.pan H H' (.inl rfl)⟩))
    rintro _ w3 ⟨⟨kd, o, n, nm, cb, A2, c2, l2⟩, ts2, h2, rfl, H'⟩
    replace H := H.updn (c := rdr src pr ts1) (Hp.swap H') rfl (.inl rfl) (.inl rfl)
    clear H'
    rw [h2, Res.bind_ok] at hR
    refine Sm.lith (cs := ET.enc (.mk kd o n nm cb A2 c2 l2)) H T.ok (fun p5 w4 H _ => ?_)
    repeat' ((conv => whnf); first | ((with_reducible show Gd (bs _ == _) _ _); first | refine Gd.sY (by assumption) ?_ | refine Gd.sk (by assumption) ?_ | refine Gd.sN (by assumption) ?_) | ((conv => whnf); first | (((with_reducible show Gd ..); first | (with_reducible first | refine Gd.t ?_ | refine Gd.f ?_ | (first | apply Gd.dec | apply Gd.beq | apply Gd.bne) <;> intro _ | refine Gd.not ?_) | refine Gd.t ?_ | refine Gd.f ?_ | apply Gd.var <;> intro _) <;> try (exfalso; omega)) | with_reducible refine Sq.mk ?_ | ((with_reducible show Ld1 ..); first | refine Ld1.h H ?_ | refine Ld1.rF ?_ | refine Ld1.r ?_) | ((with_reducible show Ld ..); first | refine Ld.h H ?_ | refine Ld.r ?_) | ((with_reducible show Ix ..); first | refine Ix.h ?_ | refine Ix.ha ?_) | (refine Al.hp H ?_; clear H; intro _ _ H _) | (refine St.h H ?_; clear H; intro _ H)) | refine Sm.strix T.ok ?_)
    refine ⟨.mk 3 0 0 [] [] (some ⟨p5, 0, none⟩) 1 [.mk kd o n nm cb A2 c2 l2], ts2, hR, et_v rfl, ?_⟩
    exact hfin _ p5 3 _ _ (H.sel [0, 0, 1] rfl)
end
end Go.Proofs.YtfnjodpehomgfaaGreatDoor
namespace Go.Proofs.YtfnjodpehomgfaaGreatDoor
open Go Go.Sh Go.Tx
attribute [local irreducible] Blk Ext RdS
theorem neg_w {n : Int} (h1 : -9223372036854775808 ≤ n) (h2 : n ≤ 0) : IntKind.i64.wrap (0 - n) = negW n := by
  unfold negW
  by_cases h : n = -9223372036854775808
  · rw [if_pos h, h]; rfl
  · rw [if_neg h]
    simp [IntKind.wrap, IntKind.signed, IntKind.bits]
    omega
section
variable {src : Bs} {pr : Nat} {wb : World} {F : PF} (X : Txt src pr wb) (C : Con src pr wb F)
include X C
set_option maxHeartbeats 4000000 in
theorem primary_c (d : Nat) (ts : List Tk) (w : World) (hd : d ≤ 41) (hwb : Ext wb w) (h : Rdr src pr ts w) (hne : primaryP F d ts ≠ .out) :
    Cl Tryz.prog 145 #[.pointer (some ⟨pr, 0, none⟩), .int .i64 (d : Int)] w (OkE src pr (primaryP F d ts) w) (PanX (primaryP F d ts) pr w) := by
  have HB := X.ok hwb
  have hwd : IntKind.i64.wrap ((d : Int) + 1) = ((d + 1 : Nat) : Int) := w64 rfl (by omega) (by omega)
  obtain ⟨R, hR⟩ : ∃ R, R = primaryP F d ts := ⟨_, rfl⟩
  rw [← hR] at hne ⊢
  unfold primaryP at hR
  refine calls_ex (args := [.pointer (some ⟨pr, 0, none⟩), .int .i64 (d : Int)]) T.ok Tryz.func145 rfl rfl rfl rfl ?_
  have H := Hp.start (S := (· = pr)) (rdr_ok h) (fun k hk => hk)
  clear h
  refine Sq.mk ?_
  ((conv => whnf); refine Al.hp H ?_; clear H; intro p4 _ H _)
  (obtain ⟨nx, t0, r0, rfl, hn0, hr0, hb0⟩ := H.atC (c := rdr src pr ts) 1 rfl; replace H := Hp.ofR H hb0; clear hb0)
  rw [curK_cons] at hR
  have hng := neg_w hr0.2.2.1 hr0.2.2.2
  repeat' ((conv => whnf); first | ((with_reducible show Gd (bs _ == _) _ _); first | refine Gd.sY (by assumption) ?_ | refine Gd.sk (by assumption) ?_ | refine Gd.sN (by assumption) ?_) | ((conv => whnf); first | (((with_reducible show Gd ..); first | (with_reducible first | refine Gd.t ?_ | refine Gd.f ?_ | (first | apply Gd.dec | apply Gd.beq | apply Gd.bne) <;> intro _ | refine Gd.not ?_) | refine Gd.t ?_ | refine Gd.f ?_ | apply Gd.var <;> intro _) <;> try (exfalso; omega)) | with_reducible refine Sq.mk ?_ | ((with_reducible show Ld1 ..); first | refine Ld1.h H ?_ | refine Ld1.rF ?_ | refine Ld1.r ?_) | ((with_reducible show Ld ..); first | refine Ld.h H ?_ | refine Ld.r ?_) | ((with_reducible show Ix ..); first | refine Ix.h ?_ | refine Ix.ha ?_) | (refine St.h H ?_; clear H; intro _ H)) | refine Sm.strix T.ok ?_)
  ((conv => whnf); refine Al.hp H ?_; clear H; intro p5 _ H _)
  have hex := fun ts w => C.expr 0 (d + 1) ts w
  rw [← hwd] at hex
  by_cases c1 : t0.kind = k_number
  · rw [if_pos c1] at hR
    repeat' ((conv => whnf); first | ((with_reducible show Gd (bs _ == _) _ _); first | refine Gd.sY (by assumption) ?_ | refine Gd.sk (by assumption) ?_ | refine Gd.sN (by assumption) ?_) | ((conv => whnf); first | (((with_reducible show Gd ..); first | (with_reducible first | refine Gd.t ?_ | refine Gd.f ?_ | (first | apply Gd.dec | apply Gd.beq | apply Gd.bne) <;> intro _ | refine Gd.not ?_) | refine Gd.t ?_ | refine Gd.f ?_ | apply Gd.var <;> intro _) <;> try (exfalso; omega)) | with_reducible refine Sq.mk ?_ | ((with_reducible show Ld1 ..); first | refine Ld1.h H ?_ | refine Ld1.rF ?_ | refine Ld1.r ?_) | ((with_reducible show Ld ..); first | refine Ld.h H ?_ | refine Ld.r ?_) | ((with_reducible show Ix ..); first | refine Ix.h ?_ | refine Ix.ha ?_) | (refine Al.hp H ?_; clear H; intro _ _ H _) | (refine St.h H ?_; clear H; intro _ H)) | refine Sm.strix T.ok ?_)
    (replace H := Hp.toR H hn0 hr0)
    (((conv => whnf); refine Cl.mkX (step_c _ src pr (t0 :: r0) wb _ (H.base2 HB) X.lo X.tb X.len (H.atC 2 rfl) (by rw [curK_cons, c1]; decide)) ?_ ?_; rotate_left; (rintro ch w9 ⟨e9, p9, q9, h9, rfl, H'⟩; exact ⟨e9, p9, q9, (by rw [hR, h9]; rfl), rfl, Hp.pan H H' (.inl rfl)⟩)); rintro _ w8 ⟨ts1, h1, H'⟩; replace H := H.upd (c := rdr src pr (t0 :: r0)) H' rfl (.inl rfl); clear H'; rw [h1, Res.bind_ok] at hR; clear h1)
    repeat' ((conv => whnf); first | ((with_reducible show Gd (bs _ == _) _ _); first | refine Gd.sY (by assumption) ?_ | refine Gd.sk (by assumption) ?_ | refine Gd.sN (by assumption) ?_) | ((conv => whnf); first | (((with_reducible show Gd ..); first | (with_reducible first | refine Gd.t ?_ | refine Gd.f ?_ | (first | apply Gd.dec | apply Gd.beq | apply Gd.bne) <;> intro _ | refine Gd.not ?_) | refine Gd.t ?_ | refine Gd.f ?_ | apply Gd.var <;> intro _) <;> try (exfalso; omega)) | with_reducible refine Sq.mk ?_ | ((with_reducible show Ld1 ..); first | refine Ld1.h H ?_ | refine Ld1.rF ?_ | refine Ld1.r ?_) | ((with_reducible show Ld ..); first | refine Ld.h H ?_ | refine Ld.r ?_) | ((with_reducible show Ix ..); first | refine Ix.h ?_ | refine Ix.ha ?_) | (refine Al.hp H ?_; clear H; intro _ _ H _) | (refine St.h H ?_; clear H; intro _ H)) | refine Sm.strix T.ok ?_)
    exact ⟨.mk 0 0 (negW t0.n) [] [] none 0 [], ts1, hR, et_v (by rw [← hng]; rfl), Hp.trsZ 0 0 (negW t0.n) [] [] (H.sel [2] rfl)⟩
  rw [if_neg c1] at hR
  by_cases c2 : t0.kind = k_name
  · rw [if_pos c2] at hR
    repeat' ((conv => whnf); first | ((with_reducible show Gd (bs _ == _) _ _); first | refine Gd.sY (by assumption) ?_ | refine Gd.sk (by assumption) ?_ | refine Gd.sN (by assumption) ?_) | ((conv => whnf); first | (((with_reducible show Gd ..); first | (with_reducible first | refine Gd.t ?_ | refine Gd.f ?_ | (first | apply Gd.dec | apply Gd.beq | apply Gd.bne) <;> intro _ | refine Gd.not ?_) | refine Gd.t ?_ | refine Gd.f ?_ | apply Gd.var <;> intro _) <;> try (exfalso; omega)) | with_reducible refine Sq.mk ?_ | ((with_reducible show Ld1 ..); first | refine Ld1.h H ?_ | refine Ld1.rF ?_ | refine Ld1.r ?_) | ((with_reducible show Ld ..); first | refine Ld.h H ?_ | refine Ld.r ?_) | ((with_reducible show Ix ..); first | refine Ix.h ?_ | refine Ix.ha ?_) | (refine Al.hp H ?_; clear H; intro _ _ H _) | (refine St.h H ?_; clear H; intro _ H)) | refine Sm.strix T.ok ?_)
    (replace H := Hp.toR H hn0 hr0)
    (((conv => whnf); refine Cl.mkX (step_c _ src pr (t0 :: r0) wb _ (H.base2 HB) X.lo X.tb X.len (H.atC 2 rfl) (by rw [curK_cons, c2]; decide)) ?_ ?_; rotate_left; (rintro ch w9 ⟨e9, p9, q9, h9, rfl, H'⟩; exact ⟨e9, p9, q9, (by rw [hR, h9]; rfl), rfl, Hp.pan H H' (.inl rfl)⟩)); rintro _ w8 ⟨ts1, h1, H'⟩; replace H := H.upd (c := rdr src pr (t0 :: r0)) H' rfl (.inl rfl); clear H'; rw [h1, Res.bind_ok] at hR; clear h1)
    (obtain ⟨nx1, t1, r1, rfl, hn1, hr1, hb0⟩ := H.atC (c := rdr src pr ts1) 2 rfl; replace H := Hp.ofR H hb0; clear hb0)
    by_cases hl : t1.kind = s_lp
    · rw [if_neg (show ¬ curK (t1 :: r1) ≠ s_lp from fun e => e hl)] at hR
      repeat' ((conv => whnf); first | ((with_reducible show Gd (bs _ == _) _ _); first | refine Gd.sY (by assumption) ?_ | refine Gd.sk (by assumption) ?_ | refine Gd.sN (by assumption) ?_) | ((conv => whnf); first | (((with_reducible show Gd ..); first | (with_reducible first | refine Gd.t ?_ | refine Gd.f ?_ | (first | apply Gd.dec | apply Gd.beq | apply Gd.bne) <;> intro _ | refine Gd.not ?_) | refine Gd.t ?_ | refine Gd.f ?_ | apply Gd.var <;> intro _) <;> try (exfalso; omega)) | with_reducible refine Sq.mk ?_ | ((with_reducible show Ld1 ..); first | refine Ld1.h H ?_ | refine Ld1.rF ?_ | refine Ld1.r ?_) | ((with_reducible show Ld ..); first | refine Ld.h H ?_ | refine Ld.r ?_) | ((with_reducible show Ix ..); first | refine Ix.h ?_ | refine Ix.ha ?_) | (refine Al.hp H ?_; clear H; intro _ _ H _) | (refine St.h H ?_; clear H; intro _ H)) | refine Sm.strix T.ok ?_)
      (replace H := Hp.toR H hn1 hr1)
      (((conv => whnf); refine Cl.mkX (deep_c _ src pr (t1 :: r1) (d + 1) hwd _ (H.atC 2 rfl)) ?_ ?_; rotate_left; (rintro ch w9 ⟨e9, p9, q9, h9, rfl, H'⟩; exact ⟨e9, p9, q9, (by rw [hR, h9]; rfl), rfl, Hp.pan H H' (.inl rfl)⟩)); rintro _ w8 ⟨h1, ex⟩; replace H := H.ext ex; clear ex; have hd40 := deep_le h1; rw [h1, Res.bind_ok] at hR; clear h1)
      repeat' ((conv => whnf); first | ((with_reducible show Gd (bs _ == _) _ _); first | refine Gd.sY (by assumption) ?_ | refine Gd.sk (by assumption) ?_ | refine Gd.sN (by assumption) ?_) | ((conv => whnf); first | (((with_reducible show Gd ..); first | (with_reducible first | refine Gd.t ?_ | refine Gd.f ?_ | (first | apply Gd.dec | apply Gd.beq | apply Gd.bne) <;> intro _ | refine Gd.not ?_) | refine Gd.t ?_ | refine Gd.f ?_ | apply Gd.var <;> intro _) <;> try (exfalso; omega)) | with_reducible refine Sq.mk ?_ | ((with_reducible show Ld1 ..); first | refine Ld1.h H ?_ | refine Ld1.rF ?_ | refine Ld1.r ?_) | ((with_reducible show Ld ..); first | refine Ld.h H ?_ | refine Ld.r ?_) | ((with_reducible show Ix ..); first | refine Ix.h ?_ | refine Ix.ha ?_) | (refine Al.hp H ?_; clear H; intro _ _ H _) | (refine St.h H ?_; clear H; intro _ H)) | refine Sm.strix T.ok ?_)
      (((conv => whnf); refine Cl.mkX (step_c _ src pr (t1 :: r1) wb _ (H.base2 HB) X.lo X.tb X.len (H.atC 2 rfl) (by rw [curK_cons, hl]; decide)) ?_ ?_; rotate_left; (rintro ch w9 ⟨e9, p9, q9, h9, rfl, H'⟩; exact ⟨e9, p9, q9, (by rw [hR, h9]; rfl), rfl, Hp.pan H H' (.inl rfl)⟩)); rintro _ w8 ⟨ts2, h1, H'⟩; replace H := H.upd (c := rdr src pr (t1 :: r1)) H' rfl (.inl rfl); clear H'; rw [h1, Res.bind_ok] at hR; clear h1)
      have harg := fun ts w => args_c X C (d + 1) ts w (by omega)
      rw [← hwd] at harg
      repeat' ((conv => whnf); first | ((with_reducible show Gd (bs _ == _) _ _); first | refine Gd.sY (by assumption) ?_ | refine Gd.sk (by assumption) ?_ | refine Gd.sN (by assumption) ?_) | ((conv => whnf); first | (((with_reducible show Gd ..); first | (with_reducible first | refine Gd.t ?_ | refine Gd.f ?_ | (first | apply Gd.dec | apply Gd.beq | apply Gd.bne) <;> intro _ | refine Gd.not ?_) | refine Gd.t ?_ | refine Gd.f ?_ | apply Gd.var <;> intro _) <;> try (exfalso; omega)) | with_reducible refine Sq.mk ?_ | ((with_reducible show Ld1 ..); first | refine Ld1.h H ?_ | refine Ld1.rF ?_ | refine Ld1.r ?_) | ((with_reducible show Ld ..); first | refine Ld.h H ?_ | refine Ld.r ?_) | ((with_reducible show Ix ..); first | refine Ix.h ?_ | refine Ix.ha ?_) | (refine Al.hp H ?_; clear H; intro _ _ H _) | (refine St.h H ?_; clear H; intro _ H)) | refine Sm.strix T.ok ?_)
      (conv => whnf)
      refine Dr.chX T.ok mixed [0, 1, 2, 3, 4] [5, 6, 7] (by kernel_rfl) rfl rfl (fun w' => Blk w' p5 66 (wordCs t0)) (PanX R pr w) (fun ch F' w' hds h => by (conv => whnf); rw [show F'.ds = [] from hds]; exact h) (fun w1 eT _ => ?_)
      replace H := H.ext eT
      repeat' ((conv => whnf); refine QLd1.own (fun _ hw => hw) ?_)
      (conv => whnf)
      refine ⟨H.blk 0 rfl, ?_⟩
      ((conv => whnf); refine Cl.mkX (harg ts2 _ (H.base2 HB) (H.atC 2 rfl) (Res.bind_out (by rw [← hR]; exact hne))) ?_ ?_; rotate_left; (rintro ch w9 ⟨e9, p9, q9, h9, rfl, H'⟩; exact ⟨e9, p9, q9, (by rw [hR, h9]; rfl), rfl, Hp.pan H H' (.inl rfl)⟩))
      rintro _ w3 ⟨A, c, l, ts3, h2, rfl, hlen, H'⟩
      replace H' := Hp.trsN 5 0 0 t0.text [] H'
      replace H := H.updn (c := rdr src pr ts2) (Hp.swap H') rfl (.inl rfl) (.inl rfl)
      clear H'
      rw [h2, Res.bind_ok] at hR
      (conv => whnf)
      refine ⟨H.blk 1 rfl, ?_⟩
      repeat' (first | refine ⟨H.blk 1 rfl, ?_⟩ | ((conv => whnf); first | ((with_reducible show Gd (bs _ == _) _ _); first | refine Gd.sY (by assumption) ?_ | refine Gd.sk (by assumption) ?_ | refine Gd.sN (by assumption) ?_) | ((conv => whnf); first | (((with_reducible show Gd ..); first | (with_reducible first | refine Gd.t ?_ | refine Gd.f ?_ | (first | apply Gd.dec | apply Gd.beq | apply Gd.bne) <;> intro _ | refine Gd.not ?_) | refine Gd.t ?_ | refine Gd.f ?_ | apply Gd.var <;> intro _) <;> try (exfalso; omega)) | with_reducible refine Sq.mk ?_ | ((with_reducible show Ld1 ..); first | refine Ld1.h H ?_ | refine Ld1.rF ?_ | refine Ld1.r ?_) | ((with_reducible show Ld ..); first | refine Ld.h H ?_ | refine Ld.r ?_) | ((with_reducible show Ix ..); first | refine Ix.h ?_ | refine Ix.ha ?_) | (refine Al.hp H ?_; clear H; intro _ _ H _) | (refine St.h H ?_; clear H; intro _ H)) | refine Sm.strix T.ok ?_))
      exact ⟨.mk 5 0 0 t0.text [] A c l, ts3, hR, et_v rfl, H.sel [0, 2] rfl⟩
    · rw [if_pos (show curK (t1 :: r1) ≠ s_lp from hl)] at hR
      repeat' ((conv => whnf); first | ((with_reducible show Gd (bs _ == _) _ _); first | refine Gd.sY (by assumption) ?_ | refine Gd.sk (by assumption) ?_ | refine Gd.sN (by assumption) ?_) | ((conv => whnf); first | (((with_reducible show Gd ..); first | (with_reducible first | refine Gd.t ?_ | refine Gd.f ?_ | (first | apply Gd.dec | apply Gd.beq | apply Gd.bne) <;> intro _ | refine Gd.not ?_) | refine Gd.t ?_ | refine Gd.f ?_ | apply Gd.var <;> intro _) <;> try (exfalso; omega)) | with_reducible refine Sq.mk ?_ | ((with_reducible show Ld1 ..); first | refine Ld1.h H ?_ | refine Ld1.rF ?_ | refine Ld1.r ?_) | ((with_reducible show Ld ..); first | refine Ld.h H ?_ | refine Ld.r ?_) | ((with_reducible show Ix ..); first | refine Ix.h ?_ | refine Ix.ha ?_) | (refine Al.hp H ?_; clear H; intro _ _ H _) | (refine St.h H ?_; clear H; intro _ H)) | refine Sm.strix T.ok ?_)
      (replace H := Hp.toR H hn1 hr1)
      exact ⟨.mk 1 0 0 t0.text [] none 0 [], t1 :: r1, hR, et_v rfl, Hp.trsZ 1 0 0 t0.text [] (H.sel [2] rfl)⟩
  rw [if_neg c2] at hR
  by_cases c3 : t0.kind = s_lp
  · rw [if_pos c3] at hR
    repeat' ((conv => whnf); first | ((with_reducible show Gd (bs _ == _) _ _); first | refine Gd.sY (by assumption) ?_ | refine Gd.sk (by assumption) ?_ | refine Gd.sN (by assumption) ?_) | ((conv => whnf); first | (((with_reducible show Gd ..); first | (with_reducible first | refine Gd.t ?_ | refine Gd.f ?_ | (first | apply Gd.dec | apply Gd.beq | apply Gd.bne) <;> intro _ | refine Gd.not ?_) | refine Gd.t ?_ | refine Gd.f ?_ | apply Gd.var <;> intro _) <;> try (exfalso; omega)) | with_reducible refine Sq.mk ?_ | ((with_reducible show Ld1 ..); first | refine Ld1.h H ?_ | refine Ld1.rF ?_ | refine Ld1.r ?_) | ((with_reducible show Ld ..); first | refine Ld.h H ?_ | refine Ld.r ?_) | ((with_reducible show Ix ..); first | refine Ix.h ?_ | refine Ix.ha ?_) | (refine Al.hp H ?_; clear H; intro _ _ H _) | (refine St.h H ?_; clear H; intro _ H)) | refine Sm.strix T.ok ?_)
    (replace H := Hp.toR H hn0 hr0)
    (((conv => whnf); refine Cl.mkX (deep_c _ src pr (t0 :: r0) (d + 1) hwd _ (H.atC 2 rfl)) ?_ ?_; rotate_left; (rintro ch w9 ⟨e9, p9, q9, h9, rfl, H'⟩; exact ⟨e9, p9, q9, (by rw [hR, h9]; rfl), rfl, Hp.pan H H' (.inl rfl)⟩)); rintro _ w8 ⟨h1, ex⟩; replace H := H.ext ex; clear ex; have hd40 := deep_le h1; rw [h1, Res.bind_ok] at hR; clear h1)
    repeat' ((conv => whnf); first | ((with_reducible show Gd (bs _ == _) _ _); first | refine Gd.sY (by assumption) ?_ | refine Gd.sk (by assumption) ?_ | refine Gd.sN (by assumption) ?_) | ((conv => whnf); first | (((with_reducible show Gd ..); first | (with_reducible first | refine Gd.t ?_ | refine Gd.f ?_ | (first | apply Gd.dec | apply Gd.beq | apply Gd.bne) <;> intro _ | refine Gd.not ?_) | refine Gd.t ?_ | refine Gd.f ?_ | apply Gd.var <;> intro _) <;> try (exfalso; omega)) | with_reducible refine Sq.mk ?_ | ((with_reducible show Ld1 ..); first | refine Ld1.h H ?_ | refine Ld1.rF ?_ | refine Ld1.r ?_) | ((with_reducible show Ld ..); first | refine Ld.h H ?_ | refine Ld.r ?_) | ((with_reducible show Ix ..); first | refine Ix.h ?_ | refine Ix.ha ?_) | (refine Al.hp H ?_; clear H; intro _ _ H _) | (refine St.h H ?_; clear H; intro _ H)) | refine Sm.strix T.ok ?_)
    (((conv => whnf); refine Cl.mkX (step_c _ src pr (t0 :: r0) wb _ (H.base2 HB) X.lo X.tb X.len (H.atC 2 rfl) (by rw [curK_cons, c3]; decide)) ?_ ?_; rotate_left; (rintro ch w9 ⟨e9, p9, q9, h9, rfl, H'⟩; exact ⟨e9, p9, q9, (by rw [hR, h9]; rfl), rfl, Hp.pan H H' (.inl rfl)⟩)); rintro _ w8 ⟨ts1, h1, H'⟩; replace H := H.upd (c := rdr src pr (t0 :: r0)) H' rfl (.inl rfl); clear H'; rw [h1, Res.bind_ok] at hR; clear h1)
    repeat' ((conv => whnf); first | ((with_reducible show Gd (bs _ == _) _ _); first | refine Gd.sY (by assumption) ?_ | refine Gd.sk (by assumption) ?_ | refine Gd.sN (by assumption) ?_) | ((conv => whnf); first | (((with_reducible show Gd ..); first | (with_reducible first | refine Gd.t ?_ | refine Gd.f ?_ | (first | apply Gd.dec | apply Gd.beq | apply Gd.bne) <;> intro _ | refine Gd.not ?_) | refine Gd.t ?_ | refine Gd.f ?_ | apply Gd.var <;> intro _) <;> try (exfalso; omega)) | with_reducible refine Sq.mk ?_ | ((with_reducible show Ld1 ..); first | refine Ld1.h H ?_ | refine Ld1.rF ?_ | refine Ld1.r ?_) | ((with_reducible show Ld ..); first | refine Ld.h H ?_ | refine Ld.r ?_) | ((with_reducible show Ix ..); first | refine Ix.h ?_ | refine Ix.ha ?_) | (refine Al.hp H ?_; clear H; intro _ _ H _) | (refine St.h H ?_; clear H; intro _ H)) | refine Sm.strix T.ok ?_)
    ((conv => whnf); refine Cl.mkX (hex ts1 _ (by omega) (by omega) (H.base2 HB) (H.atC 2 rfl) (Res.bind_out (by rw [← hR]; exact hne))) ?_ ?_; rotate_left; (rintro ch w9 ⟨e9, p9, q9, h9, rfl, H'⟩; exact ⟨e9, p9, q9, (by rw [hR, h9]; rfl), rfl, Hp.pan H H' (.inl rfl)⟩))
    rintro _ w3 ⟨⟨kd, o, n, nm, cb, A2, c2, l2⟩, ts2, h2, rfl, H'⟩
    replace H := H.updn (c := rdr src pr ts1) (Hp.swap H') rfl (.inl rfl) (.inl rfl)
    clear H'
    rw [h2, Res.bind_ok] at hR
    repeat' ((conv => whnf); first | ((with_reducible show Gd (bs _ == _) _ _); first | refine Gd.sY (by assumption) ?_ | refine Gd.sk (by assumption) ?_ | refine Gd.sN (by assumption) ?_) | ((conv => whnf); first | (((with_reducible show Gd ..); first | (with_reducible first | refine Gd.t ?_ | refine Gd.f ?_ | (first | apply Gd.dec | apply Gd.beq | apply Gd.bne) <;> intro _ | refine Gd.not ?_) | refine Gd.t ?_ | refine Gd.f ?_ | apply Gd.var <;> intro _) <;> try (exfalso; omega)) | with_reducible refine Sq.mk ?_ | ((with_reducible show Ld1 ..); first | refine Ld1.h H ?_ | refine Ld1.rF ?_ | refine Ld1.r ?_) | ((with_reducible show Ld ..); first | refine Ld.h H ?_ | refine Ld.r ?_) | ((with_reducible show Ix ..); first | refine Ix.h ?_ | refine Ix.ha ?_) | (refine St.h H ?_; clear H; intro _ H)) | refine Sm.strix T.ok ?_)
    ((conv => whnf); refine Al.hp H ?_; clear H; intro p6 _ H _)
    repeat' ((conv => whnf); first | ((with_reducible show Gd (bs _ == _) _ _); first | refine Gd.sY (by assumption) ?_ | refine Gd.sk (by assumption) ?_ | refine Gd.sN (by assumption) ?_) | ((conv => whnf); first | (((with_reducible show Gd ..); first | (with_reducible first | refine Gd.t ?_ | refine Gd.f ?_ | (first | apply Gd.dec | apply Gd.beq | apply Gd.bne) <;> intro _ | refine Gd.not ?_) | refine Gd.t ?_ | refine Gd.f ?_ | apply Gd.var <;> intro _) <;> try (exfalso; omega)) | with_reducible refine Sq.mk ?_ | ((with_reducible show Ld1 ..); first | refine Ld1.h H ?_ | refine Ld1.rF ?_ | refine Ld1.r ?_) | ((with_reducible show Ld ..); first | refine Ld.h H ?_ | refine Ld.r ?_) | ((with_reducible show Ix ..); first | refine Ix.h ?_ | refine Ix.ha ?_) | (refine Al.hp H ?_; clear H; intro _ _ H _) | (refine St.h H ?_; clear H; intro _ H)) | refine Sm.strix T.ok ?_)
    (((conv => whnf); refine Cl.mkX (take_c s_rp src pr (ts2) wb _ (H.base2 HB) X.lo X.tb X.len (H.atC 4 rfl) (by decide)) ?_ ?_; rotate_left; (rintro ch w9 ⟨e9, p9, q9, h9, rfl, H'⟩; exact ⟨e9, p9, q9, (by rw [hR, h9]; rfl), rfl, Hp.pan H H' (.inl rfl)⟩)); rintro _ w8 ⟨t3, ts3, h1, rfl, H'⟩; replace H := H.upd (c := rdr src pr (ts2)) H' rfl (.inl rfl); clear H'; rw [h1, Res.bind_ok] at hR; clear h1)
    repeat' ((conv => whnf); first | ((with_reducible show Gd (bs _ == _) _ _); first | refine Gd.sY (by assumption) ?_ | refine Gd.sk (by assumption) ?_ | refine Gd.sN (by assumption) ?_) | ((conv => whnf); first | (((with_reducible show Gd ..); first | (with_reducible first | refine Gd.t ?_ | refine Gd.f ?_ | (first | apply Gd.dec | apply Gd.beq | apply Gd.bne) <;> intro _ | refine Gd.not ?_) | refine Gd.t ?_ | refine Gd.f ?_ | apply Gd.var <;> intro _) <;> try (exfalso; omega)) | with_reducible refine Sq.mk ?_ | ((with_reducible show Ld1 ..); first | refine Ld1.h H ?_ | refine Ld1.rF ?_ | refine Ld1.r ?_) | ((with_reducible show Ld ..); first | refine Ld.h H ?_ | refine Ld.r ?_) | ((with_reducible show Ix ..); first | refine Ix.h ?_ | refine Ix.ha ?_) | (refine Al.hp H ?_; clear H; intro _ _ H _) | (refine St.h H ?_; clear H; intro _ H)) | refine Sm.strix T.ok ?_)
    exact ⟨.mk kd o n nm cb A2 c2 l2, ts3, hR, et_v rfl, H.sel [1, 3] rfl⟩
  rw [if_neg c3] at hR
  by_cases c4 : t0.kind = k_min ∨ t0.kind = k_max ∨ t0.kind = k_reduce ∨ t0.kind = k_each
  · rw [if_pos c4] at hR
    have hend : t0.kind ≠ k_end := fun e => by rw [e] at c4; revert c4; decide
    have hfo := fun ts w => form_c X C t0.kind (d + 1) ts w
    rw [← hwd] at hfo
    rcases c4 with c4 | c4 | c4 | c4
    all_goals
      repeat' ((conv => whnf); first | ((with_reducible show Gd (bs _ == _) _ _); first | refine Gd.sY (by assumption) ?_ | refine Gd.sk (by assumption) ?_ | refine Gd.sN (by assumption) ?_) | ((conv => whnf); first | (((with_reducible show Gd ..); first | (with_reducible first | refine Gd.t ?_ | refine Gd.f ?_ | (first | apply Gd.dec | apply Gd.beq | apply Gd.bne) <;> intro _ | refine Gd.not ?_) | refine Gd.t ?_ | refine Gd.f ?_ | apply Gd.var <;> intro _) <;> try (exfalso; omega)) | with_reducible refine Sq.mk ?_ | ((with_reducible show Ld1 ..); first | refine Ld1.h H ?_ | refine Ld1.rF ?_ | refine Ld1.r ?_) | ((with_reducible show Ld ..); first | refine Ld.h H ?_ | refine Ld.r ?_) | ((with_reducible show Ix ..); first | refine Ix.h ?_ | refine Ix.ha ?_) | (refine Al.hp H ?_; clear H; intro _ _ H _) | (refine St.h H ?_; clear H; intro _ H)) | refine Sm.strix T.ok ?_)
      (replace H := Hp.toR H hn0 hr0)
      (((conv => whnf); refine Cl.mkX (deep_c _ src pr (t0 :: r0) (d + 1) hwd _ (H.atC 2 rfl)) ?_ ?_; rotate_left; (rintro ch w9 ⟨e9, p9, q9, h9, rfl, H'⟩; exact ⟨e9, p9, q9, (by rw [hR, h9]; rfl), rfl, Hp.pan H H' (.inl rfl)⟩)); rintro _ w8 ⟨h1, ex⟩; replace H := H.ext ex; clear ex; have hd40 := deep_le h1; rw [h1, Res.bind_ok] at hR; clear h1)
      repeat' ((conv => whnf); first | ((with_reducible show Gd (bs _ == _) _ _); first | refine Gd.sY (by assumption) ?_ | refine Gd.sk (by assumption) ?_ | refine Gd.sN (by assumption) ?_) | ((conv => whnf); first | (((with_reducible show Gd ..); first | (with_reducible first | refine Gd.t ?_ | refine Gd.f ?_ | (first | apply Gd.dec | apply Gd.beq | apply Gd.bne) <;> intro _ | refine Gd.not ?_) | refine Gd.t ?_ | refine Gd.f ?_ | apply Gd.var <;> intro _) <;> try (exfalso; omega)) | with_reducible refine Sq.mk ?_ | ((with_reducible show Ld1 ..); first | refine Ld1.h H ?_ | refine Ld1.rF ?_ | refine Ld1.r ?_) | ((with_reducible show Ld ..); first | refine Ld.h H ?_ | refine Ld.r ?_) | ((with_reducible show Ix ..); first | refine Ix.h ?_ | refine Ix.ha ?_) | (refine Al.hp H ?_; clear H; intro _ _ H _) | (refine St.h H ?_; clear H; intro _ H)) | refine Sm.strix T.ok ?_)
      (((conv => whnf); refine Cl.mkX (step_c _ src pr (t0 :: r0) wb _ (H.base2 HB) X.lo X.tb X.len (H.atC 2 rfl) hend) ?_ ?_; rotate_left; (rintro ch w9 ⟨e9, p9, q9, h9, rfl, H'⟩; exact ⟨e9, p9, q9, (by rw [hR, h9]; rfl), rfl, Hp.pan H H' (.inl rfl)⟩)); rintro _ w8 ⟨ts1, h1, H'⟩; replace H := H.upd (c := rdr src pr (t0 :: r0)) H' rfl (.inl rfl); clear H'; rw [h1, Res.bind_ok] at hR; clear h1)
      repeat' ((conv => whnf); first | ((with_reducible show Gd (bs _ == _) _ _); first | refine Gd.sY (by assumption) ?_ | refine Gd.sk (by assumption) ?_ | refine Gd.sN (by assumption) ?_) | ((conv => whnf); first | (((with_reducible show Gd ..); first | (with_reducible first | refine Gd.t ?_ | refine Gd.f ?_ | (first | apply Gd.dec | apply Gd.beq | apply Gd.bne) <;> intro _ | refine Gd.not ?_) | refine Gd.t ?_ | refine Gd.f ?_ | apply Gd.var <;> intro _) <;> try (exfalso; omega)) | with_reducible refine Sq.mk ?_ | ((with_reducible show Ld1 ..); first | refine Ld1.h H ?_ | refine Ld1.rF ?_ | refine Ld1.r ?_) | ((with_reducible show Ld ..); first | refine Ld.h H ?_ | refine Ld.r ?_) | ((with_reducible show Ix ..); first | refine Ix.h ?_ | refine Ix.ha ?_) | (refine Al.hp H ?_; clear H; intro _ _ H _) | (refine St.h H ?_; clear H; intro _ H)) | refine Sm.strix T.ok ?_)
      (((conv => whnf); refine Cl.mkX (take_c s_lp src pr (ts1) wb _ (H.base2 HB) X.lo X.tb X.len (H.atC 2 rfl) (by decide)) ?_ ?_; rotate_left; (rintro ch w9 ⟨e9, p9, q9, h9, rfl, H'⟩; exact ⟨e9, p9, q9, (by rw [hR, h9]; rfl), rfl, Hp.pan H H' (.inl rfl)⟩)); rintro _ w8 ⟨t2, ts2, h1, rfl, H'⟩; replace H := H.upd (c := rdr src pr (ts1)) H' rfl (.inl rfl); clear H'; rw [h1, Res.bind_ok] at hR; clear h1)
      repeat' ((conv => whnf); first | ((with_reducible show Gd (bs _ == _) _ _); first | refine Gd.sY (by assumption) ?_ | refine Gd.sk (by assumption) ?_ | refine Gd.sN (by assumption) ?_) | ((conv => whnf); first | (((with_reducible show Gd ..); first | (with_reducible first | refine Gd.t ?_ | refine Gd.f ?_ | (first | apply Gd.dec | apply Gd.beq | apply Gd.bne) <;> intro _ | refine Gd.not ?_) | refine Gd.t ?_ | refine Gd.f ?_ | apply Gd.var <;> intro _) <;> try (exfalso; omega)) | with_reducible refine Sq.mk ?_ | ((with_reducible show Ld1 ..); first | refine Ld1.h H ?_ | refine Ld1.rF ?_ | refine Ld1.r ?_) | ((with_reducible show Ld ..); first | refine Ld.h H ?_ | refine Ld.r ?_) | ((with_reducible show Ix ..); first | refine Ix.h ?_ | refine Ix.ha ?_) | (refine Al.hp H ?_; clear H; intro _ _ H _) | (refine St.h H ?_; clear H; intro _ H)) | refine Sm.strix T.ok ?_)
      (conv => whnf)
      refine Cl.mkX (hfo ts2 _ (by omega) (H.base2 HB) (H.atC 2 rfl) (by rw [curK_cons] at hR; rw [← hR]; exact hne)) ?_ ?_
      · rintro _ w3 ⟨⟨kd, o, n, nm, cb, A2, c2, l2⟩, ts3, h2, rfl, H'⟩
        replace H := H.updn (c := rdr src pr ts2) (Hp.swap H') rfl (.inl rfl) (.inl rfl)
        clear H'
        repeat' ((conv => whnf); first | ((with_reducible show Gd (bs _ == _) _ _); first | refine Gd.sY (by assumption) ?_ | refine Gd.sk (by assumption) ?_ | refine Gd.sN (by assumption) ?_) | ((conv => whnf); first | (((with_reducible show Gd ..); first | (with_reducible first | refine Gd.t ?_ | refine Gd.f ?_ | (first | apply Gd.dec | apply Gd.beq | apply Gd.bne) <;> intro _ | refine Gd.not ?_) | refine Gd.t ?_ | refine Gd.f ?_ | apply Gd.var <;> intro _) <;> try (exfalso; omega)) | with_reducible refine Sq.mk ?_ | ((with_reducible show Ld1 ..); first | refine Ld1.h H ?_ | refine Ld1.rF ?_ | refine Ld1.r ?_) | ((with_reducible show Ld ..); first | refine Ld.h H ?_ | refine Ld.r ?_) | ((with_reducible show Ix ..); first | refine Ix.h ?_ | refine Ix.ha ?_) | (refine Al.hp H ?_; clear H; intro _ _ H _) | (refine St.h H ?_; clear H; intro _ H)) | refine Sm.strix T.ok ?_)
        exact ⟨.mk kd o n nm cb A2 c2 l2, ts3, by rw [hR, curK_cons, h2], et_v rfl, H.sel [0, 2] rfl⟩
      · rintro ch w2 ⟨e, p, q, h1, rfl, H'⟩
        exact ⟨e, p, q, by rw [hR, curK_cons, h1], rfl, Hp.pan H H' (.inl rfl)⟩
  rw [if_neg c4] at hR
  simp only [not_or] at c4
  obtain ⟨c5, c6, c7, c8⟩ := c4
  repeat' ((conv => whnf); first | ((with_reducible show Gd (bs _ == _) _ _); first | refine Gd.sY (by assumption) ?_ | refine Gd.sk (by assumption) ?_ | refine Gd.sN (by assumption) ?_) | ((conv => whnf); first | (((with_reducible show Gd ..); first | (with_reducible first | refine Gd.t ?_ | refine Gd.f ?_ | (first | apply Gd.dec | apply Gd.beq | apply Gd.bne) <;> intro _ | refine Gd.not ?_) | refine Gd.t ?_ | refine Gd.f ?_ | apply Gd.var <;> intro _) <;> try (exfalso; omega)) | with_reducible refine Sq.mk ?_ | ((with_reducible show Ld1 ..); first | refine Ld1.h H ?_ | refine Ld1.rF ?_ | refine Ld1.r ?_) | ((with_reducible show Ld ..); first | refine Ld.h H ?_ | refine Ld.r ?_) | ((with_reducible show Ix ..); first | refine Ix.h ?_ | refine Ix.ha ?_) | (refine Al.hp H ?_; clear H; intro _ _ H _) | (refine St.h H ?_; clear H; intro _ H)) | refine Sm.strix T.ok ?_)
  (conv => whnf)
  refine Cl.mkX (fail_c pr 141 t0.at_ _) (fun _ _ h => h.elim) ?_
  rintro ch w5 ⟨q5, rfl, H'⟩
  exact ⟨141, t0.at_, q5, hR, rfl, (H.fr0 H' (.inl rfl)).sel [0] rfl⟩
end
end Go.Proofs.YtfnjodpehomgfaaGreatDoor
namespace Go.Proofs.YtfnjodpehomgfaaGreatDoor
open Go Go.Sh Go.Tx
attribute [local irreducible] Blk Ext RdS
theorem sm_v {v : Value} {kd : Int} {nm : Bs} {k1 o1 n1 : Int} {a1 b1 : Bs} {A1 B E : Option Addr} {c1 cb ce : Nat} {l1 : List ET} {b f : List SM} (h : v = .agg #[.int .i64 kd, .string (bs nm), .int .i64 k1, .int .i64 o1, .int .i64 n1, .string (bs a1), .string (bs b1), .slice A1 l1.length c1, .slice B b.length cb, .slice E f.length ce]) : v = SM.v (.mk kd nm (.mk k1 o1 n1 a1 b1 A1 c1 l1) B cb b E ce f) := h
theorem Hp.stsE {S : Nat → Prop} {w0 w : World} {Γ : List Ck} {e : ET} (kd : Int) (nm : Bs) (H : Hp S w0 w (trs [e] :: Γ)) : Hp S w0 w (sts [.mk kd nm e none 0 [] none 0 []] :: Γ) :=
  Hp.stsN kd nm ((Hp.stl0 (Hp.stl0 H)).perm (List.perm_middle (l₁ := [stl none 0 [], stl none 0 []])))
theorem begins_ne {k : Bs} (h : beginsB k = true) : k ≠ k_end := fun e => by rw [e] at h; revert h; decide
section
variable {src : Bs} {pr : Nat} {wb : World} {F : PF} (X : Txt src pr wb) (C : Con src pr wb F)
include X C
set_option maxHeartbeats 4000000 in
theorem plain_c (d : Nat) (ts : List Tk) (w : World) (hd : d ≤ 41) (hwb : Ext wb w) (h : Rdr src pr ts w) (hbg : beginsB (curK ts) = true) (hne : plainP F d ts ≠ .out) :
    Cl Tryz.prog 112 #[.pointer (some ⟨pr, 0, none⟩), .int .i64 (d : Int)] w (OkS src pr (plainP F d ts) w) (PanX (plainP F d ts) pr w) := by
  have HB := X.ok hwb
  obtain ⟨R, hR⟩ : ∃ R, R = plainP F d ts := ⟨_, rfl⟩
  rw [← hR] at hne ⊢
  unfold plainP at hR
  refine calls_ex (args := [.pointer (some ⟨pr, 0, none⟩), .int .i64 (d : Int)]) T.ok Tryz.func112 rfl rfl rfl rfl ?_
  have H := Hp.start (S := (· = pr)) (rdr_ok h) (fun k hk => hk)
  clear h
  refine Sq.mk ?_
  ((conv => whnf); refine Al.hp H ?_; clear H; intro p4 _ H _)
  (obtain ⟨nx, t0, r0, rfl, hn0, hr0, hb0⟩ := H.atC (c := rdr src pr ts) 1 rfl; replace H := Hp.ofR H hb0; clear hb0)
  rw [curK_cons] at hR hbg
  repeat' ((conv => whnf); first | ((with_reducible show Gd (bs _ == _) _ _); first | refine Gd.sY (by assumption) ?_ | refine Gd.sk (by assumption) ?_ | refine Gd.sN (by assumption) ?_) | ((conv => whnf); first | (((with_reducible show Gd ..); first | (with_reducible first | refine Gd.t ?_ | refine Gd.f ?_ | (first | apply Gd.dec | apply Gd.beq | apply Gd.bne) <;> intro _ | refine Gd.not ?_) | refine Gd.t ?_ | refine Gd.f ?_ | apply Gd.var <;> intro _) <;> try (exfalso; omega)) | with_reducible refine Sq.mk ?_ | ((with_reducible show Ld1 ..); first | refine Ld1.h H ?_ | refine Ld1.rF ?_ | refine Ld1.r ?_) | ((with_reducible show Ld ..); first | refine Ld.h H ?_ | refine Ld.r ?_) | ((with_reducible show Ix ..); first | refine Ix.h ?_ | refine Ix.ha ?_) | (refine St.h H ?_; clear H; intro _ H)) | refine Sm.strix T.ok ?_)
  ((conv => whnf); refine Al.hp H ?_; clear H; intro p5 _ H _)
  repeat' ((conv => whnf); first | ((with_reducible show Gd (bs _ == _) _ _); first | refine Gd.sY (by assumption) ?_ | refine Gd.sk (by assumption) ?_ | refine Gd.sN (by assumption) ?_) | ((conv => whnf); first | (((with_reducible show Gd ..); first | (with_reducible first | refine Gd.t ?_ | refine Gd.f ?_ | (first | apply Gd.dec | apply Gd.beq | apply Gd.bne) <;> intro _ | refine Gd.not ?_) | refine Gd.t ?_ | refine Gd.f ?_ | apply Gd.var <;> intro _) <;> try (exfalso; omega)) | with_reducible refine Sq.mk ?_ | ((with_reducible show Ld1 ..); first | refine Ld1.h H ?_ | refine Ld1.rF ?_ | refine Ld1.r ?_) | ((with_reducible show Ld ..); first | refine Ld.h H ?_ | refine Ld.r ?_) | ((with_reducible show Ix ..); first | refine Ix.h ?_ | refine Ix.ha ?_) | (refine Al.hp H ?_; clear H; intro _ _ H _) | (refine St.h H ?_; clear H; intro _ H)) | refine Sm.strix T.ok ?_)
  (replace H := Hp.toR H hn0 hr0)
  (((conv => whnf); refine Cl.mkX (step_c _ src pr (t0 :: r0) wb _ (H.base2 HB) X.lo X.tb X.len (H.atC 2 rfl) (begins_ne hbg)) ?_ ?_; rotate_left; (rintro ch w9 ⟨e9, p9, q9, h9, rfl, H'⟩; exact ⟨e9, p9, q9, (by rw [hR, h9]; rfl), rfl, Hp.pan H H' (.inl rfl)⟩)); rintro _ w8 ⟨ts1, h1, H'⟩; replace H := H.upd (c := rdr src pr (t0 :: r0)) H' rfl (.inl rfl); clear H'; rw [h1, Res.bind_ok] at hR; clear h1)
  by_cases c1 : t0.kind = k_sync
  · rw [if_pos c1] at hR
    repeat' ((conv => whnf); first | ((with_reducible show Gd (bs _ == _) _ _); first | refine Gd.sY (by assumption) ?_ | refine Gd.sk (by assumption) ?_ | refine Gd.sN (by assumption) ?_) | ((conv => whnf); first | (((with_reducible show Gd ..); first | (with_reducible first | refine Gd.t ?_ | refine Gd.f ?_ | (first | apply Gd.dec | apply Gd.beq | apply Gd.bne) <;> intro _ | refine Gd.not ?_) | refine Gd.t ?_ | refine Gd.f ?_ | apply Gd.var <;> intro _) <;> try (exfalso; omega)) | with_reducible refine Sq.mk ?_ | ((with_reducible show Ld1 ..); first | refine Ld1.h H ?_ | refine Ld1.rF ?_ | refine Ld1.r ?_) | ((with_reducible show Ld ..); first | refine Ld.h H ?_ | refine Ld.r ?_) | ((with_reducible show Ix ..); first | refine Ix.h ?_ | refine Ix.ha ?_) | (refine Al.hp H ?_; clear H; intro _ _ H _) | (refine St.h H ?_; clear H; intro _ H)) | refine Sm.strix T.ok ?_)
    exact ⟨.mk 3 [] (.mk 0 0 0 [] [] none 0 []) none 0 [] none 0 [], ts1, hR, sm_v rfl, Hp.stsE 3 [] (Hp.trsZ 0 0 0 [] [] (H.sel [2] rfl))⟩
  rw [if_neg c1] at hR
  by_cases c2 : t0.kind = k_break
  · rw [if_pos c2] at hR
    repeat' ((conv => whnf); first | ((with_reducible show Gd (bs _ == _) _ _); first | refine Gd.sY (by assumption) ?_ | refine Gd.sk (by assumption) ?_ | refine Gd.sN (by assumption) ?_) | ((conv => whnf); first | (((with_reducible show Gd ..); first | (with_reducible first | refine Gd.t ?_ | refine Gd.f ?_ | (first | apply Gd.dec | apply Gd.beq | apply Gd.bne) <;> intro _ | refine Gd.not ?_) | refine Gd.t ?_ | refine Gd.f ?_ | apply Gd.var <;> intro _) <;> try (exfalso; omega)) | with_reducible refine Sq.mk ?_ | ((with_reducible show Ld1 ..); first | refine Ld1.h H ?_ | refine Ld1.rF ?_ | refine Ld1.r ?_) | ((with_reducible show Ld ..); first | refine Ld.h H ?_ | refine Ld.r ?_) | ((with_reducible show Ix ..); first | refine Ix.h ?_ | refine Ix.ha ?_) | (refine Al.hp H ?_; clear H; intro _ _ H _) | (refine St.h H ?_; clear H; intro _ H)) | refine Sm.strix T.ok ?_)
    exact ⟨.mk 8 [] (.mk 0 0 0 [] [] none 0 []) none 0 [] none 0 [], ts1, hR, sm_v rfl, Hp.stsE 8 [] (Hp.trsZ 0 0 0 [] [] (H.sel [2] rfl))⟩
  rw [if_neg c2] at hR
  by_cases c3 : t0.kind = k_continue
  · rw [if_pos c3] at hR
    repeat' ((conv => whnf); first | ((with_reducible show Gd (bs _ == _) _ _); first | refine Gd.sY (by assumption) ?_ | refine Gd.sk (by assumption) ?_ | refine Gd.sN (by assumption) ?_) | ((conv => whnf); first | (((with_reducible show Gd ..); first | (with_reducible first | refine Gd.t ?_ | refine Gd.f ?_ | (first | apply Gd.dec | apply Gd.beq | apply Gd.bne) <;> intro _ | refine Gd.not ?_) | refine Gd.t ?_ | refine Gd.f ?_ | apply Gd.var <;> intro _) <;> try (exfalso; omega)) | with_reducible refine Sq.mk ?_ | ((with_reducible show Ld1 ..); first | refine Ld1.h H ?_ | refine Ld1.rF ?_ | refine Ld1.r ?_) | ((with_reducible show Ld ..); first | refine Ld.h H ?_ | refine Ld.r ?_) | ((with_reducible show Ix ..); first | refine Ix.h ?_ | refine Ix.ha ?_) | (refine Al.hp H ?_; clear H; intro _ _ H _) | (refine St.h H ?_; clear H; intro _ H)) | refine Sm.strix T.ok ?_)
    exact ⟨.mk 9 [] (.mk 0 0 0 [] [] none 0 []) none 0 [] none 0 [], ts1, hR, sm_v rfl, Hp.stsE 9 [] (Hp.trsZ 0 0 0 [] [] (H.sel [2] rfl))⟩
  rw [if_neg c3] at hR
  by_cases c4 : t0.kind = k_do
  · rw [if_pos c4] at hR
    repeat' ((conv => whnf); first | ((with_reducible show Gd (bs _ == _) _ _); first | refine Gd.sY (by assumption) ?_ | refine Gd.sk (by assumption) ?_ | refine Gd.sN (by assumption) ?_) | ((conv => whnf); first | (((with_reducible show Gd ..); first | (with_reducible first | refine Gd.t ?_ | refine Gd.f ?_ | (first | apply Gd.dec | apply Gd.beq | apply Gd.bne) <;> intro _ | refine Gd.not ?_) | refine Gd.t ?_ | refine Gd.f ?_ | apply Gd.var <;> intro _) <;> try (exfalso; omega)) | with_reducible refine Sq.mk ?_ | ((with_reducible show Ld1 ..); first | refine Ld1.h H ?_ | refine Ld1.rF ?_ | refine Ld1.r ?_) | ((with_reducible show Ld ..); first | refine Ld.h H ?_ | refine Ld.r ?_) | ((with_reducible show Ix ..); first | refine Ix.h ?_ | refine Ix.ha ?_) | (refine Al.hp H ?_; clear H; intro _ _ H _) | (refine St.h H ?_; clear H; intro _ H)) | refine Sm.strix T.ok ?_)
    ((conv => whnf); refine Cl.mkX (C.expr 0 d ts1 _ (by omega) hd (H.base2 HB) (H.atC 2 rfl) (Res.bind_out (by rw [← hR]; exact hne))) ?_ ?_; rotate_left; (rintro ch w9 ⟨e9, p9, q9, h9, rfl, H'⟩; exact ⟨e9, p9, q9, (by rw [hR, h9]; rfl), rfl, Hp.pan H H' (.inl rfl)⟩))
    rintro _ w3 ⟨⟨kd, o, n, nm, cb, A2, c2, l2⟩, ts2, h2, rfl, H'⟩
    replace H := H.updn (c := rdr src pr ts1) (Hp.swap H') rfl (.inl rfl) (.inl rfl)
    clear H'
    rw [h2, Res.bind_ok] at hR
    repeat' ((conv => whnf); first | ((with_reducible show Gd (bs _ == _) _ _); first | refine Gd.sY (by assumption) ?_ | refine Gd.sk (by assumption) ?_ | refine Gd.sN (by assumption) ?_) | ((conv => whnf); first | (((with_reducible show Gd ..); first | (with_reducible first | refine Gd.t ?_ | refine Gd.f ?_ | (first | apply Gd.dec | apply Gd.beq | apply Gd.bne) <;> intro _ | refine Gd.not ?_) | refine Gd.t ?_ | refine Gd.f ?_ | apply Gd.var <;> intro _) <;> try (exfalso; omega)) | with_reducible refine Sq.mk ?_ | ((with_reducible show Ld1 ..); first | refine Ld1.h H ?_ | refine Ld1.rF ?_ | refine Ld1.r ?_) | ((with_reducible show Ld ..); first | refine Ld.h H ?_ | refine Ld.r ?_) | ((with_reducible show Ix ..); first | refine Ix.h ?_ | refine Ix.ha ?_) | (refine Al.hp H ?_; clear H; intro _ _ H _) | (refine St.h H ?_; clear H; intro _ H)) | refine Sm.strix T.ok ?_)
    exact ⟨.mk 6 [] (.mk kd o n nm cb A2 c2 l2) none 0 [] none 0 [], ts2, hR, sm_v rfl, Hp.stsE 6 [] (H.sel [0, 2] rfl)⟩
  rw [if_neg c4] at hR
  by_cases c5 : t0.kind = k_return
  · rw [if_pos c5] at hR
    repeat' ((conv => whnf); first | ((with_reducible show Gd (bs _ == _) _ _); first | refine Gd.sY (by assumption) ?_ | refine Gd.sk (by assumption) ?_ | refine Gd.sN (by assumption) ?_) | ((conv => whnf); first | (((with_reducible show Gd ..); first | (with_reducible first | refine Gd.t ?_ | refine Gd.f ?_ | (first | apply Gd.dec | apply Gd.beq | apply Gd.bne) <;> intro _ | refine Gd.not ?_) | refine Gd.t ?_ | refine Gd.f ?_ | apply Gd.var <;> intro _) <;> try (exfalso; omega)) | with_reducible refine Sq.mk ?_ | ((with_reducible show Ld1 ..); first | refine Ld1.h H ?_ | refine Ld1.rF ?_ | refine Ld1.r ?_) | ((with_reducible show Ld ..); first | refine Ld.h H ?_ | refine Ld.r ?_) | ((with_reducible show Ix ..); first | refine Ix.h ?_ | refine Ix.ha ?_) | (refine Al.hp H ?_; clear H; intro _ _ H _) | (refine St.h H ?_; clear H; intro _ H)) | refine Sm.strix T.ok ?_)
    ((conv => whnf); refine Cl.mkX (C.expr 0 d ts1 _ (by omega) hd (H.base2 HB) (H.atC 2 rfl) (Res.bind_out (by rw [← hR]; exact hne))) ?_ ?_; rotate_left; (rintro ch w9 ⟨e9, p9, q9, h9, rfl, H'⟩; exact ⟨e9, p9, q9, (by rw [hR, h9]; rfl), rfl, Hp.pan H H' (.inl rfl)⟩))
    rintro _ w3 ⟨⟨kd, o, n, nm, cb, A2, c2, l2⟩, ts2, h2, rfl, H'⟩
    replace H := H.updn (c := rdr src pr ts1) (Hp.swap H') rfl (.inl rfl) (.inl rfl)
    clear H'
    rw [h2, Res.bind_ok] at hR
    repeat' ((conv => whnf); first | ((with_reducible show Gd (bs _ == _) _ _); first | refine Gd.sY (by assumption) ?_ | refine Gd.sk (by assumption) ?_ | refine Gd.sN (by assumption) ?_) | ((conv => whnf); first | (((with_reducible show Gd ..); first | (with_reducible first | refine Gd.t ?_ | refine Gd.f ?_ | (first | apply Gd.dec | apply Gd.beq | apply Gd.bne) <;> intro _ | refine Gd.not ?_) | refine Gd.t ?_ | refine Gd.f ?_ | apply Gd.var <;> intro _) <;> try (exfalso; omega)) | with_reducible refine Sq.mk ?_ | ((with_reducible show Ld1 ..); first | refine Ld1.h H ?_ | refine Ld1.rF ?_ | refine Ld1.r ?_) | ((with_reducible show Ld ..); first | refine Ld.h H ?_ | refine Ld.r ?_) | ((with_reducible show Ix ..); first | refine Ix.h ?_ | refine Ix.ha ?_) | (refine Al.hp H ?_; clear H; intro _ _ H _) | (refine St.h H ?_; clear H; intro _ H)) | refine Sm.strix T.ok ?_)
    exact ⟨.mk 7 [] (.mk kd o n nm cb A2 c2 l2) none 0 [] none 0 [], ts2, hR, sm_v rfl, Hp.stsE 7 [] (H.sel [0, 2] rfl)⟩
  rw [if_neg c5] at hR
  by_cases c6 : t0.kind = k_spawn
  · rw [if_pos c6] at hR
    repeat' ((conv => whnf); first | ((with_reducible show Gd (bs _ == _) _ _); first | refine Gd.sY (by assumption) ?_ | refine Gd.sk (by assumption) ?_ | refine Gd.sN (by assumption) ?_) | ((conv => whnf); first | (((with_reducible show Gd ..); first | (with_reducible first | refine Gd.t ?_ | refine Gd.f ?_ | (first | apply Gd.dec | apply Gd.beq | apply Gd.bne) <;> intro _ | refine Gd.not ?_) | refine Gd.t ?_ | refine Gd.f ?_ | apply Gd.var <;> intro _) <;> try (exfalso; omega)) | with_reducible refine Sq.mk ?_ | ((with_reducible show Ld1 ..); first | refine Ld1.h H ?_ | refine Ld1.rF ?_ | refine Ld1.r ?_) | ((with_reducible show Ld ..); first | refine Ld.h H ?_ | refine Ld.r ?_) | ((with_reducible show Ix ..); first | refine Ix.h ?_ | refine Ix.ha ?_) | (refine Al.hp H ?_; clear H; intro _ _ H _) | (refine St.h H ?_; clear H; intro _ H)) | refine Sm.strix T.ok ?_)
    (((conv => whnf); refine Cl.mkX (take_c k_name src pr (ts1) wb _ (H.base2 HB) X.lo X.tb X.len (H.atC 2 rfl) (by decide)) ?_ ?_; rotate_left; (rintro ch w9 ⟨e9, p9, q9, h9, rfl, H'⟩; exact ⟨e9, p9, q9, (by rw [hR, h9]; rfl), rfl, Hp.pan H H' (.inl rfl)⟩)); rintro _ w8 ⟨t1, ts2, h1, rfl, H'⟩; replace H := H.upd (c := rdr src pr (ts1)) H' rfl (.inl rfl); clear H'; rw [h1, Res.bind_ok] at hR; clear h1)
    repeat' ((conv => whnf); first | ((with_reducible show Gd (bs _ == _) _ _); first | refine Gd.sY (by assumption) ?_ | refine Gd.sk (by assumption) ?_ | refine Gd.sN (by assumption) ?_) | ((conv => whnf); first | (((with_reducible show Gd ..); first | (with_reducible first | refine Gd.t ?_ | refine Gd.f ?_ | (first | apply Gd.dec | apply Gd.beq | apply Gd.bne) <;> intro _ | refine Gd.not ?_) | refine Gd.t ?_ | refine Gd.f ?_ | apply Gd.var <;> intro _) <;> try (exfalso; omega)) | with_reducible refine Sq.mk ?_ | ((with_reducible show Ld1 ..); first | refine Ld1.h H ?_ | refine Ld1.rF ?_ | refine Ld1.r ?_) | ((with_reducible show Ld ..); first | refine Ld.h H ?_ | refine Ld.r ?_) | ((with_reducible show Ix ..); first | refine Ix.h ?_ | refine Ix.ha ?_) | (refine St.h H ?_; clear H; intro _ H)) | refine Sm.strix T.ok ?_)
    ((conv => whnf); refine Al.hp H ?_; clear H; intro p6 _ H _)
    repeat' ((conv => whnf); first | ((with_reducible show Gd (bs _ == _) _ _); first | refine Gd.sY (by assumption) ?_ | refine Gd.sk (by assumption) ?_ | refine Gd.sN (by assumption) ?_) | ((conv => whnf); first | (((with_reducible show Gd ..); first | (with_reducible first | refine Gd.t ?_ | refine Gd.f ?_ | (first | apply Gd.dec | apply Gd.beq | apply Gd.bne) <;> intro _ | refine Gd.not ?_) | refine Gd.t ?_ | refine Gd.f ?_ | apply Gd.var <;> intro _) <;> try (exfalso; omega)) | with_reducible refine Sq.mk ?_ | ((with_reducible show Ld1 ..); first | refine Ld1.h H ?_ | refine Ld1.rF ?_ | refine Ld1.r ?_) | ((with_reducible show Ld ..); first | refine Ld.h H ?_ | refine Ld.r ?_) | ((with_reducible show Ix ..); first | refine Ix.h ?_ | refine Ix.ha ?_) | (refine Al.hp H ?_; clear H; intro _ _ H _) | (refine St.h H ?_; clear H; intro _ H)) | refine Sm.strix T.ok ?_)
    (((conv => whnf); refine Cl.mkX (take_c s_asg src pr (ts2) wb _ (H.base2 HB) X.lo X.tb X.len (H.atC 3 rfl) (by decide)) ?_ ?_; rotate_left; (rintro ch w9 ⟨e9, p9, q9, h9, rfl, H'⟩; exact ⟨e9, p9, q9, (by rw [hR, h9]; rfl), rfl, Hp.pan H H' (.inl rfl)⟩)); rintro _ w8 ⟨t2, ts3, h1, rfl, H'⟩; replace H := H.upd (c := rdr src pr (ts2)) H' rfl (.inl rfl); clear H'; rw [h1, Res.bind_ok] at hR; clear h1)
    repeat' ((conv => whnf); first | ((with_reducible show Gd (bs _ == _) _ _); first | refine Gd.sY (by assumption) ?_ | refine Gd.sk (by assumption) ?_ | refine Gd.sN (by assumption) ?_) | ((conv => whnf); first | (((with_reducible show Gd ..); first | (with_reducible first | refine Gd.t ?_ | refine Gd.f ?_ | (first | apply Gd.dec | apply Gd.beq | apply Gd.bne) <;> intro _ | refine Gd.not ?_) | refine Gd.t ?_ | refine Gd.f ?_ | apply Gd.var <;> intro _) <;> try (exfalso; omega)) | with_reducible refine Sq.mk ?_ | ((with_reducible show Ld1 ..); first | refine Ld1.h H ?_ | refine Ld1.rF ?_ | refine Ld1.r ?_) | ((with_reducible show Ld ..); first | refine Ld.h H ?_ | refine Ld.r ?_) | ((with_reducible show Ix ..); first | refine Ix.h ?_ | refine Ix.ha ?_) | (refine Al.hp H ?_; clear H; intro _ _ H _) | (refine St.h H ?_; clear H; intro _ H)) | refine Sm.strix T.ok ?_)
    (((conv => whnf); refine Cl.mkX (take_c k_name src pr (ts3) wb _ (H.base2 HB) X.lo X.tb X.len (H.atC 3 rfl) (by decide)) ?_ ?_; rotate_left; (rintro ch w9 ⟨e9, p9, q9, h9, rfl, H'⟩; exact ⟨e9, p9, q9, (by rw [hR, h9]; rfl), rfl, Hp.pan H H' (.inl rfl)⟩)); rintro _ w8 ⟨t3, ts4, h1, rfl, H'⟩; replace H := H.upd (c := rdr src pr (ts3)) H' rfl (.inl rfl); clear H'; rw [h1, Res.bind_ok] at hR; clear h1)
    repeat' ((conv => whnf); first | ((with_reducible show Gd (bs _ == _) _ _); first | refine Gd.sY (by assumption) ?_ | refine Gd.sk (by assumption) ?_ | refine Gd.sN (by assumption) ?_) | ((conv => whnf); first | (((with_reducible show Gd ..); first | (with_reducible first | refine Gd.t ?_ | refine Gd.f ?_ | (first | apply Gd.dec | apply Gd.beq | apply Gd.bne) <;> intro _ | refine Gd.not ?_) | refine Gd.t ?_ | refine Gd.f ?_ | apply Gd.var <;> intro _) <;> try (exfalso; omega)) | with_reducible refine Sq.mk ?_ | ((with_reducible show Ld1 ..); first | refine Ld1.h H ?_ | refine Ld1.rF ?_ | refine Ld1.r ?_) | ((with_reducible show Ld ..); first | refine Ld.h H ?_ | refine Ld.r ?_) | ((with_reducible show Ix ..); first | refine Ix.h ?_ | refine Ix.ha ?_) | (refine Al.hp H ?_; clear H; intro _ _ H _) | (refine St.h H ?_; clear H; intro _ H)) | refine Sm.strix T.ok ?_)
    (((conv => whnf); refine Cl.mkX (take_c s_lp src pr (ts4) wb _ (H.base2 HB) X.lo X.tb X.len (H.atC 3 rfl) (by decide)) ?_ ?_; rotate_left; (rintro ch w9 ⟨e9, p9, q9, h9, rfl, H'⟩; exact ⟨e9, p9, q9, (by rw [hR, h9]; rfl), rfl, Hp.pan H H' (.inl rfl)⟩)); rintro _ w8 ⟨t4, ts5, h1, rfl, H'⟩; replace H := H.upd (c := rdr src pr (ts4)) H' rfl (.inl rfl); clear H'; rw [h1, Res.bind_ok] at hR; clear h1)
    repeat' ((conv => whnf); first | ((with_reducible show Gd (bs _ == _) _ _); first | refine Gd.sY (by assumption) ?_ | refine Gd.sk (by assumption) ?_ | refine Gd.sN (by assumption) ?_) | ((conv => whnf); first | (((with_reducible show Gd ..); first | (with_reducible first | refine Gd.t ?_ | refine Gd.f ?_ | (first | apply Gd.dec | apply Gd.beq | apply Gd.bne) <;> intro _ | refine Gd.not ?_) | refine Gd.t ?_ | refine Gd.f ?_ | apply Gd.var <;> intro _) <;> try (exfalso; omega)) | with_reducible refine Sq.mk ?_ | ((with_reducible show Ld1 ..); first | refine Ld1.h H ?_ | refine Ld1.rF ?_ | refine Ld1.r ?_) | ((with_reducible show Ld ..); first | refine Ld.h H ?_ | refine Ld.r ?_) | ((with_reducible show Ix ..); first | refine Ix.h ?_ | refine Ix.ha ?_) | (refine Al.hp H ?_; clear H; intro _ _ H _) | (refine St.h H ?_; clear H; intro _ H)) | refine Sm.strix T.ok ?_)
    ((conv => whnf); refine Cl.mkX (args_c X C d ts5 _ hd (H.base2 HB) (H.atC 3 rfl) (Res.bind_out (by rw [← hR]; exact hne))) ?_ ?_; rotate_left; (rintro ch w9 ⟨e9, p9, q9, h9, rfl, H'⟩; exact ⟨e9, p9, q9, (by rw [hR, h9]; rfl), rfl, Hp.pan H H' (.inl rfl)⟩))
    rintro _ w3 ⟨A, c, l, ts6, h2, rfl, hlen, H'⟩
    replace H' := Hp.trsN 5 0 0 t3.text [] H'
    replace H := H.updn (c := rdr src pr ts5) (Hp.swap H') rfl (.inl rfl) (.inl rfl)
    clear H'
    rw [h2, Res.bind_ok] at hR
    repeat' ((conv => whnf); first | ((with_reducible show Gd (bs _ == _) _ _); first | refine Gd.sY (by assumption) ?_ | refine Gd.sk (by assumption) ?_ | refine Gd.sN (by assumption) ?_) | ((conv => whnf); first | (((with_reducible show Gd ..); first | (with_reducible first | refine Gd.t ?_ | refine Gd.f ?_ | (first | apply Gd.dec | apply Gd.beq | apply Gd.bne) <;> intro _ | refine Gd.not ?_) | refine Gd.t ?_ | refine Gd.f ?_ | apply Gd.var <;> intro _) <;> try (exfalso; omega)) | with_reducible refine Sq.mk ?_ | ((with_reducible show Ld1 ..); first | refine Ld1.h H ?_ | refine Ld1.rF ?_ | refine Ld1.r ?_) | ((with_reducible show Ld ..); first | refine Ld.h H ?_ | refine Ld.r ?_) | ((with_reducible show Ix ..); first | refine Ix.h ?_ | refine Ix.ha ?_) | (refine Al.hp H ?_; clear H; intro _ _ H _) | (refine St.h H ?_; clear H; intro _ H)) | refine Sm.strix T.ok ?_)
    exact ⟨.mk 2 t1.text (.mk 5 0 0 t3.text [] A c l) none 0 [] none 0 [], ts6, hR, sm_v rfl, Hp.stsE 2 t1.text (H.sel [0, 3] rfl)⟩
  rw [if_neg c6] at hR
  by_cases c7 : t0.kind = k_let
  · rw [if_pos c7] at hR
    repeat' ((conv => whnf); first | ((with_reducible show Gd (bs _ == _) _ _); first | refine Gd.sY (by assumption) ?_ | refine Gd.sk (by assumption) ?_ | refine Gd.sN (by assumption) ?_) | ((conv => whnf); first | (((with_reducible show Gd ..); first | (with_reducible first | refine Gd.t ?_ | refine Gd.f ?_ | (first | apply Gd.dec | apply Gd.beq | apply Gd.bne) <;> intro _ | refine Gd.not ?_) | refine Gd.t ?_ | refine Gd.f ?_ | apply Gd.var <;> intro _) <;> try (exfalso; omega)) | with_reducible refine Sq.mk ?_ | ((with_reducible show Ld1 ..); first | refine Ld1.h H ?_ | refine Ld1.rF ?_ | refine Ld1.r ?_) | ((with_reducible show Ld ..); first | refine Ld.h H ?_ | refine Ld.r ?_) | ((with_reducible show Ix ..); first | refine Ix.h ?_ | refine Ix.ha ?_) | (refine Al.hp H ?_; clear H; intro _ _ H _) | (refine St.h H ?_; clear H; intro _ H)) | refine Sm.strix T.ok ?_)
    (((conv => whnf); refine Cl.mkX (take_c k_name src pr (ts1) wb _ (H.base2 HB) X.lo X.tb X.len (H.atC 2 rfl) (by decide)) ?_ ?_; rotate_left; (rintro ch w9 ⟨e9, p9, q9, h9, rfl, H'⟩; exact ⟨e9, p9, q9, (by rw [hR, h9]; rfl), rfl, Hp.pan H H' (.inl rfl)⟩)); rintro _ w8 ⟨t1, ts2, h1, rfl, H'⟩; replace H := H.upd (c := rdr src pr (ts1)) H' rfl (.inl rfl); clear H'; rw [h1, Res.bind_ok] at hR; clear h1)
    repeat' ((conv => whnf); first | ((with_reducible show Gd (bs _ == _) _ _); first | refine Gd.sY (by assumption) ?_ | refine Gd.sk (by assumption) ?_ | refine Gd.sN (by assumption) ?_) | ((conv => whnf); first | (((with_reducible show Gd ..); first | (with_reducible first | refine Gd.t ?_ | refine Gd.f ?_ | (first | apply Gd.dec | apply Gd.beq | apply Gd.bne) <;> intro _ | refine Gd.not ?_) | refine Gd.t ?_ | refine Gd.f ?_ | apply Gd.var <;> intro _) <;> try (exfalso; omega)) | with_reducible refine Sq.mk ?_ | ((with_reducible show Ld1 ..); first | refine Ld1.h H ?_ | refine Ld1.rF ?_ | refine Ld1.r ?_) | ((with_reducible show Ld ..); first | refine Ld.h H ?_ | refine Ld.r ?_) | ((with_reducible show Ix ..); first | refine Ix.h ?_ | refine Ix.ha ?_) | (refine St.h H ?_; clear H; intro _ H)) | refine Sm.strix T.ok ?_)
    ((conv => whnf); refine Al.hp H ?_; clear H; intro p6 _ H _)
    repeat' ((conv => whnf); first | ((with_reducible show Gd (bs _ == _) _ _); first | refine Gd.sY (by assumption) ?_ | refine Gd.sk (by assumption) ?_ | refine Gd.sN (by assumption) ?_) | ((conv => whnf); first | (((with_reducible show Gd ..); first | (with_reducible first | refine Gd.t ?_ | refine Gd.f ?_ | (first | apply Gd.dec | apply Gd.beq | apply Gd.bne) <;> intro _ | refine Gd.not ?_) | refine Gd.t ?_ | refine Gd.f ?_ | apply Gd.var <;> intro _) <;> try (exfalso; omega)) | with_reducible refine Sq.mk ?_ | ((with_reducible show Ld1 ..); first | refine Ld1.h H ?_ | refine Ld1.rF ?_ | refine Ld1.r ?_) | ((with_reducible show Ld ..); first | refine Ld.h H ?_ | refine Ld.r ?_) | ((with_reducible show Ix ..); first | refine Ix.h ?_ | refine Ix.ha ?_) | (refine Al.hp H ?_; clear H; intro _ _ H _) | (refine St.h H ?_; clear H; intro _ H)) | refine Sm.strix T.ok ?_)
    (((conv => whnf); refine Cl.mkX (take_c s_asg src pr (ts2) wb _ (H.base2 HB) X.lo X.tb X.len (H.atC 3 rfl) (by decide)) ?_ ?_; rotate_left; (rintro ch w9 ⟨e9, p9, q9, h9, rfl, H'⟩; exact ⟨e9, p9, q9, (by rw [hR, h9]; rfl), rfl, Hp.pan H H' (.inl rfl)⟩)); rintro _ w8 ⟨t2, ts3, h1, rfl, H'⟩; replace H := H.upd (c := rdr src pr (ts2)) H' rfl (.inl rfl); clear H'; rw [h1, Res.bind_ok] at hR; clear h1)
    repeat' ((conv => whnf); first | ((with_reducible show Gd (bs _ == _) _ _); first | refine Gd.sY (by assumption) ?_ | refine Gd.sk (by assumption) ?_ | refine Gd.sN (by assumption) ?_) | ((conv => whnf); first | (((with_reducible show Gd ..); first | (with_reducible first | refine Gd.t ?_ | refine Gd.f ?_ | (first | apply Gd.dec | apply Gd.beq | apply Gd.bne) <;> intro _ | refine Gd.not ?_) | refine Gd.t ?_ | refine Gd.f ?_ | apply Gd.var <;> intro _) <;> try (exfalso; omega)) | with_reducible refine Sq.mk ?_ | ((with_reducible show Ld1 ..); first | refine Ld1.h H ?_ | refine Ld1.rF ?_ | refine Ld1.r ?_) | ((with_reducible show Ld ..); first | refine Ld.h H ?_ | refine Ld.r ?_) | ((with_reducible show Ix ..); first | refine Ix.h ?_ | refine Ix.ha ?_) | (refine Al.hp H ?_; clear H; intro _ _ H _) | (refine St.h H ?_; clear H; intro _ H)) | refine Sm.strix T.ok ?_)
    ((conv => whnf); refine Cl.mkX (C.expr 0 d ts3 _ (by omega) hd (H.base2 HB) (H.atC 3 rfl) (Res.bind_out (by rw [← hR]; exact hne))) ?_ ?_; rotate_left; (rintro ch w9 ⟨e9, p9, q9, h9, rfl, H'⟩; exact ⟨e9, p9, q9, (by rw [hR, h9]; rfl), rfl, Hp.pan H H' (.inl rfl)⟩))
    rintro _ w3 ⟨⟨kd, o, n, nm, cb, A2, c2, l2⟩, ts4, h2, rfl, H'⟩
    replace H := H.updn (c := rdr src pr ts3) (Hp.swap H') rfl (.inl rfl) (.inl rfl)
    clear H'
    rw [h2, Res.bind_ok] at hR
    repeat' ((conv => whnf); first | ((with_reducible show Gd (bs _ == _) _ _); first | refine Gd.sY (by assumption) ?_ | refine Gd.sk (by assumption) ?_ | refine Gd.sN (by assumption) ?_) | ((conv => whnf); first | (((with_reducible show Gd ..); first | (with_reducible first | refine Gd.t ?_ | refine Gd.f ?_ | (first | apply Gd.dec | apply Gd.beq | apply Gd.bne) <;> intro _ | refine Gd.not ?_) | refine Gd.t ?_ | refine Gd.f ?_ | apply Gd.var <;> intro _) <;> try (exfalso; omega)) | with_reducible refine Sq.mk ?_ | ((with_reducible show Ld1 ..); first | refine Ld1.h H ?_ | refine Ld1.rF ?_ | refine Ld1.r ?_) | ((with_reducible show Ld ..); first | refine Ld.h H ?_ | refine Ld.r ?_) | ((with_reducible show Ix ..); first | refine Ix.h ?_ | refine Ix.ha ?_) | (refine Al.hp H ?_; clear H; intro _ _ H _) | (refine St.h H ?_; clear H; intro _ H)) | refine Sm.strix T.ok ?_)
    exact ⟨.mk 0 t1.text (.mk kd o n nm cb A2 c2 l2) none 0 [] none 0 [], ts4, hR, sm_v rfl, Hp.stsE 0 t1.text (H.sel [0, 3] rfl)⟩
  rw [if_neg c7] at hR
  repeat' ((conv => whnf); first | ((with_reducible show Gd (bs _ == _) _ _); first | refine Gd.sY (by assumption) ?_ | refine Gd.sk (by assumption) ?_ | refine Gd.sN (by assumption) ?_) | ((conv => whnf); first | (((with_reducible show Gd ..); first | (with_reducible first | refine Gd.t ?_ | refine Gd.f ?_ | (first | apply Gd.dec | apply Gd.beq | apply Gd.bne) <;> intro _ | refine Gd.not ?_) | refine Gd.t ?_ | refine Gd.f ?_ | apply Gd.var <;> intro _) <;> try (exfalso; omega)) | with_reducible refine Sq.mk ?_ | ((with_reducible show Ld1 ..); first | refine Ld1.h H ?_ | refine Ld1.rF ?_ | refine Ld1.r ?_) | ((with_reducible show Ld ..); first | refine Ld.h H ?_ | refine Ld.r ?_) | ((with_reducible show Ix ..); first | refine Ix.h ?_ | refine Ix.ha ?_) | (refine Al.hp H ?_; clear H; intro _ _ H _) | (refine St.h H ?_; clear H; intro _ H)) | refine Sm.strix T.ok ?_)
  (((conv => whnf); refine Cl.mkX (take_c s_asg src pr (ts1) wb _ (H.base2 HB) X.lo X.tb X.len (H.atC 2 rfl) (by decide)) ?_ ?_; rotate_left; (rintro ch w9 ⟨e9, p9, q9, h9, rfl, H'⟩; exact ⟨e9, p9, q9, (by rw [hR, h9]; rfl), rfl, Hp.pan H H' (.inl rfl)⟩)); rintro _ w8 ⟨t2, ts3, h1, rfl, H'⟩; replace H := H.upd (c := rdr src pr (ts1)) H' rfl (.inl rfl); clear H'; rw [h1, Res.bind_ok] at hR; clear h1)
  repeat' ((conv => whnf); first | ((with_reducible show Gd (bs _ == _) _ _); first | refine Gd.sY (by assumption) ?_ | refine Gd.sk (by assumption) ?_ | refine Gd.sN (by assumption) ?_) | ((conv => whnf); first | (((with_reducible show Gd ..); first | (with_reducible first | refine Gd.t ?_ | refine Gd.f ?_ | (first | apply Gd.dec | apply Gd.beq | apply Gd.bne) <;> intro _ | refine Gd.not ?_) | refine Gd.t ?_ | refine Gd.f ?_ | apply Gd.var <;> intro _) <;> try (exfalso; omega)) | with_reducible refine Sq.mk ?_ | ((with_reducible show Ld1 ..); first | refine Ld1.h H ?_ | refine Ld1.rF ?_ | refine Ld1.r ?_) | ((with_reducible show Ld ..); first | refine Ld.h H ?_ | refine Ld.r ?_) | ((with_reducible show Ix ..); first | refine Ix.h ?_ | refine Ix.ha ?_) | (refine Al.hp H ?_; clear H; intro _ _ H _) | (refine St.h H ?_; clear H; intro _ H)) | refine Sm.strix T.ok ?_)
  (conv => whnf)
  refine Dr.chX T.ok mixed [0, 1, 2, 3] [4, 5, 6] (by kernel_rfl) rfl rfl (fun w' => Blk w' p5 66 (wordCs t0)) (PanX R pr w) (fun ch F' w' hds h => by (conv => whnf); rw [show F'.ds = [] from hds]; exact h) (fun w1 eT _ => ?_)
  replace H := H.ext eT
  repeat' ((conv => whnf); refine QLd1.own (fun _ hw => hw) ?_)
  (conv => whnf)
  refine ⟨H.blk 0 rfl, ?_⟩
  ((conv => whnf); refine Cl.mkX (C.expr 0 d ts3 _ (by omega) hd (H.base2 HB) (H.atC 2 rfl) (Res.bind_out (by rw [← hR]; exact hne))) ?_ ?_; rotate_left; (rintro ch w9 ⟨e9, p9, q9, h9, rfl, H'⟩; exact ⟨e9, p9, q9, (by rw [hR, h9]; rfl), rfl, Hp.pan H H' (.inl rfl)⟩))
  rintro _ w3 ⟨⟨kd, o, n, nm, cb, A2, c2, l2⟩, ts4, h2, rfl, H'⟩
  replace H := H.updn (c := rdr src pr ts3) (Hp.swap H') rfl (.inl rfl) (.inl rfl)
  clear H'
  rw [h2, Res.bind_ok] at hR
  (conv => whnf)
  refine ⟨H.blk 1 rfl, ?_⟩
  repeat' (first | refine ⟨H.blk 1 rfl, ?_⟩ | ((conv => whnf); first | ((with_reducible show Gd (bs _ == _) _ _); first | refine Gd.sY (by assumption) ?_ | refine Gd.sk (by assumption) ?_ | refine Gd.sN (by assumption) ?_) | ((conv => whnf); first | (((with_reducible show Gd ..); first | (with_reducible first | refine Gd.t ?_ | refine Gd.f ?_ | (first | apply Gd.dec | apply Gd.beq | apply Gd.bne) <;> intro _ | refine Gd.not ?_) | refine Gd.t ?_ | refine Gd.f ?_ | apply Gd.var <;> intro _) <;> try (exfalso; omega)) | with_reducible refine Sq.mk ?_ | ((with_reducible show Ld1 ..); first | refine Ld1.h H ?_ | refine Ld1.rF ?_ | refine Ld1.r ?_) | ((with_reducible show Ld ..); first | refine Ld.h H ?_ | refine Ld.r ?_) | ((with_reducible show Ix ..); first | refine Ix.h ?_ | refine Ix.ha ?_) | (refine Al.hp H ?_; clear H; intro _ _ H _) | (refine St.h H ?_; clear H; intro _ H)) | refine Sm.strix T.ok ?_))
  exact ⟨.mk 1 t0.text (.mk kd o n nm cb A2 c2 l2) none 0 [] none 0 [], ts4, hR, sm_v rfl, Hp.stsE 1 t0.text (H.sel [0, 2] rfl)⟩
end
end Go.Proofs.YtfnjodpehomgfaaGreatDoor
namespace Go.Proofs.YtfnjodpehomgfaaGreatDoor
open Go Go.Sh Go.Tx
attribute [local irreducible] Blk Ext RdS
def plainQ (F : PF) (d : Nat) (t0 : Tk) (ts : List Tk) : Res St :=
  if t0.kind = k_sync then .ok (.mk 3 [] .zero [] []) ts
  else if t0.kind = k_break then .ok (.mk 8 [] .zero [] []) ts
  else if t0.kind = k_continue then .ok (.mk 9 [] .zero [] []) ts
  else if t0.kind = k_do then (F.expr 0 d ts).bind fun e ts1 => .ok (.mk 6 [] e [] []) ts1
  else if t0.kind = k_return then (F.expr 0 d ts).bind fun e ts1 => .ok (.mk 7 [] e [] []) ts1
  else if t0.kind = k_spawn then (takeP k_name ts).bind fun n ts1 => (takeP s_asg ts1).bind fun _ ts2 => (takeP k_name ts2).bind fun f ts3 => (takeP s_lp ts3).bind fun _ ts4 => (argsP F d (ts4.length + 1) [] ts4).bind fun l ts5 => .ok (.mk 2 n.text (.mk 5 0 0 f.text [] l) [] []) ts5
  else if t0.kind = k_let then (takeP k_name ts).bind fun n ts1 => (takeP s_asg ts1).bind fun _ ts2 => (F.expr 0 d ts2).bind fun e ts3 => .ok (.mk 0 n.text e [] []) ts3
  else (takeP s_asg ts).bind fun _ ts1 => (F.expr 0 d ts1).bind fun e ts2 => .ok (.mk 1 t0.text e [] []) ts2
theorem plain_Q (F : PF) (d : Nat) (t0 : Tk) (r0 : List Tk) : plainP F d (t0 :: r0) = (stepP false (t0 :: r0)).bind fun _ ts => plainQ F d t0 ts := rfl
section
variable {src : Bs} {ws : List Tk} {A : Option Addr} {cw pr : Nat} {wb : World}
variable (Y : RY src ws A cw pr wb) {F : PF} (C : RCon src ws A cw pr wb F)
include Y C
set_option maxHeartbeats 8000000 in
theorem plain_r (R0 : Res Unit) (d : Nat) (t0 : Tk) (s : RS) (w : World) (hd : d ≤ 41) (hwb : Ext wb w) (h : RdQ ws A cw pr s w) (ha : AtR R0 s) (hrk : rKind t0 = t0.kind) (herr : t0.err = 0) (hbg : beginsB t0.kind = true) (hni : t0.kind ≠ k_if) (hnw : t0.kind ≠ k_while) (hne : (R0.bind fun _ ts => plainQ F d t0 ts) ≠ .out) :
    Cl Tryz.prog 107 #[.pointer (some ⟨pr, 0, none⟩), .agg (rwE src t0).toArray, .int .i64 (d : Int)] w (OkRS ws A cw pr id (R0.bind fun _ ts => plainQ F d t0 ts) w) (fun _ _ => False) := by
  have X := Y.x
  have HB := X.ok hwb
  have htx : rText src t0 = t0.text := by unfold rText; rw [if_neg (by rw [herr]; decide)]
  obtain ⟨R, hR⟩ : ∃ R, R = R0.bind fun _ ts => plainQ F d t0 ts := ⟨_, rfl⟩
  rw [← hR] at hne ⊢
  refine calls_ex (args := [.pointer (some ⟨pr, 0, none⟩), .agg (rwE src t0).toArray, .int .i64 (d : Int)]) T.ok Tryz.func107 rfl rfl rfl rfl ?_
  have H := Hp.start (S := (· = pr)) (rq_ok h) (fun k hk => hk)
  clear h
  refine Sq.mk ?_
  ((conv => whnf); refine Al.hp H ?_; clear H; intro p4 _ H _)
  ((conv => whnf); refine Al.hp H ?_; clear H; intro p6 _ H _)
  by_cases c7 : t0.kind = k_let
  · have q := hrk.trans c7
    replace hR : R = (((R0.and fun _ ts => takeP k_name ts).and fun _ ts => takeP s_asg ts).and fun _ ts => F.expr 0 d ts).map (fun p => .mk 0 p.1.1.2.text p.2 [] []) := by
      rw [hR]
      simp only [Res.map, Res.and_bind, plainQ]
      rw [c7]; rfl
    repeat' ((conv => whnf); first | ((with_reducible show Gd (bs _ == _) _ _); first | refine Gd.sY (by assumption) ?_ | refine Gd.sk (by assumption) ?_ | refine Gd.sN (by assumption) ?_) | ((conv => whnf); first | (((with_reducible show Gd ..); first | (with_reducible first | refine Gd.t ?_ | refine Gd.f ?_ | (first | apply Gd.dec | apply Gd.beq | apply Gd.bne) <;> intro _ | refine Gd.not ?_) | refine Gd.t ?_ | refine Gd.f ?_ | apply Gd.var <;> intro _) <;> try (exfalso; omega)) | with_reducible refine Sq.mk ?_ | ((with_reducible show Ld1 ..); first | refine Ld1.h H ?_ | refine Ld1.rF ?_ | refine Ld1.r ?_) | ((with_reducible show Ld ..); first | refine Ld.h H ?_ | refine Ld.r ?_) | ((with_reducible show Ix ..); first | refine Ix.h ?_ | refine Ix.ha ?_) | (refine St.h H ?_; clear H; intro _ H)) | refine Sm.strix T.ok ?_)
    (((conv => whnf); refine Cl.mk (takeRR Y C k_name (R0) s _ (H.base2 HB) (H.atC 2 rfl) ha (by decide) (by decide) (by decide)) ?_); rintro _ w3 ⟨kd_, pp_, tx1, ee_, s1, rfl, ha1, hv1, H'⟩; replace H := H.upd (c := rq ws A cw pr s) H' rfl (.inl rfl); clear H')
    ((conv => whnf); refine Al.hp H ?_; clear H; intro p7 _ H _)
    repeat' ((conv => whnf); first | ((with_reducible show Gd (bs _ == _) _ _); first | refine Gd.sY (by assumption) ?_ | refine Gd.sk (by assumption) ?_ | refine Gd.sN (by assumption) ?_) | ((conv => whnf); first | (((with_reducible show Gd ..); first | (with_reducible first | refine Gd.t ?_ | refine Gd.f ?_ | (first | apply Gd.dec | apply Gd.beq | apply Gd.bne) <;> intro _ | refine Gd.not ?_) | refine Gd.t ?_ | refine Gd.f ?_ | apply Gd.var <;> intro _) <;> try (exfalso; omega)) | with_reducible refine Sq.mk ?_ | ((with_reducible show Ld1 ..); first | refine Ld1.h H ?_ | refine Ld1.rF ?_ | refine Ld1.r ?_) | ((with_reducible show Ld ..); first | refine Ld.h H ?_ | refine Ld.r ?_) | ((with_reducible show Ix ..); first | refine Ix.h ?_ | refine Ix.ha ?_) | (refine St.h H ?_; clear H; intro _ H)) | refine Sm.strix T.ok ?_)
    (((conv => whnf); refine Cl.mk (takeRR Y C s_asg ((R0.and fun _ ts => takeP k_name ts)) s1 _ (H.base2 HB) (H.atC 3 rfl) ha1 (by decide) (by decide) (by decide)) ?_); rintro _ w3 ⟨kd_, pp_, tx2, ee_, s2, rfl, ha2, hv2, H'⟩; replace H := H.upd (c := rq ws A cw pr s1) H' rfl (.inl rfl); clear H')
    repeat' ((conv => whnf); first | ((with_reducible show Gd (bs _ == _) _ _); first | refine Gd.sY (by assumption) ?_ | refine Gd.sk (by assumption) ?_ | refine Gd.sN (by assumption) ?_) | ((conv => whnf); first | (((with_reducible show Gd ..); first | (with_reducible first | refine Gd.t ?_ | refine Gd.f ?_ | (first | apply Gd.dec | apply Gd.beq | apply Gd.bne) <;> intro _ | refine Gd.not ?_) | refine Gd.t ?_ | refine Gd.f ?_ | apply Gd.var <;> intro _) <;> try (exfalso; omega)) | with_reducible refine Sq.mk ?_ | ((with_reducible show Ld1 ..); first | refine Ld1.h H ?_ | refine Ld1.rF ?_ | refine Ld1.r ?_) | ((with_reducible show Ld ..); first | refine Ld.h H ?_ | refine Ld.r ?_) | ((with_reducible show Ix ..); first | refine Ix.h ?_ | refine Ix.ha ?_) | (refine St.h H ?_; clear H; intro _ H)) | refine Sm.strix T.ok ?_)
    (((conv => whnf); refine Cl.mk (exprR Y C ((R0.and fun _ ts => takeP k_name ts).and fun _ ts => takeP s_asg ts) 0 d s2 _ (by omega) hd (H.base2 HB) (H.atC 3 rfl) ha2 (Res.map_out (g := (fun p => Go.Tx.St.mk 0 p.1.1.2.text p.2 [] [])) (by rw [← hR]; exact hne))) ?_); rintro _ w3 ⟨⟨kd, o, n, nm, cb, B, c, l⟩, s3, rfl, ha3, hv3, H'⟩; replace H := H.updn (c := rq ws A cw pr s2) (Hp.swap H') rfl (.inl rfl) (.inl rfl); clear H')
    ((conv => whnf); refine Al.hp H ?_; clear H; intro p8 _ H _)
    repeat' ((conv => whnf); first | ((with_reducible show Gd (bs _ == _) _ _); first | refine Gd.sY (by assumption) ?_ | refine Gd.sk (by assumption) ?_ | refine Gd.sN (by assumption) ?_) | ((conv => whnf); first | (((with_reducible show Gd ..); first | (with_reducible first | refine Gd.t ?_ | refine Gd.f ?_ | (first | apply Gd.dec | apply Gd.beq | apply Gd.bne) <;> intro _ | refine Gd.not ?_) | refine Gd.t ?_ | refine Gd.f ?_ | apply Gd.var <;> intro _) <;> try (exfalso; omega)) | with_reducible refine Sq.mk ?_ | ((with_reducible show Ld1 ..); first | refine Ld1.h H ?_ | refine Ld1.rF ?_ | refine Ld1.r ?_) | ((with_reducible show Ld ..); first | refine Ld.h H ?_ | refine Ld.r ?_) | ((with_reducible show Ix ..); first | refine Ix.h ?_ | refine Ix.ha ?_) | (refine St.h H ?_; clear H; intro _ H)) | refine Sm.strix T.ok ?_)
    refine ⟨.mk 0 tx1 (.mk kd o n nm cb B c l) none 0 [] none 0 [], s3, sm_v rfl, by rw [hR]; exact ha3.map _, ?_, Hp.stsE 0 tx1 (H.sel [1, 4] rfl)⟩
    rw [hR]
    refine Vl.map (Vl.mono2 hv3 (Vl.fst (Vl.fst hv1)) fun a h1 h2 => ?_)
    simp only [SM.e, SM.es, id]
    rw [h1, h2]
  by_cases c6 : t0.kind = k_spawn
  · have q := hrk.trans c6
    replace hR : R = (((((R0.and fun _ ts => takeP k_name ts).and fun _ ts => takeP s_asg ts).and fun _ ts => takeP k_name ts).and fun _ ts => takeP s_lp ts).and fun _ ts => argsP F d (ts.length + 1) [] ts).map (fun p => .mk 2 p.1.1.1.1.2.text (.mk 5 0 0 p.1.1.2.text [] p.2) [] []) := by
      rw [hR]
      simp only [Res.map, Res.and_bind, plainQ]
      rw [c6]; rfl
    repeat' ((conv => whnf); first | ((with_reducible show Gd (bs _ == _) _ _); first | refine Gd.sY (by assumption) ?_ | refine Gd.sk (by assumption) ?_ | refine Gd.sN (by assumption) ?_) | ((conv => whnf); first | (((with_reducible show Gd ..); first | (with_reducible first | refine Gd.t ?_ | refine Gd.f ?_ | (first | apply Gd.dec | apply Gd.beq | apply Gd.bne) <;> intro _ | refine Gd.not ?_) | refine Gd.t ?_ | refine Gd.f ?_ | apply Gd.var <;> intro _) <;> try (exfalso; omega)) | with_reducible refine Sq.mk ?_ | ((with_reducible show Ld1 ..); first | refine Ld1.h H ?_ | refine Ld1.rF ?_ | refine Ld1.r ?_) | ((with_reducible show Ld ..); first | refine Ld.h H ?_ | refine Ld.r ?_) | ((with_reducible show Ix ..); first | refine Ix.h ?_ | refine Ix.ha ?_) | (refine St.h H ?_; clear H; intro _ H)) | refine Sm.strix T.ok ?_)
    (((conv => whnf); refine Cl.mk (takeRR Y C k_name (R0) s _ (H.base2 HB) (H.atC 2 rfl) ha (by decide) (by decide) (by decide)) ?_); rintro _ w3 ⟨kd_, pp_, tx1, ee_, s1, rfl, ha1, hv1, H'⟩; replace H := H.upd (c := rq ws A cw pr s) H' rfl (.inl rfl); clear H')
    ((conv => whnf); refine Al.hp H ?_; clear H; intro p7 _ H _)
    repeat' ((conv => whnf); first | ((with_reducible show Gd (bs _ == _) _ _); first | refine Gd.sY (by assumption) ?_ | refine Gd.sk (by assumption) ?_ | refine Gd.sN (by assumption) ?_) | ((conv => whnf); first | (((with_reducible show Gd ..); first | (with_reducible first | refine Gd.t ?_ | refine Gd.f ?_ | (first | apply Gd.dec | apply Gd.beq | apply Gd.bne) <;> intro _ | refine Gd.not ?_) | refine Gd.t ?_ | refine Gd.f ?_ | apply Gd.var <;> intro _) <;> try (exfalso; omega)) | with_reducible refine Sq.mk ?_ | ((with_reducible show Ld1 ..); first | refine Ld1.h H ?_ | refine Ld1.rF ?_ | refine Ld1.r ?_) | ((with_reducible show Ld ..); first | refine Ld.h H ?_ | refine Ld.r ?_) | ((with_reducible show Ix ..); first | refine Ix.h ?_ | refine Ix.ha ?_) | (refine St.h H ?_; clear H; intro _ H)) | refine Sm.strix T.ok ?_)
    (((conv => whnf); refine Cl.mk (takeRR Y C s_asg ((R0.and fun _ ts => takeP k_name ts)) s1 _ (H.base2 HB) (H.atC 3 rfl) ha1 (by decide) (by decide) (by decide)) ?_); rintro _ w3 ⟨kd_, pp_, tx2, ee_, s2, rfl, ha2, hv2, H'⟩; replace H := H.upd (c := rq ws A cw pr s1) H' rfl (.inl rfl); clear H')
    repeat' ((conv => whnf); first | ((with_reducible show Gd (bs _ == _) _ _); first | refine Gd.sY (by assumption) ?_ | refine Gd.sk (by assumption) ?_ | refine Gd.sN (by assumption) ?_) | ((conv => whnf); first | (((with_reducible show Gd ..); first | (with_reducible first | refine Gd.t ?_ | refine Gd.f ?_ | (first | apply Gd.dec | apply Gd.beq | apply Gd.bne) <;> intro _ | refine Gd.not ?_) | refine Gd.t ?_ | refine Gd.f ?_ | apply Gd.var <;> intro _) <;> try (exfalso; omega)) | with_reducible refine Sq.mk ?_ | ((with_reducible show Ld1 ..); first | refine Ld1.h H ?_ | refine Ld1.rF ?_ | refine Ld1.r ?_) | ((with_reducible show Ld ..); first | refine Ld.h H ?_ | refine Ld.r ?_) | ((with_reducible show Ix ..); first | refine Ix.h ?_ | refine Ix.ha ?_) | (refine St.h H ?_; clear H; intro _ H)) | refine Sm.strix T.ok ?_)
    (((conv => whnf); refine Cl.mk (takeRR Y C k_name (((R0.and fun _ ts => takeP k_name ts).and fun _ ts => takeP s_asg ts)) s2 _ (H.base2 HB) (H.atC 3 rfl) ha2 (by decide) (by decide) (by decide)) ?_); rintro _ w3 ⟨kd_, pp_, tx3, ee_, s3, rfl, ha3, hv3, H'⟩; replace H := H.upd (c := rq ws A cw pr s2) H' rfl (.inl rfl); clear H')
    ((conv => whnf); refine Al.hp H ?_; clear H; intro p8 _ H _)
    repeat' ((conv => whnf); first | ((with_reducible show Gd (bs _ == _) _ _); first | refine Gd.sY (by assumption) ?_ | refine Gd.sk (by assumption) ?_ | refine Gd.sN (by assumption) ?_) | ((conv => whnf); first | (((with_reducible show Gd ..); first | (with_reducible first | refine Gd.t ?_ | refine Gd.f ?_ | (first | apply Gd.dec | apply Gd.beq | apply Gd.bne) <;> intro _ | refine Gd.not ?_) | refine Gd.t ?_ | refine Gd.f ?_ | apply Gd.var <;> intro _) <;> try (exfalso; omega)) | with_reducible refine Sq.mk ?_ | ((with_reducible show Ld1 ..); first | refine Ld1.h H ?_ | refine Ld1.rF ?_ | refine Ld1.r ?_) | ((with_reducible show Ld ..); first | refine Ld.h H ?_ | refine Ld.r ?_) | ((with_reducible show Ix ..); first | refine Ix.h ?_ | refine Ix.ha ?_) | (refine St.h H ?_; clear H; intro _ H)) | refine Sm.strix T.ok ?_)
    (((conv => whnf); refine Cl.mk (takeRR Y C s_lp ((((R0.and fun _ ts => takeP k_name ts).and fun _ ts => takeP s_asg ts).and fun _ ts => takeP k_name ts)) s3 _ (H.base2 HB) (H.atC 4 rfl) ha3 (by decide) (by decide) (by decide)) ?_); rintro _ w3 ⟨kd_, pp_, tx4, ee_, s4, rfl, ha4, hv4, H'⟩; replace H := H.upd (c := rq ws A cw pr s3) H' rfl (.inl rfl); clear H')
    repeat' ((conv => whnf); first | ((with_reducible show Gd (bs _ == _) _ _); first | refine Gd.sY (by assumption) ?_ | refine Gd.sk (by assumption) ?_ | refine Gd.sN (by assumption) ?_) | ((conv => whnf); first | (((with_reducible show Gd ..); first | (with_reducible first | refine Gd.t ?_ | refine Gd.f ?_ | (first | apply Gd.dec | apply Gd.beq | apply Gd.bne) <;> intro _ | refine Gd.not ?_) | refine Gd.t ?_ | refine Gd.f ?_ | apply Gd.var <;> intro _) <;> try (exfalso; omega)) | with_reducible refine Sq.mk ?_ | ((with_reducible show Ld1 ..); first | refine Ld1.h H ?_ | refine Ld1.rF ?_ | refine Ld1.r ?_) | ((with_reducible show Ld ..); first | refine Ld.h H ?_ | refine Ld.r ?_) | ((with_reducible show Ix ..); first | refine Ix.h ?_ | refine Ix.ha ?_) | (refine St.h H ?_; clear H; intro _ H)) | refine Sm.strix T.ok ?_)
    ((conv => whnf); refine Cl.mk (args_r Y C ((((R0.and fun _ ts => takeP k_name ts).and fun _ ts => takeP s_asg ts).and fun _ ts => takeP k_name ts).and fun _ ts => takeP s_lp ts) d s4 _ hd (H.base2 HB) (H.atC 4 rfl) ha4 (Res.map_out (by rw [← hR]; exact hne))) ?_)
    rintro _ w4 ⟨B, c, l, s6, rfl, ha6, hv6, hlen, H'⟩
    replace H' := Hp.trsN 5 0 0 tx3 [] H'
    replace H := H.updn (c := rq ws A cw pr s4) (Hp.swap H') rfl (.inl rfl) (.inl rfl)
    clear H'
    repeat' ((conv => whnf); first | ((with_reducible show Gd (bs _ == _) _ _); first | refine Gd.sY (by assumption) ?_ | refine Gd.sk (by assumption) ?_ | refine Gd.sN (by assumption) ?_) | ((conv => whnf); first | (((with_reducible show Gd ..); first | (with_reducible first | refine Gd.t ?_ | refine Gd.f ?_ | (first | apply Gd.dec | apply Gd.beq | apply Gd.bne) <;> intro _ | refine Gd.not ?_) | refine Gd.t ?_ | refine Gd.f ?_ | apply Gd.var <;> intro _) <;> try (exfalso; omega)) | with_reducible refine Sq.mk ?_ | ((with_reducible show Ld1 ..); first | refine Ld1.h H ?_ | refine Ld1.rF ?_ | refine Ld1.r ?_) | ((with_reducible show Ld ..); first | refine Ld.h H ?_ | refine Ld.r ?_) | ((with_reducible show Ix ..); first | refine Ix.h ?_ | refine Ix.ha ?_) | (refine St.h H ?_; clear H; intro _ H)) | refine Sm.strix T.ok ?_)
    refine ⟨.mk 2 tx1 (.mk 5 0 0 tx3 [] B c l) none 0 [] none 0 [], s6, sm_v rfl, by rw [hR]; exact ha6.map _, ?_, Hp.stsE 2 tx1 (H.sel [0, 4] rfl)⟩
    rw [hR]
    refine Vl.map (Vl.mono2 (Vl.mono2 hv6 (Vl.fst (Vl.fst (Vl.fst (Vl.fst hv1)))) fun a h1 h2 => And.intro h1 h2) (Vl.fst (Vl.fst hv3)) fun a h1 h2 => ?_)
    simp only [SM.e, SM.es, ET.e, id]
    rw [h1.1, h1.2, h2]
  have n7 : ¬ rKind t0 = k_let := fun h => c7 (hrk.symm.trans h)
  have n6 : ¬ rKind t0 = k_spawn := fun h => c6 (hrk.symm.trans h)
  by_cases c1 : t0.kind = k_sync
  · have q := hrk.trans c1
    replace hR : R = R0.map (fun _ => .mk 3 [] .zero [] []) := by
      rw [hR]
      simp only [Res.map, plainQ]
      rw [c1]; rfl
    repeat' ((conv => whnf); first | ((with_reducible show Gd (bs _ == _) _ _); first | refine Gd.sY (by assumption) ?_ | refine Gd.sk (by assumption) ?_ | refine Gd.sN (by assumption) ?_) | ((conv => whnf); first | (((with_reducible show Gd ..); first | (with_reducible first | refine Gd.t ?_ | refine Gd.f ?_ | (first | apply Gd.dec | apply Gd.beq | apply Gd.bne) <;> intro _ | refine Gd.not ?_) | refine Gd.t ?_ | refine Gd.f ?_ | apply Gd.var <;> intro _) <;> try (exfalso; omega)) | with_reducible refine Sq.mk ?_ | ((with_reducible show Ld1 ..); first | refine Ld1.h H ?_ | refine Ld1.rF ?_ | refine Ld1.r ?_) | ((with_reducible show Ld ..); first | refine Ld.h H ?_ | refine Ld.r ?_) | ((with_reducible show Ix ..); first | refine Ix.h ?_ | refine Ix.ha ?_) | (refine St.h H ?_; clear H; intro _ H)) | refine Sm.strix T.ok ?_)
    refine ⟨.mk 3 [] (.mk 0 0 0 [] [] none 0 []) none 0 [] none 0 [], s, sm_v rfl, by rw [hR]; exact ha.map _, ?_, Hp.stsE 3 [] (Hp.trsZ 0 0 0 [] [] (H.sel [2] rfl))⟩
    rw [hR]
    exact Vl.map (g := fun _ => Go.Tx.St.mk 3 [] .zero [] []) (fun _ _ _ => rfl)
  have n1 : ¬ rKind t0 = k_sync := fun h => c1 (hrk.symm.trans h)
  by_cases c2 : t0.kind = k_break
  · have q := hrk.trans c2
    replace hR : R = R0.map (fun _ => .mk 8 [] .zero [] []) := by
      rw [hR]
      simp only [Res.map, plainQ]
      rw [c2]; rfl
    repeat' ((conv => whnf); first | ((with_reducible show Gd (bs _ == _) _ _); first | refine Gd.sY (by assumption) ?_ | refine Gd.sk (by assumption) ?_ | refine Gd.sN (by assumption) ?_) | ((conv => whnf); first | (((with_reducible show Gd ..); first | (with_reducible first | refine Gd.t ?_ | refine Gd.f ?_ | (first | apply Gd.dec | apply Gd.beq | apply Gd.bne) <;> intro _ | refine Gd.not ?_) | refine Gd.t ?_ | refine Gd.f ?_ | apply Gd.var <;> intro _) <;> try (exfalso; omega)) | with_reducible refine Sq.mk ?_ | ((with_reducible show Ld1 ..); first | refine Ld1.h H ?_ | refine Ld1.rF ?_ | refine Ld1.r ?_) | ((with_reducible show Ld ..); first | refine Ld.h H ?_ | refine Ld.r ?_) | ((with_reducible show Ix ..); first | refine Ix.h ?_ | refine Ix.ha ?_) | (refine St.h H ?_; clear H; intro _ H)) | refine Sm.strix T.ok ?_)
    refine ⟨.mk 8 [] (.mk 0 0 0 [] [] none 0 []) none 0 [] none 0 [], s, sm_v rfl, by rw [hR]; exact ha.map _, ?_, Hp.stsE 8 [] (Hp.trsZ 0 0 0 [] [] (H.sel [2] rfl))⟩
    rw [hR]
    exact Vl.map (g := fun _ => Go.Tx.St.mk 8 [] .zero [] []) (fun _ _ _ => rfl)
  have n2 : ¬ rKind t0 = k_break := fun h => c2 (hrk.symm.trans h)
  by_cases c3 : t0.kind = k_continue
  · have q := hrk.trans c3
    replace hR : R = R0.map (fun _ => .mk 9 [] .zero [] []) := by
      rw [hR]
      simp only [Res.map, plainQ]
      rw [c3]; rfl
    repeat' ((conv => whnf); first | ((with_reducible show Gd (bs _ == _) _ _); first | refine Gd.sY (by assumption) ?_ | refine Gd.sk (by assumption) ?_ | refine Gd.sN (by assumption) ?_) | ((conv => whnf); first | (((with_reducible show Gd ..); first | (with_reducible first | refine Gd.t ?_ | refine Gd.f ?_ | (first | apply Gd.dec | apply Gd.beq | apply Gd.bne) <;> intro _ | refine Gd.not ?_) | refine Gd.t ?_ | refine Gd.f ?_ | apply Gd.var <;> intro _) <;> try (exfalso; omega)) | with_reducible refine Sq.mk ?_ | ((with_reducible show Ld1 ..); first | refine Ld1.h H ?_ | refine Ld1.rF ?_ | refine Ld1.r ?_) | ((with_reducible show Ld ..); first | refine Ld.h H ?_ | refine Ld.r ?_) | ((with_reducible show Ix ..); first | refine Ix.h ?_ | refine Ix.ha ?_) | (refine St.h H ?_; clear H; intro _ H)) | refine Sm.strix T.ok ?_)
    refine ⟨.mk 9 [] (.mk 0 0 0 [] [] none 0 []) none 0 [] none 0 [], s, sm_v rfl, by rw [hR]; exact ha.map _, ?_, Hp.stsE 9 [] (Hp.trsZ 0 0 0 [] [] (H.sel [2] rfl))⟩
    rw [hR]
    exact Vl.map (g := fun _ => Go.Tx.St.mk 9 [] .zero [] []) (fun _ _ _ => rfl)
  have n3 : ¬ rKind t0 = k_continue := fun h => c3 (hrk.symm.trans h)
  by_cases c4 : t0.kind = k_do
  · have q := hrk.trans c4
    replace hR : R = (R0.and fun _ ts => F.expr 0 d ts).map (fun p => .mk 6 [] p.2 [] []) := by
      rw [hR]
      simp only [Res.map, Res.and_bind, plainQ]
      rw [c4]; rfl
    repeat' ((conv => whnf); first | ((with_reducible show Gd (bs _ == _) _ _); first | refine Gd.sY (by assumption) ?_ | refine Gd.sk (by assumption) ?_ | refine Gd.sN (by assumption) ?_) | ((conv => whnf); first | (((with_reducible show Gd ..); first | (with_reducible first | refine Gd.t ?_ | refine Gd.f ?_ | (first | apply Gd.dec | apply Gd.beq | apply Gd.bne) <;> intro _ | refine Gd.not ?_) | refine Gd.t ?_ | refine Gd.f ?_ | apply Gd.var <;> intro _) <;> try (exfalso; omega)) | with_reducible refine Sq.mk ?_ | ((with_reducible show Ld1 ..); first | refine Ld1.h H ?_ | refine Ld1.rF ?_ | refine Ld1.r ?_) | ((with_reducible show Ld ..); first | refine Ld.h H ?_ | refine Ld.r ?_) | ((with_reducible show Ix ..); first | refine Ix.h ?_ | refine Ix.ha ?_) | (refine St.h H ?_; clear H; intro _ H)) | refine Sm.strix T.ok ?_)
    (((conv => whnf); refine Cl.mk (exprR Y C (R0) 0 d s _ (by omega) hd (H.base2 HB) (H.atC 2 rfl) ha (Res.map_out (g := (fun p => Go.Tx.St.mk 6 [] p.2 [] [])) (by rw [← hR]; exact hne))) ?_); rintro _ w3 ⟨⟨kd, o, n, nm, cb, B, c, l⟩, s3, rfl, ha3, hv3, H'⟩; replace H := H.updn (c := rq ws A cw pr s) (Hp.swap H') rfl (.inl rfl) (.inl rfl); clear H')
    ((conv => whnf); refine Al.hp H ?_; clear H; intro p8 _ H _)
    repeat' ((conv => whnf); first | ((with_reducible show Gd (bs _ == _) _ _); first | refine Gd.sY (by assumption) ?_ | refine Gd.sk (by assumption) ?_ | refine Gd.sN (by assumption) ?_) | ((conv => whnf); first | (((with_reducible show Gd ..); first | (with_reducible first | refine Gd.t ?_ | refine Gd.f ?_ | (first | apply Gd.dec | apply Gd.beq | apply Gd.bne) <;> intro _ | refine Gd.not ?_) | refine Gd.t ?_ | refine Gd.f ?_ | apply Gd.var <;> intro _) <;> try (exfalso; omega)) | with_reducible refine Sq.mk ?_ | ((with_reducible show Ld1 ..); first | refine Ld1.h H ?_ | refine Ld1.rF ?_ | refine Ld1.r ?_) | ((with_reducible show Ld ..); first | refine Ld.h H ?_ | refine Ld.r ?_) | ((with_reducible show Ix ..); first | refine Ix.h ?_ | refine Ix.ha ?_) | (refine St.h H ?_; clear H; intro _ H)) | refine Sm.strix T.ok ?_)
    refine ⟨.mk 6 [] (.mk kd o n nm cb B c l) none 0 [] none 0 [], s3, sm_v rfl, by rw [hR]; exact ha3.map _, ?_, Hp.stsE 6 [] (H.sel [1, 3] rfl)⟩
    rw [hR]
    refine Vl.map (hv3.mono fun a h1 => ?_)
    simp only [SM.e, SM.es, id]
    rw [h1]
  have n4 : ¬ rKind t0 = k_do := fun h => c4 (hrk.symm.trans h)
  by_cases c5 : t0.kind = k_return
  · have q := hrk.trans c5
    replace hR : R = (R0.and fun _ ts => F.expr 0 d ts).map (fun p => .mk 7 [] p.2 [] []) := by
      rw [hR]
      simp only [Res.map, Res.and_bind, plainQ]
      rw [c5]; rfl
    repeat' ((conv => whnf); first | ((with_reducible show Gd (bs _ == _) _ _); first | refine Gd.sY (by assumption) ?_ | refine Gd.sk (by assumption) ?_ | refine Gd.sN (by assumption) ?_) | ((conv => whnf); first | (((with_reducible show Gd ..); first | (with_reducible first | refine Gd.t ?_ | refine Gd.f ?_ | (first | apply Gd.dec | apply Gd.beq | apply Gd.bne) <;> intro _ | refine Gd.not ?_) | refine Gd.t ?_ | refine Gd.f ?_ | apply Gd.var <;> intro _) <;> try (exfalso; omega)) | with_reducible refine Sq.mk ?_ | ((with_reducible show Ld1 ..); first | refine Ld1.h H ?_ | refine Ld1.rF ?_ | refine Ld1.r ?_) | ((with_reducible show Ld ..); first | refine Ld.h H ?_ | refine Ld.r ?_) | ((with_reducible show Ix ..); first | refine Ix.h ?_ | refine Ix.ha ?_) | (refine St.h H ?_; clear H; intro _ H)) | refine Sm.strix T.ok ?_)
    (((conv => whnf); refine Cl.mk (exprR Y C (R0) 0 d s _ (by omega) hd (H.base2 HB) (H.atC 2 rfl) ha (Res.map_out (g := (fun p => Go.Tx.St.mk 7 [] p.2 [] [])) (by rw [← hR]; exact hne))) ?_); rintro _ w3 ⟨⟨kd, o, n, nm, cb, B, c, l⟩, s3, rfl, ha3, hv3, H'⟩; replace H := H.updn (c := rq ws A cw pr s) (Hp.swap H') rfl (.inl rfl) (.inl rfl); clear H')
    ((conv => whnf); refine Al.hp H ?_; clear H; intro p8 _ H _)
    repeat' ((conv => whnf); first | ((with_reducible show Gd (bs _ == _) _ _); first | refine Gd.sY (by assumption) ?_ | refine Gd.sk (by assumption) ?_ | refine Gd.sN (by assumption) ?_) | ((conv => whnf); first | (((with_reducible show Gd ..); first | (with_reducible first | refine Gd.t ?_ | refine Gd.f ?_ | (first | apply Gd.dec | apply Gd.beq | apply Gd.bne) <;> intro _ | refine Gd.not ?_) | refine Gd.t ?_ | refine Gd.f ?_ | apply Gd.var <;> intro _) <;> try (exfalso; omega)) | with_reducible refine Sq.mk ?_ | ((with_reducible show Ld1 ..); first | refine Ld1.h H ?_ | refine Ld1.rF ?_ | refine Ld1.r ?_) | ((with_reducible show Ld ..); first | refine Ld.h H ?_ | refine Ld.r ?_) | ((with_reducible show Ix ..); first | refine Ix.h ?_ | refine Ix.ha ?_) | (refine St.h H ?_; clear H; intro _ H)) | refine Sm.strix T.ok ?_)
    refine ⟨.mk 7 [] (.mk kd o n nm cb B c l) none 0 [] none 0 [], s3, sm_v rfl, by rw [hR]; exact ha3.map _, ?_, Hp.stsE 7 [] (H.sel [1, 3] rfl)⟩
    rw [hR]
    refine Vl.map (hv3.mono fun a h1 => ?_)
    simp only [SM.e, SM.es, id]
    rw [h1]
  have n5 : ¬ rKind t0 = k_return := fun h => c5 (hrk.symm.trans h)
  replace hR : R = ((R0.and fun _ ts => takeP s_asg ts).and fun _ ts => F.expr 0 d ts).map (fun p => .mk 1 t0.text p.2 [] []) := by
    rw [hR]
    simp only [Res.map, Res.and_bind, plainQ, if_neg c1, if_neg c2, if_neg c3, if_neg c4, if_neg c5, if_neg c6, if_neg c7]
  repeat' ((conv => whnf); first | ((with_reducible show Gd (bs _ == _) _ _); first | refine Gd.sY (by assumption) ?_ | refine Gd.sk (by assumption) ?_ | refine Gd.sN (by assumption) ?_) | ((conv => whnf); first | (((with_reducible show Gd ..); first | (with_reducible first | refine Gd.t ?_ | refine Gd.f ?_ | (first | apply Gd.dec | apply Gd.beq | apply Gd.bne) <;> intro _ | refine Gd.not ?_) | refine Gd.t ?_ | refine Gd.f ?_ | apply Gd.var <;> intro _) <;> try (exfalso; omega)) | with_reducible refine Sq.mk ?_ | ((with_reducible show Ld1 ..); first | refine Ld1.h H ?_ | refine Ld1.rF ?_ | refine Ld1.r ?_) | ((with_reducible show Ld ..); first | refine Ld.h H ?_ | refine Ld.r ?_) | ((with_reducible show Ix ..); first | refine Ix.h ?_ | refine Ix.ha ?_) | (refine St.h H ?_; clear H; intro _ H)) | refine Sm.strix T.ok ?_)
  (((conv => whnf); refine Cl.mk (takeRR Y C s_asg (R0) s _ (H.base2 HB) (H.atC 2 rfl) ha (by decide) (by decide) (by decide)) ?_); rintro _ w3 ⟨kd_, pp_, tx2, ee_, s2, rfl, ha2, hv2, H'⟩; replace H := H.upd (c := rq ws A cw pr s) H' rfl (.inl rfl); clear H')
  repeat' ((conv => whnf); first | ((with_reducible show Gd (bs _ == _) _ _); first | refine Gd.sY (by assumption) ?_ | refine Gd.sk (by assumption) ?_ | refine Gd.sN (by assumption) ?_) | ((conv => whnf); first | (((with_reducible show Gd ..); first | (with_reducible first | refine Gd.t ?_ | refine Gd.f ?_ | (first | apply Gd.dec | apply Gd.beq | apply Gd.bne) <;> intro _ | refine Gd.not ?_) | refine Gd.t ?_ | refine Gd.f ?_ | apply Gd.var <;> intro _) <;> try (exfalso; omega)) | with_reducible refine Sq.mk ?_ | ((with_reducible show Ld1 ..); first | refine Ld1.h H ?_ | refine Ld1.rF ?_ | refine Ld1.r ?_) | ((with_reducible show Ld ..); first | refine Ld.h H ?_ | refine Ld.r ?_) | ((with_reducible show Ix ..); first | refine Ix.h ?_ | refine Ix.ha ?_) | (refine St.h H ?_; clear H; intro _ H)) | refine Sm.strix T.ok ?_)
  (((conv => whnf); refine Cl.mk (exprR Y C (R0.and fun _ ts => takeP s_asg ts) 0 d s2 _ (by omega) hd (H.base2 HB) (H.atC 2 rfl) ha2 (Res.map_out (g := (fun p => Go.Tx.St.mk 1 t0.text p.2 [] [])) (by rw [← hR]; exact hne))) ?_); rintro _ w3 ⟨⟨kd, o, n, nm, cb, B, c, l⟩, s3, rfl, ha3, hv3, H'⟩; replace H := H.updn (c := rq ws A cw pr s2) (Hp.swap H') rfl (.inl rfl) (.inl rfl); clear H')
  ((conv => whnf); refine Al.hp H ?_; clear H; intro p8 _ H _)
  repeat' ((conv => whnf); first | ((with_reducible show Gd (bs _ == _) _ _); first | refine Gd.sY (by assumption) ?_ | refine Gd.sk (by assumption) ?_ | refine Gd.sN (by assumption) ?_) | ((conv => whnf); first | (((with_reducible show Gd ..); first | (with_reducible first | refine Gd.t ?_ | refine Gd.f ?_ | (first | apply Gd.dec | apply Gd.beq | apply Gd.bne) <;> intro _ | refine Gd.not ?_) | refine Gd.t ?_ | refine Gd.f ?_ | apply Gd.var <;> intro _) <;> try (exfalso; omega)) | with_reducible refine Sq.mk ?_ | ((with_reducible show Ld1 ..); first | refine Ld1.h H ?_ | refine Ld1.rF ?_ | refine Ld1.r ?_) | ((with_reducible show Ld ..); first | refine Ld.h H ?_ | refine Ld.r ?_) | ((with_reducible show Ix ..); first | refine Ix.h ?_ | refine Ix.ha ?_) | (refine St.h H ?_; clear H; intro _ H)) | refine Sm.strix T.ok ?_)
  refine ⟨.mk 1 (rText src t0) (.mk kd o n nm cb B c l) none 0 [] none 0 [], s3, sm_v rfl, by rw [hR]; exact ha3.map _, ?_, Hp.stsE 1 (rText src t0) (H.sel [1, 3] rfl)⟩
  rw [hR]
  refine Vl.map (hv3.mono fun a h1 => ?_)
  simp only [SM.e, SM.es, id]
  rw [h1, htx]
end
end Go.Proofs.YtfnjodpehomgfaaGreatDoor
namespace Go.Proofs.YtfnjodpehomgfaaGreatDoor
open Go Go.Sh Go.Tx
attribute [local irreducible] Blk Ext RdS
set_option maxHeartbeats 4000000 in
theorem begins_r (k : Bs) (w : World) : Cl Tryz.prog 104 #[.string (bs k)] w (fun v w' => v = .bool (beginsB k) ∧ Ext w w') (fun _ _ => False) := by
  refine calls_ex (args := [.string (bs k)]) T.ok Tryz.func104 rfl rfl rfl rfl ?_
  have H := Hp.begin nw w
  by_cases hbg : beginsB k = true
  · rw [hbg]
    simp only [beginsB, Bool.or_eq_true, beq_iff_eq] at hbg
    rcases hbg with ((((((((h | h) | h) | h) | h) | h) | h) | h) | h) | h <;> subst h
    all_goals (repeat' ((conv => whnf); first | (((with_reducible show Gd ..); first | (with_reducible first | refine Gd.t ?_ | refine Gd.f ?_ | (first | apply Gd.dec | apply Gd.beq | apply Gd.bne) <;> intro _ | refine Gd.not ?_) | refine Gd.t ?_ | refine Gd.f ?_ | apply Gd.var <;> intro _) <;> try (exfalso; omega)) | with_reducible refine Sq.mk ?_ | ((with_reducible show Ld1 ..); first | refine Ld1.h H ?_ | refine Ld1.rF ?_ | refine Ld1.r ?_) | ((with_reducible show Ld ..); first | refine Ld.h H ?_ | refine Ld.r ?_) | ((with_reducible show Ix ..); first | refine Ix.h ?_ | refine Ix.ha ?_) | (refine Al.hp H ?_; clear H; intro _ _ H _) | (refine St.h H ?_; clear H; intro _ H)))
    all_goals exact ⟨rfl, H.e⟩
  · rw [Bool.eq_false_iff.2 hbg]
    have hno : ∀ x, beginsB x = true → ¬ k = x := fun x hk e => hbg (by rw [e]; exact hk)
    have n1 := hno k_let (by decide)
    have n2 := hno k_spawn (by decide)
    have n3 := hno k_sync (by decide)
    have n4 := hno k_if (by decide)
    have n5 := hno k_while (by decide)
    have n6 := hno k_do (by decide)
    have n7 := hno k_return (by decide)
    have n8 := hno k_break (by decide)
    have n9 := hno k_continue (by decide)
    have n10 := hno k_name (by decide)
    repeat' ((conv => whnf); first | ((with_reducible show Gd (bs _ == _) _ _); first | refine Gd.sY (by assumption) ?_ | refine Gd.sk (by assumption) ?_ | refine Gd.sN (by assumption) ?_) | ((conv => whnf); first | (((with_reducible show Gd ..); first | (with_reducible first | refine Gd.t ?_ | refine Gd.f ?_ | (first | apply Gd.dec | apply Gd.beq | apply Gd.bne) <;> intro _ | refine Gd.not ?_) | refine Gd.t ?_ | refine Gd.f ?_ | apply Gd.var <;> intro _) <;> try (exfalso; omega)) | with_reducible refine Sq.mk ?_ | ((with_reducible show Ld1 ..); first | refine Ld1.h H ?_ | refine Ld1.rF ?_ | refine Ld1.r ?_) | ((with_reducible show Ld ..); first | refine Ld.h H ?_ | refine Ld.r ?_) | ((with_reducible show Ix ..); first | refine Ix.h ?_ | refine Ix.ha ?_) | (refine Al.hp H ?_; clear H; intro _ _ H _) | (refine St.h H ?_; clear H; intro _ H)) | refine Sm.strix T.ok ?_)
    exact ⟨rfl, H.e⟩
theorem takeR_doom {k : Bs} {e : Int} {p : Nat} {s : RS} (ha : Doom e p s) (h1 : k ≠ k_bad) (h2 : k ≠ k_least) : takeR k s = ⟨s.ts, some (e, p)⟩ := by
  unfold takeR
  split
  · rename_i x hx
    rcases ha with h | ⟨h, _⟩
    · obtain ⟨ts, sp⟩ := s; simp only at h; subst h; rfl
    · rw [hx] at h; cases h
  · rename_i hx
    rw [if_neg, wrong_doom ha]
    intro hr
    rcases ha with h | ⟨_, h⟩
    · rw [hx] at h; cases h
    · rcases (chk_err h).1 with g | g
      · exact h1 (hr.symm.trans g)
      · exact h2 (hr.symm.trans g)
def choiceQ (F : PF) (d : Nat) (ts1 : List Tk) : Res St := (F.expr 0 d ts1).bind fun e ts2 => (F.block (d + 1) ts2).bind fun b ts3 =>
  if curK ts3 ≠ k_else then .ok (.mk 4 [] e b []) ts3
  else (stepP false ts3).bind fun _ ts4 =>
    if curK ts4 = k_if then (deepP (d + 1) ts4).bind fun _ ts4 => (F.choice (d + 1) ts4).bind fun x ts5 => .ok (.mk 4 [] e b [x]) ts5
    else (F.block (d + 1) ts4).bind fun c ts5 => .ok (.mk 4 [] e b c) ts5
theorem choice_Q (F : PF) (d : Nat) {ts : List Tk} (h : curK ts = k_if) : choiceP F d ts = (stepP false ts).bind fun _ ts1 => choiceQ F d ts1 := by
  unfold choiceP takeP
  rw [if_neg (fun e => e h)]
  cases stepP false ts <;> rfl
section
variable {src : Bs} {ws : List Tk} {A : Option Addr} {cw pr : Nat} {wb : World}
variable (Y : RY src ws A cw pr wb)
include Y
theorem blockD (d : Nat) (s : RS) (w : World) {e : Int} {p : Nat} (hwb : Ext wb w) (h : RdQ ws A cw pr s w) (ha : AtR (.err e p : Res Unit) s) : Cl Tryz.prog 54 #[.pointer (some ⟨pr, 0, none⟩), .int .i64 (d : Int)] w (fun v w' => ∃ B c l, v = .slice B l.length c ∧ Hp (· = pr) w w' [stl B c l, rq ws A cw pr ⟨s.ts, some (e, p)⟩]) (fun _ _ => False) := by
  have X := Y.x
  have HB := X.ok hwb
  have hts := ends_ne ha.ends
  refine calls_ex (args := [.pointer (some ⟨pr, 0, none⟩), .int .i64 (d : Int)]) T.ok Tryz.func54 rfl rfl rfl rfl ?_
  have H := Hp.start (S := (· = pr)) (rq_ok h) (fun k hk => hk)
  repeat' ((conv => whnf); first | (((with_reducible show Gd ..); first | (with_reducible first | refine Gd.t ?_ | refine Gd.f ?_ | (first | apply Gd.dec | apply Gd.beq | apply Gd.bne) <;> intro _ | refine Gd.not ?_) | refine Gd.t ?_ | refine Gd.f ?_ | apply Gd.var <;> intro _) <;> try (exfalso; omega)) | with_reducible refine Sq.mk ?_ | ((with_reducible show Ld1 ..); first | refine Ld1.h H ?_ | refine Ld1.rF ?_ | refine Ld1.r ?_) | ((with_reducible show Ld ..); first | refine Ld.h H ?_ | refine Ld.r ?_) | ((with_reducible show Ix ..); first | refine Ix.h ?_ | refine Ix.ha ?_) | (refine St.h H ?_; clear H; intro _ H))
  ((conv => whnf); refine Cl.mk (take_r X s_lb s _ (H.base2 HB) (H.atC 0 rfl) hts) ?_)
  rintro _ w3 ⟨rfl, H'⟩
  rw [takeR_doom ha.at_ (by decide) (by decide)] at H'
  replace H := H.upd (c := rq ws A cw pr s) H' rfl (.inl rfl)
  clear H'
  repeat' ((conv => whnf); first | (((with_reducible show Gd ..); first | (with_reducible first | refine Gd.t ?_ | refine Gd.f ?_ | (first | apply Gd.dec | apply Gd.beq | apply Gd.bne) <;> intro _ | refine Gd.not ?_) | refine Gd.t ?_ | refine Gd.f ?_ | apply Gd.var <;> intro _) <;> try (exfalso; omega)) | with_reducible refine Sq.mk ?_ | ((with_reducible show Ld1 ..); first | refine Ld1.h H ?_ | refine Ld1.rF ?_ | refine Ld1.r ?_) | ((with_reducible show Ld ..); first | refine Ld.h H ?_ | refine Ld.r ?_) | ((with_reducible show Ix ..); first | refine Ix.h ?_ | refine Ix.ha ?_) | (refine St.h H ?_; clear H; intro _ H))
  refine Lp.g0 T.ok (σ := Unit) (fun q => [(5, .slice none 0 0), (0, .pointer (some ⟨pr, 0, none⟩))])
    (fun q w' => Hp (· = pr) w w' [rq ws A cw pr ⟨s.ts, some (e, p)⟩]) (fun q _ => 0) () rfl ⟨rfl, rfl, trivial⟩ H ?_
  clear H
  rintro _ w5 H
  repeat' ((conv => whnf); first | (((with_reducible show Gd ..); first | (with_reducible first | refine Gd.t ?_ | refine Gd.f ?_ | (first | apply Gd.dec | apply Gd.beq | apply Gd.bne) <;> intro _ | refine Gd.not ?_) | refine Gd.t ?_ | refine Gd.f ?_ | apply Gd.var <;> intro _) <;> try (exfalso; omega)) | with_reducible refine Sq.mk ?_ | ((with_reducible show Ld1 ..); first | refine Ld1.h H ?_ | refine Ld1.rF ?_ | refine Ld1.r ?_) | ((with_reducible show Ld ..); first | refine Ld.h H ?_ | refine Ld.r ?_) | ((with_reducible show Ix ..); first | refine Ix.h ?_ | refine Ix.ha ?_) | (refine St.h H ?_; clear H; intro _ H))
  (((conv => whnf); refine Cl.mk (fine_r X ⟨s.ts, some (e, p)⟩ _ (H.atC 0 rfl)) ?_); rintro _ _ ⟨rfl, hx⟩; replace H := H.ext hx; clear hx)
  repeat' ((conv => whnf); first | (((with_reducible show Gd ..); first | (with_reducible first | refine Gd.t ?_ | refine Gd.f ?_ | (first | apply Gd.dec | apply Gd.beq | apply Gd.bne) <;> intro _ | refine Gd.not ?_) | refine Gd.t ?_ | refine Gd.f ?_ | apply Gd.var <;> intro _) <;> try (exfalso; omega)) | with_reducible refine Sq.mk ?_ | ((with_reducible show Ld1 ..); first | refine Ld1.h H ?_ | refine Ld1.rF ?_ | refine Ld1.r ?_) | ((with_reducible show Ld ..); first | refine Ld.h H ?_ | refine Ld.r ?_) | ((with_reducible show Ix ..); first | refine Ix.h ?_ | refine Ix.ha ?_) | (refine St.h H ?_; clear H; intro _ H))
  ((conv => whnf); refine Cl.mk (take_r X s_rb ⟨s.ts, some (e, p)⟩ _ (H.base2 HB) (H.atC 0 rfl) hts) ?_)
  rintro _ w3 ⟨rfl, H'⟩
  rw [takeR_doom (.inl rfl) (by decide) (by decide)] at H'
  replace H := H.upd (c := rq ws A cw pr ⟨s.ts, some (e, p)⟩) H' rfl (.inl rfl)
  clear H'
  repeat' ((conv => whnf); first | (((with_reducible show Gd ..); first | (with_reducible first | refine Gd.t ?_ | refine Gd.f ?_ | (first | apply Gd.dec | apply Gd.beq | apply Gd.bne) <;> intro _ | refine Gd.not ?_) | refine Gd.t ?_ | refine Gd.f ?_ | apply Gd.var <;> intro _) <;> try (exfalso; omega)) | with_reducible refine Sq.mk ?_ | ((with_reducible show Ld1 ..); first | refine Ld1.h H ?_ | refine Ld1.rF ?_ | refine Ld1.r ?_) | ((with_reducible show Ld ..); first | refine Ld.h H ?_ | refine Ld.r ?_) | ((with_reducible show Ix ..); first | refine Ix.h ?_ | refine Ix.ha ?_) | (refine St.h H ?_; clear H; intro _ H))
  exact ⟨none, 0, [], rfl, Hp.stl0 H⟩
theorem stmtD (d : Nat) (ts : List Tk) (w : World) {e : Int} {p : Nat} (hwb : Ext wb w) (h : RdQ ws A cw pr ⟨ts, none⟩ w) (ha : AtR (.err e p : Res Unit) ⟨ts, none⟩) : Cl Tryz.prog 83 #[.pointer (some ⟨pr, 0, none⟩), .int .i64 (d : Int)] w (fun v w' => ∃ t, v = SM.v t ∧ Hp (· = pr) w w' [sts [t], rq ws A cw pr ⟨ts, some (e, p)⟩]) (fun _ _ => False) := by
  have X := Y.x
  have HB := X.ok hwb
  have hts := ends_ne ha.ends
  have hck : chk ts = .err e p := by
    rcases ha.at_ with h | ⟨_, h⟩
    · cases h
    · exact h
  have hbg : beginsB (rKind (curT ts)) = false := by rcases (chk_err hck).1 with h | h <;> rw [h] <;> decide
  refine calls_ex (args := [.pointer (some ⟨pr, 0, none⟩), .int .i64 (d : Int)]) T.ok Tryz.func83 rfl rfl rfl rfl ?_
  have H := Hp.start (S := (· = pr)) (rq_ok h) (fun k hk => hk)
  refine Sq.mk ?_
  ((conv => whnf); refine Al.hp H ?_; clear H; intro p4 _ H _)
  repeat' ((conv => whnf); first | (((with_reducible show Gd ..); first | (with_reducible first | refine Gd.t ?_ | refine Gd.f ?_ | (first | apply Gd.dec | apply Gd.beq | apply Gd.bne) <;> intro _ | refine Gd.not ?_) | refine Gd.t ?_ | refine Gd.f ?_ | apply Gd.var <;> intro _) <;> try (exfalso; omega)) | with_reducible refine Sq.mk ?_ | ((with_reducible show Ld1 ..); first | refine Ld1.h H ?_ | refine Ld1.rF ?_ | refine Ld1.r ?_) | ((with_reducible show Ld ..); first | refine Ld.h H ?_ | refine Ld.r ?_) | ((with_reducible show Ix ..); first | refine Ix.h ?_ | refine Ix.ha ?_) | (refine St.h H ?_; clear H; intro _ H))
  (((conv => whnf); refine Cl.mk (next_r X ⟨ts, none⟩ _ (H.base2 HB) (H.atC 1 rfl) hts) ?_); rintro _ _ ⟨rfl, hx⟩; replace H := H.ext hx; clear hx)
  ((conv => whnf); refine Al.hp H ?_; clear H; intro p5 _ H _)
  repeat' ((conv => whnf); first | (((with_reducible show Gd ..); first | (with_reducible first | refine Gd.t ?_ | refine Gd.f ?_ | (first | apply Gd.dec | apply Gd.beq | apply Gd.bne) <;> intro _ | refine Gd.not ?_) | refine Gd.t ?_ | refine Gd.f ?_ | apply Gd.var <;> intro _) <;> try (exfalso; omega)) | with_reducible refine Sq.mk ?_ | ((with_reducible show Ld1 ..); first | refine Ld1.h H ?_ | refine Ld1.rF ?_ | refine Ld1.r ?_) | ((with_reducible show Ld ..); first | refine Ld.h H ?_ | refine Ld.r ?_) | ((with_reducible show Ix ..); first | refine Ix.h ?_ | refine Ix.ha ?_) | (refine St.h H ?_; clear H; intro _ H))
  (((conv => whnf); refine Cl.mk (begins_r (rKind (curT ts)) _) ?_); rintro _ _ ⟨rfl, hx⟩; replace H := H.ext hx; clear hx)
  rw [hbg]
  repeat' ((conv => whnf); first | (((with_reducible show Gd ..); first | (with_reducible first | refine Gd.t ?_ | refine Gd.f ?_ | (first | apply Gd.dec | apply Gd.beq | apply Gd.bne) <;> intro _ | refine Gd.not ?_) | refine Gd.t ?_ | refine Gd.f ?_ | apply Gd.var <;> intro _) <;> try (exfalso; omega)) | with_reducible refine Sq.mk ?_ | ((with_reducible show Ld1 ..); first | refine Ld1.h H ?_ | refine Ld1.rF ?_ | refine Ld1.r ?_) | ((with_reducible show Ld ..); first | refine Ld.h H ?_ | refine Ld.r ?_) | ((with_reducible show Ix ..); first | refine Ix.h ?_ | refine Ix.ha ?_) | (refine St.h H ?_; clear H; intro _ H))
  ((conv => whnf); refine Cl.mk (wrong_r X 141 ⟨ts, none⟩ _ (by decide) (H.base2 HB) (H.atC 2 rfl) hts) ?_)
  rintro _ w3 H'
  rw [wrong_doom ha.at_] at H'
  replace H := H.upd (c := rq ws A cw pr ⟨ts, none⟩) H' rfl (.inl rfl)
  clear H'
  repeat' ((conv => whnf); first | (((with_reducible show Gd ..); first | (with_reducible first | refine Gd.t ?_ | refine Gd.f ?_ | (first | apply Gd.dec | apply Gd.beq | apply Gd.bne) <;> intro _ | refine Gd.not ?_) | refine Gd.t ?_ | refine Gd.f ?_ | apply Gd.var <;> intro _) <;> try (exfalso; omega)) | with_reducible refine Sq.mk ?_ | ((with_reducible show Ld1 ..); first | refine Ld1.h H ?_ | refine Ld1.rF ?_ | refine Ld1.r ?_) | ((with_reducible show Ld ..); first | refine Ld.h H ?_ | refine Ld.r ?_) | ((with_reducible show Ix ..); first | refine Ix.h ?_ | refine Ix.ha ?_) | (refine St.h H ?_; clear H; intro _ H))
  exact ⟨.mk 0 [] (.mk 0 0 0 [] [] none 0 []) none 0 [] none 0 [], sm_v rfl, Hp.stsE 0 [] (Hp.trsZ 0 0 0 [] [] (H.sel [2] rfl))⟩
variable {F : PF} (C : RCon src ws A cw pr wb F)
include C
theorem blockR {α : Type} (R0 : Res α) (d : Nat) (s : RS) (w : World) (hd : d ≤ 41) (hwb : Ext wb w) (h : RdQ ws A cw pr s w) (ha : AtR R0 s) (hne : (R0.and fun _ ts => F.block d ts) ≠ .out) :
    Cl Tryz.prog 54 #[.pointer (some ⟨pr, 0, none⟩), .int .i64 (d : Int)] w (OkRB ws A cw pr Prod.snd (R0.and fun _ ts => F.block d ts) w) (fun _ _ => False) := by
  cases R0 with
  | out => exact absurd rfl hne
  | err e p =>
    refine Cl.mkX (blockD Y d s w hwb h ha.toErr) (fun v w' q => ?_) (fun _ _ h => h)
    obtain ⟨B, c, l, h1, h4⟩ := q
    exact ⟨B, c, l, ⟨s.ts, some (e, p)⟩, h1, ⟨ha.ends, .inl rfl⟩, Vl.err, h4⟩
  | ok a ts =>
    obtain ⟨rfl, hg⟩ := ha.gd
    refine Cl.mkX (C.block d ts w hd hwb h hg (Res.and_ok_out (f := fun _ ts => F.block d ts) hne)) (fun v w' q => ?_) (fun _ _ h => h)
    obtain ⟨B, c, l, s', h1, h2, h3, h4⟩ := q
    exact ⟨B, c, l, s', h1, AtR.ok_and (f := fun _ ts => F.block d ts) h2, Vl.ok_and (f := fun _ ts => F.block d ts) h3, h4⟩
set_option maxHeartbeats 8000000 in
theorem choice_r (R0 : Res Unit) (d : Nat) (s : RS) (w : World) (hd : d ≤ 40) (hwb : Ext wb w) (h : RdQ ws A cw pr s w) (ha : AtR R0 s) (hne : (R0.bind fun _ ts => choiceQ F d ts) ≠ .out) :
    Cl Tryz.prog 105 #[.pointer (some ⟨pr, 0, none⟩), .int .i64 (d : Int)] w (OkRS ws A cw pr id (R0.bind fun _ ts => choiceQ F d ts) w) (fun _ _ => False) := by
  have X := Y.x
  have HB := X.ok hwb
  have hwd : IntKind.i64.wrap ((d : Int) + 1) = ((d + 1 : Nat) : Int) := w64 rfl (by omega) (by omega)
  obtain ⟨R, hR⟩ : ∃ R, R = R0.bind fun _ ts => choiceQ F d ts := ⟨_, rfl⟩
  rw [← hR] at hne ⊢
  refine calls_ex (args := [.pointer (some ⟨pr, 0, none⟩), .int .i64 (d : Int)]) T.ok Tryz.func105 rfl rfl rfl rfl ?_
  have H := Hp.start (S := (· = pr)) (rq_ok h) (fun k hk => hk)
  clear h
  refine Sq.mk ?_
  ((conv => whnf); refine Al.hp H ?_; clear H; intro p4 _ H _)
  repeat' ((conv => whnf); first | ((with_reducible show Gd (bs _ == _) _ _); first | refine Gd.sY (by assumption) ?_ | refine Gd.sk (by assumption) ?_ | refine Gd.sN (by assumption) ?_) | ((conv => whnf); first | (((with_reducible show Gd ..); first | (with_reducible first | refine Gd.t ?_ | refine Gd.f ?_ | (first | apply Gd.dec | apply Gd.beq | apply Gd.bne) <;> intro _ | refine Gd.not ?_) | refine Gd.t ?_ | refine Gd.f ?_ | apply Gd.var <;> intro _) <;> try (exfalso; omega)) | with_reducible refine Sq.mk ?_ | ((with_reducible show Ld1 ..); first | refine Ld1.h H ?_ | refine Ld1.rF ?_ | refine Ld1.r ?_) | ((with_reducible show Ld ..); first | refine Ld.h H ?_ | refine Ld.r ?_) | ((with_reducible show Ix ..); first | refine Ix.h ?_ | refine Ix.ha ?_) | (refine St.h H ?_; clear H; intro _ H)) | refine Sm.strix T.ok ?_)
  replace hR : R = ((R0.and fun _ ts => F.expr 0 d ts).and fun _ ts => F.block (d + 1) ts).bind fun p ts3 => if curK ts3 ≠ k_else then .ok (.mk 4 [] p.1.2 p.2 []) ts3
      else (stepP false ts3).bind fun _ ts4 => if curK ts4 = k_if then (deepP (d + 1) ts4).bind fun _ ts4 => (F.choice (d + 1) ts4).bind fun x ts5 => .ok (.mk 4 [] p.1.2 p.2 [x]) ts5
      else (F.block (d + 1) ts4).bind fun c ts5 => .ok (.mk 4 [] p.1.2 p.2 c) ts5 := by
    rw [hR]
    simp only [Res.and_bind, choiceQ]
  ((conv => whnf); refine Cl.mk (exprR Y C R0 0 d s _ (by omega) (by omega) (H.base2 HB) (H.atC 1 rfl) ha (Res.and_out (Res.bind_out (by rw [← hR]; exact hne)))) ?_)
  rintro _ w3 ⟨⟨kd, o, n, nm, cb, A2, c2, l2⟩, s1, rfl, ha1, hv1, H'⟩
  replace H := H.updn (c := rq ws A cw pr s) (Hp.swap H') rfl (.inl rfl) (.inl rfl)
  clear H'
  ((conv => whnf); refine Al.hp H ?_; clear H; intro p5 _ H _)
  repeat' ((conv => whnf); first | ((with_reducible show Gd (bs _ == _) _ _); first | refine Gd.sY (by assumption) ?_ | refine Gd.sk (by assumption) ?_ | refine Gd.sN (by assumption) ?_) | ((conv => whnf); first | (((with_reducible show Gd ..); first | (with_reducible first | refine Gd.t ?_ | refine Gd.f ?_ | (first | apply Gd.dec | apply Gd.beq | apply Gd.bne) <;> intro _ | refine Gd.not ?_) | refine Gd.t ?_ | refine Gd.f ?_ | apply Gd.var <;> intro _) <;> try (exfalso; omega)) | with_reducible refine Sq.mk ?_ | ((with_reducible show Ld1 ..); first | refine Ld1.h H ?_ | refine Ld1.rF ?_ | refine Ld1.r ?_) | ((with_reducible show Ld ..); first | refine Ld.h H ?_ | refine Ld.r ?_) | ((with_reducible show Ix ..); first | refine Ix.h ?_ | refine Ix.ha ?_) | (refine St.h H ?_; clear H; intro _ H)) | refine Sm.strix T.ok ?_)
  ((conv => whnf); refine Al.hp H ?_; clear H; intro p6 _ H _)
  repeat' ((conv => whnf); first | ((with_reducible show Gd (bs _ == _) _ _); first | refine Gd.sY (by assumption) ?_ | refine Gd.sk (by assumption) ?_ | refine Gd.sN (by assumption) ?_) | ((conv => whnf); first | (((with_reducible show Gd ..); first | (with_reducible first | refine Gd.t ?_ | refine Gd.f ?_ | (first | apply Gd.dec | apply Gd.beq | apply Gd.bne) <;> intro _ | refine Gd.not ?_) | refine Gd.t ?_ | refine Gd.f ?_ | apply Gd.var <;> intro _) <;> try (exfalso; omega)) | with_reducible refine Sq.mk ?_ | ((with_reducible show Ld1 ..); first | refine Ld1.h H ?_ | refine Ld1.rF ?_ | refine Ld1.r ?_) | ((with_reducible show Ld ..); first | refine Ld.h H ?_ | refine Ld.r ?_) | ((with_reducible show Ix ..); first | refine Ix.h ?_ | refine Ix.ha ?_) | (refine St.h H ?_; clear H; intro _ H)) | refine Sm.strix T.ok ?_)
  have hblk := fun w => blockR Y C (R0.and fun _ ts => F.expr 0 d ts) (d + 1) s1 w (by omega)
  rw [← hwd] at hblk
  ((conv => whnf); refine Cl.mk (hblk _ (H.base2 HB) (H.atC 4 rfl) ha1 (Res.bind_out (by rw [← hR]; exact hne))) ?_)
  rintro _ w4 ⟨B, cB, b, s2, rfl, ha2, hv2, H'⟩
  replace H := H.updn (c := rq ws A cw pr s1) (Hp.swap H') rfl (.inl rfl) (.inl rfl)
  clear H'
  repeat' ((conv => whnf); first | ((with_reducible show Gd (bs _ == _) _ _); first | refine Gd.sY (by assumption) ?_ | refine Gd.sk (by assumption) ?_ | refine Gd.sN (by assumption) ?_) | ((conv => whnf); first | (((with_reducible show Gd ..); first | (with_reducible first | refine Gd.t ?_ | refine Gd.f ?_ | (first | apply Gd.dec | apply Gd.beq | apply Gd.bne) <;> intro _ | refine Gd.not ?_) | refine Gd.t ?_ | refine Gd.f ?_ | apply Gd.var <;> intro _) <;> try (exfalso; omega)) | with_reducible refine Sq.mk ?_ | ((with_reducible show Ld1 ..); first | refine Ld1.h H ?_ | refine Ld1.rF ?_ | refine Ld1.r ?_) | ((with_reducible show Ld ..); first | refine Ld.h H ?_ | refine Ld.r ?_) | ((with_reducible show Ix ..); first | refine Ix.h ?_ | refine Ix.ha ?_) | (refine St.h H ?_; clear H; intro _ H)) | refine Sm.strix T.ok ?_)
  have hvv := Vl.mono2 (Vl.fst (f := fun _ ts => F.block (d + 1) ts) hv1) hv2 fun a h1 h2 => And.intro h1 h2
  have hfix : ∀ w', Hp (· = pr) w w' [stl B cB b, bk p6 76 (SM.enc (.mk 4 [] (.mk kd o n nm cb A2 c2 l2) B cB b none 0 [])), bk p5 74 (ET.enc (.mk kd o n nm cb A2 c2 l2)), trs [.mk kd o n nm cb A2 c2 l2], bk p4 76 T.t76.zero.cells.toList, rq ws A cw pr s2] → Hp (· = pr) w w' [stl B cB b, bk p6 76 (SM.enc (.mk 4 [] (.mk kd o n nm cb A2 c2 l2) B cB b none 0 [])), bk p5 74 (ET.enc (.mk kd o n nm cb A2 c2 l2)), trs [.mk kd o n nm cb A2 c2 l2], bk p4 76 T.t76.zero.cells.toList, rq ws A cw pr s2] := fun _ h => h
  replace H := hfix _ H
  clear hfix hv1 hv2 ha1 hblk
  generalize ((R0.and fun _ ts => F.expr 0 d ts).and fun _ ts => F.block (d + 1) ts) = R2 at ha2 hvv hR
  (((conv => whnf); refine Cl.mk (is_r X k_else s2 _ (H.base2 HB) (H.atC 5 rfl) (ends_ne ha2.ends)) ?_); rintro _ _ ⟨rfl, hx⟩; replace H := H.ext hx; clear hx)
  by_cases hel : isR k_else s2 = true
  case neg =>
    rw [Bool.eq_false_iff.2 hel]
    replace hR : R = R2.map (fun p => .mk 4 [] p.1.2 p.2 []) := by
      rw [hR]
      cases R2 with
      | out => rfl
      | err e p => rfl
      | ok a ts3 =>
        rw [is_ok ha2] at hel
        have hk : curK ts3 ≠ k_else := by simpa using hel
        show (if curK ts3 ≠ k_else then _ else _) = _
        rw [if_pos hk]; rfl
    repeat' ((conv => whnf); first | ((with_reducible show Gd (bs _ == _) _ _); first | refine Gd.sY (by assumption) ?_ | refine Gd.sk (by assumption) ?_ | refine Gd.sN (by assumption) ?_) | ((conv => whnf); first | (((with_reducible show Gd ..); first | (with_reducible first | refine Gd.t ?_ | refine Gd.f ?_ | (first | apply Gd.dec | apply Gd.beq | apply Gd.bne) <;> intro _ | refine Gd.not ?_) | refine Gd.t ?_ | refine Gd.f ?_ | apply Gd.var <;> intro _) <;> try (exfalso; omega)) | with_reducible refine Sq.mk ?_ | ((with_reducible show Ld1 ..); first | refine Ld1.h H ?_ | refine Ld1.rF ?_ | refine Ld1.r ?_) | ((with_reducible show Ld ..); first | refine Ld.h H ?_ | refine Ld.r ?_) | ((with_reducible show Ix ..); first | refine Ix.h ?_ | refine Ix.ha ?_) | (refine St.h H ?_; clear H; intro _ H)) | refine Sm.strix T.ok ?_)
    replace H := Hp.stl0 H
    refine ⟨.mk 4 [] (.mk kd o n nm cb A2 c2 l2) B cB b none 0 [], s2, sm_v rfl, by rw [hR]; exact ha2.map _, ?_, Hp.stsN 4 [] (H.sel [4, 1, 0, 3] rfl)⟩
    rw [hR]
    refine Vl.map (hvv.mono fun a h => ?_)
    simp only [SM.e, SM.es, id]
    rw [h.1, h.2]
  rw [hel]
  obtain ⟨a, ts3, rfl⟩ : ∃ a ts, R2 = .ok a ts := by
    cases R2 with
    | out => exact absurd hR hne
    | err e p => rw [is_err ha2 (by decide) (by decide)] at hel; cases hel
    | ok a ts => exact ⟨a, ts, rfl⟩
  obtain ⟨rfl, hg3⟩ := ha2.gd
  rw [is_ok ha2] at hel
  have hk3 : curK ts3 = k_else := by simpa using hel
  have hst3 := step_at hg3.ends hg3.ok (by rw [hk3]; decide)
  obtain ⟨h11, h12⟩ := hvv a ts3 rfl
  obtain ⟨t3, r3, rfl⟩ : ∃ t3 r3, ts3 = t3 :: r3 := by
    cases ts3 with
    | nil => exact absurd rfl (ends_ne hg3.ends)
    | cons t3 r3 => exact ⟨t3, r3, rfl⟩
  replace hR : R = (stepP false (t3 :: r3)).bind fun _ ts4 => if curK ts4 = k_if then (deepP (d + 1) ts4).bind fun _ ts4 => (F.choice (d + 1) ts4).bind fun x ts5 => .ok (.mk 4 [] a.1.2 a.2 [x]) ts5
      else (F.block (d + 1) ts4).bind fun c ts5 => .ok (.mk 4 [] a.1.2 a.2 c) ts5 := by
    rw [hR]
    show (if curK (t3 :: r3) ≠ k_else then _ else _) = _
    rw [if_neg (fun h => h hk3)]
  repeat' ((conv => whnf); first | ((with_reducible show Gd (bs _ == _) _ _); first | refine Gd.sY (by assumption) ?_ | refine Gd.sk (by assumption) ?_ | refine Gd.sN (by assumption) ?_) | ((conv => whnf); first | (((with_reducible show Gd ..); first | (with_reducible first | refine Gd.t ?_ | refine Gd.f ?_ | (first | apply Gd.dec | apply Gd.beq | apply Gd.bne) <;> intro _ | refine Gd.not ?_) | refine Gd.t ?_ | refine Gd.f ?_ | apply Gd.var <;> intro _) <;> try (exfalso; omega)) | with_reducible refine Sq.mk ?_ | ((with_reducible show Ld1 ..); first | refine Ld1.h H ?_ | refine Ld1.rF ?_ | refine Ld1.r ?_) | ((with_reducible show Ld ..); first | refine Ld.h H ?_ | refine Ld.r ?_) | ((with_reducible show Ix ..); first | refine Ix.h ?_ | refine Ix.ha ?_) | (refine St.h H ?_; clear H; intro _ H)) | refine Sm.strix T.ok ?_)
  (obtain ⟨j, hj1, hj2, hb0⟩ := H.atC (c := rq ws A cw pr (⟨t3 :: r3, none⟩)) 5 rfl; have hjl := X.lt hj1 (by first | exact List.cons_ne_nil _ _ | assumption); replace H := Hp.ofQ H hb0; clear hb0)
  repeat' ((conv => whnf); first | ((with_reducible show Gd (bs _ == _) _ _); first | refine Gd.sY (by assumption) ?_ | refine Gd.sk (by assumption) ?_ | refine Gd.sN (by assumption) ?_) | ((conv => whnf); first | (((with_reducible show Gd ..); first | (with_reducible first | refine Gd.t ?_ | refine Gd.f ?_ | (first | apply Gd.dec | apply Gd.beq | apply Gd.bne) <;> intro _ | refine Gd.not ?_) | refine Gd.t ?_ | refine Gd.f ?_ | apply Gd.var <;> intro _) <;> try (exfalso; omega)) | with_reducible refine Sq.mk ?_ | ((with_reducible show Ld1 ..); first | refine Ld1.h H ?_ | refine Ld1.rF ?_ | refine Ld1.r ?_) | ((with_reducible show Ld ..); first | refine Ld.h H ?_ | refine Ld.r ?_) | ((with_reducible show Ix ..); first | refine Ix.h ?_ | refine Ix.ha ?_) | (refine St.h H ?_; clear H; intro _ H)) | refine Sm.strix T.ok ?_)
  (have hwj : IntKind.i64.wrap ((j : Int) + 1) = ((j + 1 : Nat) : Int) := w64 rfl (by omega) (by omega); rw [hwj] at H; replace H := Hp.toQ (pr := pr) (s := ⟨r3, none⟩) (k := j + 1) H (List.tail_drop.symm.trans (congrArg List.tail hj1)) (fun e p h => by cases h); clear hwj hj1 hj2 hjl)
  have hst4 : AtR (stepP false (t3 :: r3)) ⟨r3, none⟩ := hst3
  (((conv => whnf); refine Cl.mk (is_r X k_if ⟨r3, none⟩ _ (H.base2 HB) (H.atC 5 rfl) (ends_ne hst4.ends)) ?_); rintro _ _ ⟨rfl, hx⟩; replace H := H.ext hx; clear hx)
  by_cases hif : isR k_if ⟨r3, none⟩ = true
  case neg =>
    rw [Bool.eq_false_iff.2 hif]
    replace hR : R = ((stepP false (t3 :: r3)).and fun _ ts4 => F.block (d + 1) ts4).map (fun p => .mk 4 [] a.1.2 a.2 p.2) := by
      rw [hR, Res.map, Res.and_bind]
      cases hx : stepP false (t3 :: r3) with
      | out => rfl
      | err e p => rfl
      | ok u ts4 =>
        rw [hx] at hst4
        rw [is_ok hst4] at hif
        have hk : ¬ curK ts4 = k_if := by simpa using hif
        show (if curK ts4 = k_if then _ else _) = _
        rw [if_neg hk]; rfl
    repeat' ((conv => whnf); first | ((with_reducible show Gd (bs _ == _) _ _); first | refine Gd.sY (by assumption) ?_ | refine Gd.sk (by assumption) ?_ | refine Gd.sN (by assumption) ?_) | ((conv => whnf); first | (((with_reducible show Gd ..); first | (with_reducible first | refine Gd.t ?_ | refine Gd.f ?_ | (first | apply Gd.dec | apply Gd.beq | apply Gd.bne) <;> intro _ | refine Gd.not ?_) | refine Gd.t ?_ | refine Gd.f ?_ | apply Gd.var <;> intro _) <;> try (exfalso; omega)) | with_reducible refine Sq.mk ?_ | ((with_reducible show Ld1 ..); first | refine Ld1.h H ?_ | refine Ld1.rF ?_ | refine Ld1.r ?_) | ((with_reducible show Ld ..); first | refine Ld.h H ?_ | refine Ld.r ?_) | ((with_reducible show Ix ..); first | refine Ix.h ?_ | refine Ix.ha ?_) | (refine St.h H ?_; clear H; intro _ H)) | refine Sm.strix T.ok ?_)
    have hblk := fun w => blockR Y C (stepP false (t3 :: r3)) (d + 1) ⟨r3, none⟩ w (by omega)
    rw [← hwd] at hblk
    ((conv => whnf); refine Cl.mk (hblk _ (H.base2 HB) (H.atC 5 rfl) hst4 (Res.map_out (by rw [← hR]; exact hne))) ?_)
    rintro _ w5 ⟨E, cE, el, s5, rfl, ha5, hv5, H'⟩
    replace H := H.updn (c := rq ws A cw pr ⟨r3, none⟩) (Hp.swap H') rfl (.inl rfl) (.inl rfl)
    clear H'
    repeat' ((conv => whnf); first | ((with_reducible show Gd (bs _ == _) _ _); first | refine Gd.sY (by assumption) ?_ | refine Gd.sk (by assumption) ?_ | refine Gd.sN (by assumption) ?_) | ((conv => whnf); first | (((with_reducible show Gd ..); first | (with_reducible first | refine Gd.t ?_ | refine Gd.f ?_ | (first | apply Gd.dec | apply Gd.beq | apply Gd.bne) <;> intro _ | refine Gd.not ?_) | refine Gd.t ?_ | refine Gd.f ?_ | apply Gd.var <;> intro _) <;> try (exfalso; omega)) | with_reducible refine Sq.mk ?_ | ((with_reducible show Ld1 ..); first | refine Ld1.h H ?_ | refine Ld1.rF ?_ | refine Ld1.r ?_) | ((with_reducible show Ld ..); first | refine Ld.h H ?_ | refine Ld.r ?_) | ((with_reducible show Ix ..); first | refine Ix.h ?_ | refine Ix.ha ?_) | (refine St.h H ?_; clear H; intro _ H)) | refine Sm.strix T.ok ?_)
    refine ⟨.mk 4 [] (.mk kd o n nm cb A2 c2 l2) B cB b E cE el, s5, sm_v rfl, by rw [hR]; exact ha5.map _, ?_, Hp.stsN 4 [] (H.sel [4, 1, 0, 3] rfl)⟩
    rw [hR]
    refine Vl.map (hv5.mono fun p h => ?_)
    simp only [SM.e, SM.es, id]
    rw [h11, h12, h]
  rw [hif]
  obtain ⟨ts4, hx, rfl⟩ : ∃ ts4, stepP false (t3 :: r3) = .ok () ts4 ∧ ts4 = r3 := by
    cases hx : stepP false (t3 :: r3) with
    | out => rw [hx] at hR; exact absurd hR hne
    | err e p => rw [hx] at hst4; rw [is_err hst4 (by decide) (by decide)] at hif; cases hif
    | ok u ts4 =>
      rw [hx] at hst4
      have := hst4.gd.1
      simp only [RS.mk.injEq, and_true] at this
      exact ⟨ts4, rfl, this.symm⟩
  rw [hx] at hst4 hR
  obtain ⟨_, hg4⟩ := hst4.gd
  rw [is_ok hst4] at hif
  have hk4 : curK ts4 = k_if := by simpa using hif
  replace hR : R = ((deepP (d + 1) ts4).bind fun _ ts4 => F.choice (d + 1) ts4).map (fun x => .mk 4 [] a.1.2 a.2 [x]) := by
    rw [hR, Res.map]
    show (if curK ts4 = k_if then _ else _) = _
    rw [if_pos hk4, Res.bind_assoc]
  repeat' ((conv => whnf); first | ((with_reducible show Gd (bs _ == _) _ _); first | refine Gd.sY (by assumption) ?_ | refine Gd.sk (by assumption) ?_ | refine Gd.sN (by assumption) ?_) | ((conv => whnf); first | (((with_reducible show Gd ..); first | (with_reducible first | refine Gd.t ?_ | refine Gd.f ?_ | (first | apply Gd.dec | apply Gd.beq | apply Gd.bne) <;> intro _ | refine Gd.not ?_) | refine Gd.t ?_ | refine Gd.f ?_ | apply Gd.var <;> intro _) <;> try (exfalso; omega)) | with_reducible refine Sq.mk ?_ | ((with_reducible show Ld1 ..); first | refine Ld1.h H ?_ | refine Ld1.rF ?_ | refine Ld1.r ?_) | ((with_reducible show Ld ..); first | refine Ld.h H ?_ | refine Ld.r ?_) | ((with_reducible show Ix ..); first | refine Ix.h ?_ | refine Ix.ha ?_) | (refine St.h H ?_; clear H; intro _ H)) | refine Sm.strix T.ok ?_)
  have hcho := fun w => C.choice (d + 1) ts4 w (by omega) hk4
  rw [← hwd] at hcho
  ((conv => whnf); refine Cl.mk (hcho _ (H.base2 HB) (H.atC 5 rfl) hg4 (Res.map_out (by rw [← hR]; exact hne))) ?_)
  rintro _ w5 ⟨⟨kd2, nm2, ⟨k1, o1, n1, a1, b1, A1, c1, l1⟩, B2, cb2, b2, E2, ce2, el2⟩, s5, rfl, ha5, hv5, H'⟩
  replace H := H.updn (c := rq ws A cw pr ⟨ts4, none⟩) (Hp.swap H') rfl (.inl rfl) (.inl rfl)
  clear H'
  ((conv => whnf); refine Al.hp H ?_; clear H; intro p8 _ H _)
  repeat' ((conv => whnf); first | ((with_reducible show Gd (bs _ == _) _ _); first | refine Gd.sY (by assumption) ?_ | refine Gd.sk (by assumption) ?_ | refine Gd.sN (by assumption) ?_) | ((conv => whnf); first | (((with_reducible show Gd ..); first | (with_reducible first | refine Gd.t ?_ | refine Gd.f ?_ | (first | apply Gd.dec | apply Gd.beq | apply Gd.bne) <;> intro _ | refine Gd.not ?_) | refine Gd.t ?_ | refine Gd.f ?_ | apply Gd.var <;> intro _) <;> try (exfalso; omega)) | with_reducible refine Sq.mk ?_ | ((with_reducible show Ld1 ..); first | refine Ld1.h H ?_ | refine Ld1.rF ?_ | refine Ld1.r ?_) | ((with_reducible show Ld ..); first | refine Ld.h H ?_ | refine Ld.r ?_) | ((with_reducible show Ix ..); first | refine Ix.h ?_ | refine Ix.ha ?_) | (refine St.h H ?_; clear H; intro _ H)) | refine Sm.strix T.ok ?_)
  refine Sm.lith (cs := SM.enc (.mk kd2 nm2 (.mk k1 o1 n1 a1 b1 A1 c1 l1) B2 cb2 b2 E2 ce2 el2)) H T.ok (fun p7 w6 H _ => ?_)
  have hfix : ∀ Γ w', Hp (· = pr) w w' (bk p7 76 (SM.enc (.mk kd2 nm2 (.mk k1 o1 n1 a1 b1 A1 c1 l1) B2 cb2 b2 E2 ce2 el2)) :: Γ) → Hp (· = pr) w w' (qu SM.enc 10 76 (some ⟨p7, 0, none⟩) 1 [.mk kd2 nm2 (.mk k1 o1 n1 a1 b1 A1 c1 l1) B2 cb2 b2 E2 ce2 el2] :: Γ) := fun Γ w' h => by
    have h1 : Hp (· = pr) w w' (bk p7 76 ([SM.mk kd2 nm2 (.mk k1 o1 n1 a1 b1 A1 c1 l1) B2 cb2 b2 E2 ce2 el2].flatMap SM.enc) :: Γ) := by simpa using h
    exact Hp.bq (sz := 10) h1 (fun z _ => SM.enc_len z)
  replace H := hfix _ _ H
  repeat' ((conv => whnf); first | ((with_reducible show Gd (bs _ == _) _ _); first | refine Gd.sY (by assumption) ?_ | refine Gd.sk (by assumption) ?_ | refine Gd.sN (by assumption) ?_) | ((conv => whnf); first | (((with_reducible show Gd ..); first | (with_reducible first | refine Gd.t ?_ | refine Gd.f ?_ | (first | apply Gd.dec | apply Gd.beq | apply Gd.bne) <;> intro _ | refine Gd.not ?_) | refine Gd.t ?_ | refine Gd.f ?_ | apply Gd.var <;> intro _) <;> try (exfalso; omega)) | with_reducible refine Sq.mk ?_ | ((with_reducible show Ld1 ..); first | refine Ld1.h H ?_ | refine Ld1.rF ?_ | refine Ld1.r ?_) | ((with_reducible show Ld ..); first | refine Ld.h H ?_ | refine Ld.r ?_) | ((with_reducible show Ix ..); first | refine Ix.h ?_ | refine Ix.ha ?_) | (refine St.h H ?_; clear H; intro _ H)) | refine Sm.strix T.ok ?_)
  replace H := (Hp.stlN (H.sel [0, 1, 1, 3, 4] rfl)).sel [2, 1, 0, 0] rfl
  refine ⟨.mk 4 [] (.mk kd o n nm cb A2 c2 l2) B cB b (some ⟨p7, 0, none⟩) 1 [.mk kd2 nm2 (.mk k1 o1 n1 a1 b1 A1 c1 l1) B2 cb2 b2 E2 ce2 el2], s5, sm_v rfl, by rw [hR]; exact ha5.map _, ?_, Hp.stsN 4 [] H⟩
  rw [hR]
  refine Vl.map (hv5.mono fun p h => ?_)
  rw [SM.e, SM.es, SM.es, h11, h12, h, id]; rfl
end
end Go.Proofs.YtfnjodpehomgfaaGreatDoor
namespace Go.Proofs.YtfnjodpehomgfaaGreatDoor
open Go Go.Sh Go.Tx
attribute [local irreducible] Blk Ext RdS
theorem loopB_s (F : PF) (d n : Nat) (l : List Go.Tx.St) (ts : List Tk) : loopB F d (n + 1) l ts = (if curK ts = s_rb then .ok l ts else (stmtP F d ts).bind fun s ts1 => loopB F d n (l ++ [s]) ts1) := rfl
def blkM {α : Type} (R : Res α) (n : Nat) (sp : Option (Int × Nat)) : Nat := (match R with | .ok _ _ => n + 2 | _ => 0) + (match sp with | none => 1 | _ => 0)
theorem blkM_le {α : Type} (R : Res α) (n : Nat) (sp : Option (Int × Nat)) : blkM R n sp ≤ n + 3 := by
  unfold blkM
  cases R <;> cases sp <;> simp <;> omega
section
variable {src : Bs} {ws : List Tk} {A : Option Addr} {cw pr : Nat} {wb : World}
variable (Y : RY src ws A cw pr wb) {F : PF} (C : RCon src ws A cw pr wb F)
include Y C
set_option maxHeartbeats 8000000 in
theorem stmt_if (d : Nat) (ts : List Tk) (w : World) (hd : d ≤ 41) (hk : curK ts = k_if) (hwb : Ext wb w) (h : RdQ ws A cw pr ⟨ts, none⟩ w) (hg : Gdw ts) (hne : ((deepP d ts).bind fun _ ts => choiceP F d ts) ≠ .out) :
    Cl Tryz.prog 83 #[.pointer (some ⟨pr, 0, none⟩), .int .i64 (d : Int)] w (OkRS ws A cw pr id ((deepP d ts).bind fun _ ts => choiceP F d ts) w) (fun _ _ => False) := by
  have X := Y.x
  have HB := X.ok hwb
  have hpl := h.pls X
  obtain ⟨t0, r0, rfl⟩ : ∃ t0 r0, ts = t0 :: r0 := by
    cases ts with
    | nil => exact absurd rfl (ends_ne hg.ends)
    | cons t0 r0 => exact ⟨t0, r0, rfl⟩
  have hk0 : t0.kind = k_if := hk
  have hrk : rKind (curT (⟨t0 :: r0, none⟩ : RS).ts) = k_if := (chk_ok hg.ok).1.trans hk
  have hst := step_at hg.ends hg.ok (by rw [hk]; decide)
  obtain ⟨R, hR⟩ : ∃ R, R = (deepP d (t0 :: r0)).bind fun _ ts => choiceP F d ts := ⟨_, rfl⟩
  rw [← hR] at hne ⊢
  refine calls_ex (args := [.pointer (some ⟨pr, 0, none⟩), .int .i64 (d : Int)]) T.ok Tryz.func83 rfl rfl rfl rfl ?_
  have H := Hp.start (S := (· = pr)) (rq_ok h) (fun k hk => hk)
  clear h
  refine Sq.mk ?_
  ((conv => whnf); refine Al.hp H ?_; clear H; intro p4 _ H _)
  repeat' ((conv => whnf); first | (((with_reducible show Gd ..); first | (with_reducible first | refine Gd.t ?_ | refine Gd.f ?_ | (first | apply Gd.dec | apply Gd.beq | apply Gd.bne) <;> intro _ | refine Gd.not ?_) | refine Gd.t ?_ | refine Gd.f ?_ | apply Gd.var <;> intro _) <;> try (exfalso; omega)) | with_reducible refine Sq.mk ?_ | ((with_reducible show Ld1 ..); first | refine Ld1.h H ?_ | refine Ld1.rF ?_ | refine Ld1.r ?_) | ((with_reducible show Ld ..); first | refine Ld.h H ?_ | refine Ld.r ?_) | ((with_reducible show Ix ..); first | refine Ix.h ?_ | refine Ix.ha ?_) | (refine St.h H ?_; clear H; intro _ H))
  (((conv => whnf); refine Cl.mk (next_r X ⟨t0 :: r0, none⟩ _ (H.base2 HB) (H.atC 1 rfl) (List.cons_ne_nil _ _)) ?_); rintro _ _ ⟨rfl, hx⟩; replace H := H.ext hx; clear hx)
  ((conv => whnf); refine Al.hp H ?_; clear H; intro p5 _ H _)
  repeat' ((conv => whnf); first | (((with_reducible show Gd ..); first | (with_reducible first | refine Gd.t ?_ | refine Gd.f ?_ | (first | apply Gd.dec | apply Gd.beq | apply Gd.bne) <;> intro _ | refine Gd.not ?_) | refine Gd.t ?_ | refine Gd.f ?_ | apply Gd.var <;> intro _) <;> try (exfalso; omega)) | with_reducible refine Sq.mk ?_ | ((with_reducible show Ld1 ..); first | refine Ld1.h H ?_ | refine Ld1.rF ?_ | refine Ld1.r ?_) | ((with_reducible show Ld ..); first | refine Ld.h H ?_ | refine Ld.r ?_) | ((with_reducible show Ix ..); first | refine Ix.h ?_ | refine Ix.ha ?_) | (refine St.h H ?_; clear H; intro _ H))
  (((conv => whnf); refine Cl.mk (begins_r (rKind (curT (⟨t0 :: r0, none⟩ : RS).ts)) _) ?_); rintro _ _ ⟨rfl, hx⟩; replace H := H.ext hx; clear hx)
  rw [show beginsB (rKind (curT (⟨t0 :: r0, none⟩ : RS).ts)) = true by rw [hrk]; rfl]
  by_cases h40 : d ≤ 40
  case neg =>
    have hdp : deepP d (t0 :: r0) = .err 144 t0.at_ := by unfold deepP; rw [if_pos (by omega)]; rfl
    rw [hdp] at hR
    replace hR : R = .err 144 t0.at_ := hR
    have hw : wrongR 144 ⟨t0 :: r0, none⟩ = ⟨t0 :: r0, some (144, t0.at_)⟩ := wrong_good rfl hg.ok hpl.cur.1
    repeat' ((conv => whnf); first | (((with_reducible show Gd ..); first | (with_reducible first | refine Gd.t ?_ | refine Gd.f ?_ | (first | apply Gd.dec | apply Gd.beq | apply Gd.bne) <;> intro _ | refine Gd.not ?_) | refine Gd.t ?_ | refine Gd.f ?_ | apply Gd.var <;> intro _) <;> try (exfalso; omega)) | with_reducible refine Sq.mk ?_ | ((with_reducible show Ld1 ..); first | refine Ld1.h H ?_ | refine Ld1.rF ?_ | refine Ld1.r ?_) | ((with_reducible show Ld ..); first | refine Ld.h H ?_ | refine Ld.r ?_) | ((with_reducible show Ix ..); first | refine Ix.h ?_ | refine Ix.ha ?_) | (refine St.h H ?_; clear H; intro _ H))
    all_goals first | (exfalso; omega) | skip
    ((conv => whnf); refine Cl.mk (wrong_r X 144 ⟨t0 :: r0, none⟩ _ (by decide) (H.base2 HB) (H.atC 2 rfl) (List.cons_ne_nil _ _)) ?_)
    rintro _ w3 H'
    rw [hw] at H'
    replace H := H.upd (c := rq ws A cw pr ⟨t0 :: r0, none⟩) H' rfl (.inl rfl)
    clear H'
    repeat' ((conv => whnf); first | (((with_reducible show Gd ..); first | (with_reducible first | refine Gd.t ?_ | refine Gd.f ?_ | (first | apply Gd.dec | apply Gd.beq | apply Gd.bne) <;> intro _ | refine Gd.not ?_) | refine Gd.t ?_ | refine Gd.f ?_ | apply Gd.var <;> intro _) <;> try (exfalso; omega)) | with_reducible refine Sq.mk ?_ | ((with_reducible show Ld1 ..); first | refine Ld1.h H ?_ | refine Ld1.rF ?_ | refine Ld1.r ?_) | ((with_reducible show Ld ..); first | refine Ld.h H ?_ | refine Ld.r ?_) | ((with_reducible show Ix ..); first | refine Ix.h ?_ | refine Ix.ha ?_) | (refine St.h H ?_; clear H; intro _ H))
    refine ⟨.mk 0 [] (.mk 0 0 0 [] [] none 0 []) none 0 [] none 0 [], _, sm_v rfl, ?_, by rw [hR]; exact Vl.err, Hp.stsE 0 [] (Hp.trsZ 0 0 0 [] [] (H.sel [2] rfl))⟩
    rw [hR]; exact ⟨hg.ends, .inl rfl⟩
  have hdp : deepP d (t0 :: r0) = .ok () (t0 :: r0) := by unfold deepP; rw [if_neg (by omega)]
  rw [hdp] at hR
  replace hR : R = (stepP false (t0 :: r0)).bind fun _ ts => choiceQ F d ts := by rw [hR]; exact choice_Q F d hk
  repeat' ((conv => whnf); first | ((with_reducible show Gd (bs _ == _) _ _); first | refine Gd.sY (by assumption) ?_ | refine Gd.sk (by assumption) ?_ | refine Gd.sN (by assumption) ?_) | ((conv => whnf); first | (((with_reducible show Gd ..); first | (with_reducible first | refine Gd.t ?_ | refine Gd.f ?_ | (first | apply Gd.dec | apply Gd.beq | apply Gd.bne) <;> intro _ | refine Gd.not ?_) | refine Gd.t ?_ | refine Gd.f ?_ | apply Gd.var <;> intro _) <;> try (exfalso; omega)) | with_reducible refine Sq.mk ?_ | ((with_reducible show Ld1 ..); first | refine Ld1.h H ?_ | refine Ld1.rF ?_ | refine Ld1.r ?_) | ((with_reducible show Ld ..); first | refine Ld.h H ?_ | refine Ld.r ?_) | ((with_reducible show Ix ..); first | refine Ix.h ?_ | refine Ix.ha ?_) | (refine St.h H ?_; clear H; intro _ H)) | refine Sm.strix T.ok ?_)
  all_goals first | (exfalso; omega) | skip
  (obtain ⟨j, hj1, hj2, hb0⟩ := H.atC (c := rq ws A cw pr (⟨t0 :: r0, none⟩)) 2 rfl; have hjl := X.lt hj1 (by first | exact List.cons_ne_nil _ _ | assumption); replace H := Hp.ofQ H hb0; clear hb0)
  repeat' ((conv => whnf); first | ((with_reducible show Gd (bs _ == _) _ _); first | refine Gd.sY (by assumption) ?_ | refine Gd.sk (by assumption) ?_ | refine Gd.sN (by assumption) ?_) | ((conv => whnf); first | (((with_reducible show Gd ..); first | (with_reducible first | refine Gd.t ?_ | refine Gd.f ?_ | (first | apply Gd.dec | apply Gd.beq | apply Gd.bne) <;> intro _ | refine Gd.not ?_) | refine Gd.t ?_ | refine Gd.f ?_ | apply Gd.var <;> intro _) <;> try (exfalso; omega)) | with_reducible refine Sq.mk ?_ | ((with_reducible show Ld1 ..); first | refine Ld1.h H ?_ | refine Ld1.rF ?_ | refine Ld1.r ?_) | ((with_reducible show Ld ..); first | refine Ld.h H ?_ | refine Ld.r ?_) | ((with_reducible show Ix ..); first | refine Ix.h ?_ | refine Ix.ha ?_) | (refine St.h H ?_; clear H; intro _ H)) | refine Sm.strix T.ok ?_)
  (have hwj : IntKind.i64.wrap ((j : Int) + 1) = ((j + 1 : Nat) : Int) := w64 rfl (by omega) (by omega); rw [hwj] at H; replace H := Hp.toQ (pr := pr) (s := ⟨r0, none⟩) (k := j + 1) H (List.tail_drop.symm.trans (congrArg List.tail hj1)) (fun e p h => by cases h); clear hwj hj1 hj2 hjl)
  ((conv => whnf); refine Cl.mk (choice_r Y C (stepP false (t0 :: r0)) d ⟨r0, none⟩ _ h40 (H.base2 HB) (H.atC 2 rfl) hst (by rw [← hR]; exact hne)) ?_)
  rintro _ w5 ⟨⟨kd2, nm2, ⟨k1, o1, n1, a1, b1, A1, c1, l1⟩, B2, cb2, b2, E2, ce2, el2⟩, s5, rfl, ha5, hv5, H'⟩
  replace H := H.updn (c := rq ws A cw pr ⟨r0, none⟩) (Hp.swap H') rfl (.inl rfl) (.inl rfl)
  clear H'
  repeat' ((conv => whnf); first | ((with_reducible show Gd (bs _ == _) _ _); first | refine Gd.sY (by assumption) ?_ | refine Gd.sk (by assumption) ?_ | refine Gd.sN (by assumption) ?_) | ((conv => whnf); first | (((with_reducible show Gd ..); first | (with_reducible first | refine Gd.t ?_ | refine Gd.f ?_ | (first | apply Gd.dec | apply Gd.beq | apply Gd.bne) <;> intro _ | refine Gd.not ?_) | refine Gd.t ?_ | refine Gd.f ?_ | apply Gd.var <;> intro _) <;> try (exfalso; omega)) | with_reducible refine Sq.mk ?_ | ((with_reducible show Ld1 ..); first | refine Ld1.h H ?_ | refine Ld1.rF ?_ | refine Ld1.r ?_) | ((with_reducible show Ld ..); first | refine Ld.h H ?_ | refine Ld.r ?_) | ((with_reducible show Ix ..); first | refine Ix.h ?_ | refine Ix.ha ?_) | (refine St.h H ?_; clear H; intro _ H)) | refine Sm.strix T.ok ?_)
  exact ⟨.mk kd2 nm2 (.mk k1 o1 n1 a1 b1 A1 c1 l1) B2 cb2 b2 E2 ce2 el2, s5, sm_v rfl, by rw [hR]; exact ha5, by rw [hR]; exact hv5, H.sel [0, 2] rfl⟩
set_option maxHeartbeats 8000000 in
theorem stmt_r (d : Nat) (ts : List Tk) (w : World) (hd : d ≤ 41) (hwb : Ext wb w) (h : RdQ ws A cw pr ⟨ts, none⟩ w) (hg : Gdw ts) (hne : stmtP F d ts ≠ .out) :
    Cl Tryz.prog 83 #[.pointer (some ⟨pr, 0, none⟩), .int .i64 (d : Int)] w (OkRS ws A cw pr id (stmtP F d ts) w) (fun _ _ => False) := by
  have X := Y.x
  have HB := X.ok hwb
  have hpl := h.pls X
  have hwd : IntKind.i64.wrap ((d : Int) + 1) = ((d + 1 : Nat) : Int) := w64 rfl (by omega) (by omega)
  by_cases hk : curK ts = k_if
  · have : stmtP F d ts = (deepP d ts).bind fun _ ts => F.choice d ts := by
      unfold stmtP
      rw [if_pos (by rw [hk]; decide)]
      unfold deepP
      split
      · rfl
      · show (if curK ts = k_if then _ else _) = _
        rw [if_pos hk]; rfl
    rw [this] at hne ⊢
    exact C.choice d ts w hd hk hwb h hg hne
  obtain ⟨t0, r0, rfl⟩ : ∃ t0 r0, ts = t0 :: r0 := by
    cases ts with
    | nil => exact absurd rfl (ends_ne hg.ends)
    | cons t0 r0 => exact ⟨t0, r0, rfl⟩
  have hk0 : ¬ t0.kind = k_if := hk
  have hrk : rKind t0 = t0.kind := (chk_ok hg.ok).1
  have herr : t0.err = 0 := (chk_ok hg.ok).2.1
  have hnif : ¬ rKind (curT (⟨t0 :: r0, none⟩ : RS).ts) = k_if := fun h => hk0 (hrk.symm.trans h)
  obtain ⟨R, hR⟩ : ∃ R, R = stmtP F d (t0 :: r0) := ⟨_, rfl⟩
  rw [← hR] at hne ⊢
  unfold stmtP at hR
  rw [show curK (t0 :: r0) = t0.kind from rfl] at hR
  refine calls_ex (args := [.pointer (some ⟨pr, 0, none⟩), .int .i64 (d : Int)]) T.ok Tryz.func83 rfl rfl rfl rfl ?_
  have H := Hp.start (S := (· = pr)) (rq_ok h) (fun k hk => hk)
  clear h
  refine Sq.mk ?_
  ((conv => whnf); refine Al.hp H ?_; clear H; intro p4 _ H _)
  repeat' ((conv => whnf); first | (((with_reducible show Gd ..); first | (with_reducible first | refine Gd.t ?_ | refine Gd.f ?_ | (first | apply Gd.dec | apply Gd.beq | apply Gd.bne) <;> intro _ | refine Gd.not ?_) | refine Gd.t ?_ | refine Gd.f ?_ | apply Gd.var <;> intro _) <;> try (exfalso; omega)) | with_reducible refine Sq.mk ?_ | ((with_reducible show Ld1 ..); first | refine Ld1.h H ?_ | refine Ld1.rF ?_ | refine Ld1.r ?_) | ((with_reducible show Ld ..); first | refine Ld.h H ?_ | refine Ld.r ?_) | ((with_reducible show Ix ..); first | refine Ix.h ?_ | refine Ix.ha ?_) | (refine St.h H ?_; clear H; intro _ H))
  (((conv => whnf); refine Cl.mk (next_r X ⟨t0 :: r0, none⟩ _ (H.base2 HB) (H.atC 1 rfl) (List.cons_ne_nil _ _)) ?_); rintro _ _ ⟨rfl, hx⟩; replace H := H.ext hx; clear hx)
  ((conv => whnf); refine Al.hp H ?_; clear H; intro p5 _ H _)
  repeat' ((conv => whnf); first | (((with_reducible show Gd ..); first | (with_reducible first | refine Gd.t ?_ | refine Gd.f ?_ | (first | apply Gd.dec | apply Gd.beq | apply Gd.bne) <;> intro _ | refine Gd.not ?_) | refine Gd.t ?_ | refine Gd.f ?_ | apply Gd.var <;> intro _) <;> try (exfalso; omega)) | with_reducible refine Sq.mk ?_ | ((with_reducible show Ld1 ..); first | refine Ld1.h H ?_ | refine Ld1.rF ?_ | refine Ld1.r ?_) | ((with_reducible show Ld ..); first | refine Ld.h H ?_ | refine Ld.r ?_) | ((with_reducible show Ix ..); first | refine Ix.h ?_ | refine Ix.ha ?_) | (refine St.h H ?_; clear H; intro _ H))
  (((conv => whnf); refine Cl.mk (begins_r (rKind (curT (⟨t0 :: r0, none⟩ : RS).ts)) _) ?_); rintro _ _ ⟨rfl, hx⟩; replace H := H.ext hx; clear hx)
  by_cases hbg : beginsB t0.kind = true
  case neg =>
    rw [show beginsB (rKind (curT (⟨t0 :: r0, none⟩ : RS).ts)) = false by show beginsB (rKind t0) = false; rw [hrk]; exact Bool.eq_false_iff.2 hbg]
    rw [if_neg hbg] at hR
    replace hR : R = .err 141 t0.at_ := hR
    have hw : wrongR 141 ⟨t0 :: r0, none⟩ = ⟨t0 :: r0, some (141, t0.at_)⟩ := wrong_good rfl hg.ok hpl.cur.1
    repeat' ((conv => whnf); first | (((with_reducible show Gd ..); first | (with_reducible first | refine Gd.t ?_ | refine Gd.f ?_ | (first | apply Gd.dec | apply Gd.beq | apply Gd.bne) <;> intro _ | refine Gd.not ?_) | refine Gd.t ?_ | refine Gd.f ?_ | apply Gd.var <;> intro _) <;> try (exfalso; omega)) | with_reducible refine Sq.mk ?_ | ((with_reducible show Ld1 ..); first | refine Ld1.h H ?_ | refine Ld1.rF ?_ | refine Ld1.r ?_) | ((with_reducible show Ld ..); first | refine Ld.h H ?_ | refine Ld.r ?_) | ((with_reducible show Ix ..); first | refine Ix.h ?_ | refine Ix.ha ?_) | (refine St.h H ?_; clear H; intro _ H))
    ((conv => whnf); refine Cl.mk (wrong_r X 141 ⟨t0 :: r0, none⟩ _ (by decide) (H.base2 HB) (H.atC 2 rfl) (List.cons_ne_nil _ _)) ?_)
    rintro _ w3 H'
    rw [hw] at H'
    replace H := H.upd (c := rq ws A cw pr ⟨t0 :: r0, none⟩) H' rfl (.inl rfl)
    clear H'
    repeat' ((conv => whnf); first | (((with_reducible show Gd ..); first | (with_reducible first | refine Gd.t ?_ | refine Gd.f ?_ | (first | apply Gd.dec | apply Gd.beq | apply Gd.bne) <;> intro _ | refine Gd.not ?_) | refine Gd.t ?_ | refine Gd.f ?_ | apply Gd.var <;> intro _) <;> try (exfalso; omega)) | with_reducible refine Sq.mk ?_ | ((with_reducible show Ld1 ..); first | refine Ld1.h H ?_ | refine Ld1.rF ?_ | refine Ld1.r ?_) | ((with_reducible show Ld ..); first | refine Ld.h H ?_ | refine Ld.r ?_) | ((with_reducible show Ix ..); first | refine Ix.h ?_ | refine Ix.ha ?_) | (refine St.h H ?_; clear H; intro _ H))
    refine ⟨.mk 0 [] (.mk 0 0 0 [] [] none 0 []) none 0 [] none 0 [], _, sm_v rfl, ?_, by rw [hR]; exact Vl.err, Hp.stsE 0 [] (Hp.trsZ 0 0 0 [] [] (H.sel [2] rfl))⟩
    rw [hR]; exact ⟨hg.ends, .inl rfl⟩
  rw [show beginsB (rKind (curT (⟨t0 :: r0, none⟩ : RS).ts)) = true by show beginsB (rKind t0) = true; rw [hrk]; exact hbg]
  rw [if_pos hbg] at hR
  have hend : t0.kind ≠ k_end := begins_ne hbg
  have hst := step_at hg.ends hg.ok hend
  by_cases h40 : d ≤ 40
  case neg =>
    have hdp : deepP d (t0 :: r0) = .err 144 t0.at_ := by unfold deepP; rw [if_pos (by omega)]; rfl
    rw [hdp] at hR
    replace hR : R = .err 144 t0.at_ := hR
    have hw : wrongR 144 ⟨t0 :: r0, none⟩ = ⟨t0 :: r0, some (144, t0.at_)⟩ := wrong_good rfl hg.ok hpl.cur.1
    repeat' ((conv => whnf); first | (((with_reducible show Gd ..); first | (with_reducible first | refine Gd.t ?_ | refine Gd.f ?_ | (first | apply Gd.dec | apply Gd.beq | apply Gd.bne) <;> intro _ | refine Gd.not ?_) | refine Gd.t ?_ | refine Gd.f ?_ | apply Gd.var <;> intro _) <;> try (exfalso; omega)) | with_reducible refine Sq.mk ?_ | ((with_reducible show Ld1 ..); first | refine Ld1.h H ?_ | refine Ld1.rF ?_ | refine Ld1.r ?_) | ((with_reducible show Ld ..); first | refine Ld.h H ?_ | refine Ld.r ?_) | ((with_reducible show Ix ..); first | refine Ix.h ?_ | refine Ix.ha ?_) | (refine St.h H ?_; clear H; intro _ H))
    all_goals first | (exfalso; omega) | skip
    ((conv => whnf); refine Cl.mk (wrong_r X 144 ⟨t0 :: r0, none⟩ _ (by decide) (H.base2 HB) (H.atC 2 rfl) (List.cons_ne_nil _ _)) ?_)
    rintro _ w3 H'
    rw [hw] at H'
    replace H := H.upd (c := rq ws A cw pr ⟨t0 :: r0, none⟩) H' rfl (.inl rfl)
    clear H'
    repeat' ((conv => whnf); first | (((with_reducible show Gd ..); first | (with_reducible first | refine Gd.t ?_ | refine Gd.f ?_ | (first | apply Gd.dec | apply Gd.beq | apply Gd.bne) <;> intro _ | refine Gd.not ?_) | refine Gd.t ?_ | refine Gd.f ?_ | apply Gd.var <;> intro _) <;> try (exfalso; omega)) | with_reducible refine Sq.mk ?_ | ((with_reducible show Ld1 ..); first | refine Ld1.h H ?_ | refine Ld1.rF ?_ | refine Ld1.r ?_) | ((with_reducible show Ld ..); first | refine Ld.h H ?_ | refine Ld.r ?_) | ((with_reducible show Ix ..); first | refine Ix.h ?_ | refine Ix.ha ?_) | (refine St.h H ?_; clear H; intro _ H))
    refine ⟨.mk 0 [] (.mk 0 0 0 [] [] none 0 []) none 0 [] none 0 [], _, sm_v rfl, ?_, by rw [hR]; exact Vl.err, Hp.stsE 0 [] (Hp.trsZ 0 0 0 [] [] (H.sel [2] rfl))⟩
    rw [hR]; exact ⟨hg.ends, .inl rfl⟩
  have hdp : deepP d (t0 :: r0) = .ok () (t0 :: r0) := by unfold deepP; rw [if_neg (by omega)]
  rw [hdp] at hR
  by_cases hwh : t0.kind = k_while
  · have hrw : rKind (curT (⟨t0 :: r0, none⟩ : RS).ts) = k_while := hrk.trans hwh
    replace hR : R = (((stepP false (t0 :: r0)).and fun _ ts => F.expr 0 d ts).and fun _ ts => F.block (d + 1) ts).map (fun p => .mk 5 [] p.1.2 p.2 []) := by
      rw [hR]
      show (if curK (t0 :: r0) = k_if then _ else if curK (t0 :: r0) = k_while then _ else _) = _
      rw [if_neg hk, if_pos (show curK (t0 :: r0) = k_while from hwh)]
      simp only [Res.map, Res.and_bind]
    repeat' ((conv => whnf); first | ((with_reducible show Gd (bs _ == _) _ _); first | refine Gd.sY (by assumption) ?_ | refine Gd.sk (by assumption) ?_ | refine Gd.sN (by assumption) ?_) | ((conv => whnf); first | (((with_reducible show Gd ..); first | (with_reducible first | refine Gd.t ?_ | refine Gd.f ?_ | (first | apply Gd.dec | apply Gd.beq | apply Gd.bne) <;> intro _ | refine Gd.not ?_) | refine Gd.t ?_ | refine Gd.f ?_ | apply Gd.var <;> intro _) <;> try (exfalso; omega)) | with_reducible refine Sq.mk ?_ | ((with_reducible show Ld1 ..); first | refine Ld1.h H ?_ | refine Ld1.rF ?_ | refine Ld1.r ?_) | ((with_reducible show Ld ..); first | refine Ld.h H ?_ | refine Ld.r ?_) | ((with_reducible show Ix ..); first | refine Ix.h ?_ | refine Ix.ha ?_) | (refine St.h H ?_; clear H; intro _ H)) | refine Sm.strix T.ok ?_)
    all_goals first | (exfalso; omega) | skip
    (obtain ⟨j, hj1, hj2, hb0⟩ := H.atC (c := rq ws A cw pr (⟨t0 :: r0, none⟩)) 2 rfl; have hjl := X.lt hj1 (by first | exact List.cons_ne_nil _ _ | assumption); replace H := Hp.ofQ H hb0; clear hb0)
    repeat' ((conv => whnf); first | ((with_reducible show Gd (bs _ == _) _ _); first | refine Gd.sY (by assumption) ?_ | refine Gd.sk (by assumption) ?_ | refine Gd.sN (by assumption) ?_) | ((conv => whnf); first | (((with_reducible show Gd ..); first | (with_reducible first | refine Gd.t ?_ | refine Gd.f ?_ | (first | apply Gd.dec | apply Gd.beq | apply Gd.bne) <;> intro _ | refine Gd.not ?_) | refine Gd.t ?_ | refine Gd.f ?_ | apply Gd.var <;> intro _) <;> try (exfalso; omega)) | with_reducible refine Sq.mk ?_ | ((with_reducible show Ld1 ..); first | refine Ld1.h H ?_ | refine Ld1.rF ?_ | refine Ld1.r ?_) | ((with_reducible show Ld ..); first | refine Ld.h H ?_ | refine Ld.r ?_) | ((with_reducible show Ix ..); first | refine Ix.h ?_ | refine Ix.ha ?_) | (refine St.h H ?_; clear H; intro _ H)) | refine Sm.strix T.ok ?_)
    (have hwj : IntKind.i64.wrap ((j : Int) + 1) = ((j + 1 : Nat) : Int) := w64 rfl (by omega) (by omega); rw [hwj] at H; replace H := Hp.toQ (pr := pr) (s := ⟨r0, none⟩) (k := j + 1) H (List.tail_drop.symm.trans (congrArg List.tail hj1)) (fun e p h => by cases h); clear hwj hj1 hj2 hjl)
    ((conv => whnf); refine Cl.mk (exprR Y C (stepP false (t0 :: r0)) 0 d ⟨r0, none⟩ _ (by omega) (by omega) (H.base2 HB) (H.atC 2 rfl) hst (Res.and_out (Res.map_out (by rw [← hR]; exact hne)))) ?_)
    rintro _ w3 ⟨⟨kd, o, n, nm, cb, A2, c2, l2⟩, s1, rfl, ha1, hv1, H'⟩
    replace H := H.updn (c := rq ws A cw pr ⟨r0, none⟩) (Hp.swap H') rfl (.inl rfl) (.inl rfl)
    clear H'
    ((conv => whnf); refine Al.hp H ?_; clear H; intro p6 _ H _)
    repeat' ((conv => whnf); first | ((with_reducible show Gd (bs _ == _) _ _); first | refine Gd.sY (by assumption) ?_ | refine Gd.sk (by assumption) ?_ | refine Gd.sN (by assumption) ?_) | ((conv => whnf); first | (((with_reducible show Gd ..); first | (with_reducible first | refine Gd.t ?_ | refine Gd.f ?_ | (first | apply Gd.dec | apply Gd.beq | apply Gd.bne) <;> intro _ | refine Gd.not ?_) | refine Gd.t ?_ | refine Gd.f ?_ | apply Gd.var <;> intro _) <;> try (exfalso; omega)) | with_reducible refine Sq.mk ?_ | ((with_reducible show Ld1 ..); first | refine Ld1.h H ?_ | refine Ld1.rF ?_ | refine Ld1.r ?_) | ((with_reducible show Ld ..); first | refine Ld.h H ?_ | refine Ld.r ?_) | ((with_reducible show Ix ..); first | refine Ix.h ?_ | refine Ix.ha ?_) | (refine St.h H ?_; clear H; intro _ H)) | refine Sm.strix T.ok ?_)
    have hblk := fun w => blockR Y C ((stepP false (t0 :: r0)).and fun _ ts => F.expr 0 d ts) (d + 1) s1 w (by omega)
    rw [← hwd] at hblk
    ((conv => whnf); refine Cl.mk (hblk _ (H.base2 HB) (H.atC 4 rfl) ha1 (Res.map_out (by rw [← hR]; exact hne))) ?_)
    rintro _ w4 ⟨B, cB, b, s2, rfl, ha2, hv2, H'⟩
    replace H := H.updn (c := rq ws A cw pr s1) (Hp.swap H') rfl (.inl rfl) (.inl rfl)
    clear H'
    repeat' ((conv => whnf); first | ((with_reducible show Gd (bs _ == _) _ _); first | refine Gd.sY (by assumption) ?_ | refine Gd.sk (by assumption) ?_ | refine Gd.sN (by assumption) ?_) | ((conv => whnf); first | (((with_reducible show Gd ..); first | (with_reducible first | refine Gd.t ?_ | refine Gd.f ?_ | (first | apply Gd.dec | apply Gd.beq | apply Gd.bne) <;> intro _ | refine Gd.not ?_) | refine Gd.t ?_ | refine Gd.f ?_ | apply Gd.var <;> intro _) <;> try (exfalso; omega)) | with_reducible refine Sq.mk ?_ | ((with_reducible show Ld1 ..); first | refine Ld1.h H ?_ | refine Ld1.rF ?_ | refine Ld1.r ?_) | ((with_reducible show Ld ..); first | refine Ld.h H ?_ | refine Ld.r ?_) | ((with_reducible show Ix ..); first | refine Ix.h ?_ | refine Ix.ha ?_) | (refine St.h H ?_; clear H; intro _ H)) | refine Sm.strix T.ok ?_)
    replace H := Hp.stl0 H
    refine ⟨.mk 5 [] (.mk kd o n nm cb A2 c2 l2) B cB b none 0 [], s2, sm_v rfl, by rw [hR]; exact ha2.map _, ?_, Hp.stsN 5 [] (H.sel [3, 1, 0, 3] rfl)⟩
    rw [hR]
    refine Vl.map (Vl.mono2 (Vl.fst hv1) hv2 fun a h1 h2 => ?_)
    simp only [SM.e, SM.es, id]
    rw [h1, h2]
  have hnw : ¬ rKind (curT (⟨t0 :: r0, none⟩ : RS).ts) = k_while := fun h => hwh (hrk.symm.trans h)
  replace hR : R = (((stepP false (t0 :: r0)).bind fun _ ts => plainQ F d t0 ts).and fun _ ts => takeP s_semi ts).map (fun p => p.1) := by
    rw [hR]
    show (if curK (t0 :: r0) = k_if then _ else if curK (t0 :: r0) = k_while then _ else _) = _
    rw [if_neg hk, if_neg (show ¬ curK (t0 :: r0) = k_while from hwh), plain_Q]
    simp only [Res.map, Res.and_bind]
  repeat' ((conv => whnf); first | ((with_reducible show Gd (bs _ == _) _ _); first | refine Gd.sY (by assumption) ?_ | refine Gd.sk (by assumption) ?_ | refine Gd.sN (by assumption) ?_) | ((conv => whnf); first | (((with_reducible show Gd ..); first | (with_reducible first | refine Gd.t ?_ | refine Gd.f ?_ | (first | apply Gd.dec | apply Gd.beq | apply Gd.bne) <;> intro _ | refine Gd.not ?_) | refine Gd.t ?_ | refine Gd.f ?_ | apply Gd.var <;> intro _) <;> try (exfalso; omega)) | with_reducible refine Sq.mk ?_ | ((with_reducible show Ld1 ..); first | refine Ld1.h H ?_ | refine Ld1.rF ?_ | refine Ld1.r ?_) | ((with_reducible show Ld ..); first | refine Ld.h H ?_ | refine Ld.r ?_) | ((with_reducible show Ix ..); first | refine Ix.h ?_ | refine Ix.ha ?_) | (refine St.h H ?_; clear H; intro _ H)) | refine Sm.strix T.ok ?_)
  all_goals first | (exfalso; omega) | skip
  (obtain ⟨j, hj1, hj2, hb0⟩ := H.atC (c := rq ws A cw pr (⟨t0 :: r0, none⟩)) 2 rfl; have hjl := X.lt hj1 (by first | exact List.cons_ne_nil _ _ | assumption); replace H := Hp.ofQ H hb0; clear hb0)
  repeat' ((conv => whnf); first | ((with_reducible show Gd (bs _ == _) _ _); first | refine Gd.sY (by assumption) ?_ | refine Gd.sk (by assumption) ?_ | refine Gd.sN (by assumption) ?_) | ((conv => whnf); first | (((with_reducible show Gd ..); first | (with_reducible first | refine Gd.t ?_ | refine Gd.f ?_ | (first | apply Gd.dec | apply Gd.beq | apply Gd.bne) <;> intro _ | refine Gd.not ?_) | refine Gd.t ?_ | refine Gd.f ?_ | apply Gd.var <;> intro _) <;> try (exfalso; omega)) | with_reducible refine Sq.mk ?_ | ((with_reducible show Ld1 ..); first | refine Ld1.h H ?_ | refine Ld1.rF ?_ | refine Ld1.r ?_) | ((with_reducible show Ld ..); first | refine Ld.h H ?_ | refine Ld.r ?_) | ((with_reducible show Ix ..); first | refine Ix.h ?_ | refine Ix.ha ?_) | (refine St.h H ?_; clear H; intro _ H)) | refine Sm.strix T.ok ?_)
  (have hwj : IntKind.i64.wrap ((j : Int) + 1) = ((j + 1 : Nat) : Int) := w64 rfl (by omega) (by omega); rw [hwj] at H; replace H := Hp.toQ (pr := pr) (s := ⟨r0, none⟩) (k := j + 1) H (List.tail_drop.symm.trans (congrArg List.tail hj1)) (fun e p h => by cases h); clear hwj hj1 hj2 hjl)
  ((conv => whnf); refine Cl.mk (plain_r Y C (stepP false (t0 :: r0)) d t0 ⟨r0, none⟩ _ (by omega) (H.base2 HB) (H.atC 2 rfl) hst hrk herr hbg hk0 hwh (Res.and_out (Res.map_out (by rw [← hR]; exact hne)))) ?_)
  rintro _ w5 ⟨⟨kd2, nm2, ⟨k1, o1, n1, a1, b1, A1, c1, l1⟩, B2, cb2, b2, E2, ce2, el2⟩, s5, rfl, ha5, hv5, H'⟩
  replace H := H.updn (c := rq ws A cw pr ⟨r0, none⟩) (Hp.swap H') rfl (.inl rfl) (.inl rfl)
  clear H'
  ((conv => whnf); refine Al.hp H ?_; clear H; intro p8 _ H _)
  repeat' ((conv => whnf); first | ((with_reducible show Gd (bs _ == _) _ _); first | refine Gd.sY (by assumption) ?_ | refine Gd.sk (by assumption) ?_ | refine Gd.sN (by assumption) ?_) | ((conv => whnf); first | (((with_reducible show Gd ..); first | (with_reducible first | refine Gd.t ?_ | refine Gd.f ?_ | (first | apply Gd.dec | apply Gd.beq | apply Gd.bne) <;> intro _ | refine Gd.not ?_) | refine Gd.t ?_ | refine Gd.f ?_ | apply Gd.var <;> intro _) <;> try (exfalso; omega)) | with_reducible refine Sq.mk ?_ | ((with_reducible show Ld1 ..); first | refine Ld1.h H ?_ | refine Ld1.rF ?_ | refine Ld1.r ?_) | ((with_reducible show Ld ..); first | refine Ld.h H ?_ | refine Ld.r ?_) | ((with_reducible show Ix ..); first | refine Ix.h ?_ | refine Ix.ha ?_) | (refine St.h H ?_; clear H; intro _ H)) | refine Sm.strix T.ok ?_)
  (((conv => whnf); refine Cl.mk (takeRR Y C s_semi ((stepP false (t0 :: r0)).bind fun _ ts => plainQ F d t0 ts) s5 _ (H.base2 HB) (H.atC 4 rfl) ha5 (by decide) (by decide) (by decide)) ?_); rintro _ w3 ⟨kd_, pp_, tx2, ee_, s6, rfl, ha6, hv6, H'⟩; replace H := H.upd (c := rq ws A cw pr s5) H' rfl (.inl rfl); clear H')
  repeat' ((conv => whnf); first | ((with_reducible show Gd (bs _ == _) _ _); first | refine Gd.sY (by assumption) ?_ | refine Gd.sk (by assumption) ?_ | refine Gd.sN (by assumption) ?_) | ((conv => whnf); first | (((with_reducible show Gd ..); first | (with_reducible first | refine Gd.t ?_ | refine Gd.f ?_ | (first | apply Gd.dec | apply Gd.beq | apply Gd.bne) <;> intro _ | refine Gd.not ?_) | refine Gd.t ?_ | refine Gd.f ?_ | apply Gd.var <;> intro _) <;> try (exfalso; omega)) | with_reducible refine Sq.mk ?_ | ((with_reducible show Ld1 ..); first | refine Ld1.h H ?_ | refine Ld1.rF ?_ | refine Ld1.r ?_) | ((with_reducible show Ld ..); first | refine Ld.h H ?_ | refine Ld.r ?_) | ((with_reducible show Ix ..); first | refine Ix.h ?_ | refine Ix.ha ?_) | (refine St.h H ?_; clear H; intro _ H)) | refine Sm.strix T.ok ?_)
  refine ⟨.mk kd2 nm2 (.mk k1 o1 n1 a1 b1 A1 c1 l1) B2 cb2 b2 E2 ce2 el2, s6, sm_v rfl, by rw [hR]; exact ha6.map _, ?_, H.sel [1, 3] rfl⟩
  rw [hR]
  exact Vl.map (g := fun p : Go.Tx.St × Tk => p.1) (Vl.fst hv5)
set_option maxHeartbeats 8000000 in
theorem block_r (d : Nat) (ts : List Tk) (w : World) (hd : d ≤ 41) (hwb : Ext wb w) (h : RdQ ws A cw pr ⟨ts, none⟩ w) (hg : Gdw ts) (hne : blockP F d ts ≠ .out) :
    Cl Tryz.prog 54 #[.pointer (some ⟨pr, 0, none⟩), .int .i64 (d : Int)] w (OkRB ws A cw pr id (blockP F d ts) w) (fun _ _ => False) := by
  have X := Y.x
  have HB := X.ok hwb
  have hsm := h.small X
  obtain ⟨R, hR⟩ : ∃ R, R = blockP F d ts := ⟨_, rfl⟩
  rw [← hR] at hne ⊢
  refine calls_ex (args := [.pointer (some ⟨pr, 0, none⟩), .int .i64 (d : Int)]) T.ok Tryz.func54 rfl rfl rfl rfl ?_
  have H := Hp.start (S := (· = pr)) (rq_ok h) (fun k hk => hk)
  clear h
  repeat' ((conv => whnf); first | (((with_reducible show Gd ..); first | (with_reducible first | refine Gd.t ?_ | refine Gd.f ?_ | (first | apply Gd.dec | apply Gd.beq | apply Gd.bne) <;> intro _ | refine Gd.not ?_) | refine Gd.t ?_ | refine Gd.f ?_ | apply Gd.var <;> intro _) <;> try (exfalso; omega)) | with_reducible refine Sq.mk ?_ | ((with_reducible show Ld1 ..); first | refine Ld1.h H ?_ | refine Ld1.rF ?_ | refine Ld1.r ?_) | ((with_reducible show Ld ..); first | refine Ld.h H ?_ | refine Ld.r ?_) | ((with_reducible show Ix ..); first | refine Ix.h ?_ | refine Ix.ha ?_) | (refine St.h H ?_; clear H; intro _ H))
  have ha0 := hg.at ()
  (((conv => whnf); refine Cl.mk (takeRR Y C s_lb ((.ok () ts : Res Unit)) ⟨ts, none⟩ _ (H.base2 HB) (H.atC 0 rfl) ha0 (by decide) (by decide) (by decide)) ?_); rintro _ w3 ⟨kd_, pp_, tx0, ee_, s1, rfl, ha1, hv1, H'⟩; replace H := H.upd (c := rq ws A cw pr ⟨ts, none⟩) H' rfl (.inl rfl); clear H')
  replace H := Hp.nil (Hp.sts0 H) SM.enc 10 76
  have hsm1 := RdQ.small X (H.atC (c := rq ws A cw pr s1) 2 rfl)
  have hR1 : ∃ n, n ≤ 20001 ∧ R = (((.ok () ts : Res Unit).and fun _ ts => takeP s_lb ts).map (fun _ => ([] : List Go.Tx.St))).bind fun L ts1 => (loopB F d n L ts1).bind fun l ts2 => (takeP s_rb ts2).bind fun _ ts3 => .ok l ts3 := by
    have key : ∀ n, ((((.ok () ts : Res Unit).and fun _ ts => takeP s_lb ts).map (fun _ => ([] : List Go.Tx.St))).bind fun L ts1 => (loopB F d n L ts1).bind fun l ts2 => (takeP s_rb ts2).bind fun _ ts3 => .ok l ts3) = (takeP s_lb ts).bind fun _ ts1 => (loopB F d n [] ts1).bind fun l ts2 => (takeP s_rb ts2).bind fun _ ts3 => .ok l ts3 := fun n => by
      rw [Res.map_bind, Res.and_bind]; rfl
    simp only [key]
    rw [hR]
    unfold blockP
    cases hx : takeP s_lb ts with
    | out => exact ⟨0, by omega, rfl⟩
    | err e p => exact ⟨0, by omega, rfl⟩
    | ok t ts1 =>
      have hts1 : ts1.length ≤ 20000 := by
        have h1 : AtR (.ok ((), t) ts1 : Res (Unit × Tk)) s1 := ha1.same (by show (takeP s_lb ts).bind _ = _; rw [hx]; rfl)
        have := h1.gd.1
        rw [this] at hsm1
        exact hsm1
      exact ⟨ts1.length + 1, by omega, rfl⟩
  obtain ⟨n0, hn0, hR1⟩ := hR1
  repeat' ((conv => whnf); first | (((with_reducible show Gd ..); first | (with_reducible first | refine Gd.t ?_ | refine Gd.f ?_ | (first | apply Gd.dec | apply Gd.beq | apply Gd.bne) <;> intro _ | refine Gd.not ?_) | refine Gd.t ?_ | refine Gd.f ?_ | apply Gd.var <;> intro _) <;> try (exfalso; omega)) | with_reducible refine Sq.mk ?_ | ((with_reducible show Ld1 ..); first | refine Ld1.h H ?_ | refine Ld1.rF ?_ | refine Ld1.r ?_) | ((with_reducible show Ld ..); first | refine Ld.h H ?_ | refine Ld.r ?_) | ((with_reducible show Ix ..); first | refine Ix.h ?_ | refine Ix.ha ?_) | (refine St.h H ?_; clear H; intro _ H))
  refine Lp.g0 T.ok (σ := Res (List Go.Tx.St) × Nat × Option Addr × Nat × List SM × RS) (fun q => [(5, .slice q.2.2.1 q.2.2.2.2.1.length q.2.2.2.1), (0, .pointer (some ⟨pr, 0, none⟩)), (1, .int .i64 (d : Int))])
    (fun q w' => R = q.1.bind (fun L ts1 => (loopB F d q.2.1 L ts1).bind fun l ts2 => (takeP s_rb ts2).bind fun _ ts3 => .ok l ts3) ∧ AtR q.1 q.2.2.2.2.2 ∧ Vl q.1 (fun a => SM.es q.2.2.2.2.1 = a) ∧ (q.2.2.2.2.2.sp = none → q.2.1 + q.2.2.2.2.1.length ≤ 20002) ∧ q.2.2.2.2.1.length ≤ 20003 ∧ Hp (· = pr) w w' [qu SM.enc 10 76 q.2.2.1 q.2.2.2.1 q.2.2.2.2.1, sts q.2.2.2.2.1, rq ws A cw pr q.2.2.2.2.2]) (fun q _ => blkM q.1 q.2.1 q.2.2.2.2.2.sp)
    (((.ok () ts : Res Unit).and fun _ ts => takeP s_lb ts).map (fun _ => []), n0, none, 0, [], s1) rfl ⟨rfl, rfl, rfl, trivial⟩ ⟨hR1, ha1.map _, Vl.map (g := fun _ => ([] : List Go.Tx.St)) (fun _ _ _ => rfl), fun _ => by simp only [List.length_nil]; omega, by simp, H⟩ ?_
  clear H hR hR1 ha1 hv1 ha0 hsm1
  rintro ⟨Rc, n, B, c, l, s⟩ w5 ⟨hR, ha, hv, hn, hl, H⟩
  simp only at hR ha hv hn hl H ⊢
  repeat' ((conv => whnf); first | (((with_reducible show Gd ..); first | (with_reducible first | refine Gd.t ?_ | refine Gd.f ?_ | (first | apply Gd.dec | apply Gd.beq | apply Gd.bne) <;> intro _ | refine Gd.not ?_) | refine Gd.t ?_ | refine Gd.f ?_ | apply Gd.var <;> intro _) <;> try (exfalso; omega)) | with_reducible refine Sq.mk ?_ | ((with_reducible show Ld1 ..); first | refine Ld1.h H ?_ | refine Ld1.rF ?_ | refine Ld1.r ?_) | ((with_reducible show Ld ..); first | refine Ld.h H ?_ | refine Ld.r ?_) | ((with_reducible show Ix ..); first | refine Ix.h ?_ | refine Ix.ha ?_) | (refine St.h H ?_; clear H; intro _ H))
  (((conv => whnf); refine Cl.mk (fine_r X s _ (H.atC 2 rfl)) ?_); rintro _ _ ⟨rfl, hx⟩; replace H := H.ext hx; clear hx)
  obtain ⟨ts, sp⟩ := s
  cases sp with
  | some x =>
    have hexit : R = (Rc.and fun _ ts => takeP s_rb ts).map (fun p => p.1) := by
      rw [hR]
      cases Rc with
      | out => rfl
      | err e p => rfl
      | ok a ts1 =>
        have := ha.gd.1
        cases this
    ((repeat' ((conv => whnf); first | (((with_reducible show Gd ..); first | (with_reducible first | refine Gd.t ?_ | refine Gd.f ?_ | (first | apply Gd.dec | apply Gd.beq | apply Gd.bne) <;> intro _ | refine Gd.not ?_) | refine Gd.t ?_ | refine Gd.f ?_ | apply Gd.var <;> intro _) <;> try (exfalso; omega)) | with_reducible refine Sq.mk ?_ | ((with_reducible show Ld1 ..); first | refine Ld1.h H ?_ | refine Ld1.rF ?_ | refine Ld1.r ?_) | ((with_reducible show Ld ..); first | refine Ld.h H ?_ | refine Ld.r ?_) | ((with_reducible show Ix ..); first | refine Ix.h ?_ | refine Ix.ha ?_) | (refine St.h H ?_; clear H; intro _ H))); (((conv => whnf); refine Cl.mk (takeRR Y C s_rb (Rc) ⟨ts, some x⟩ _ (H.base2 HB) (H.atC 2 rfl) ha (by decide) (by decide) (by decide)) ?_); rintro _ w3 ⟨kd_, pp_, tx2, ee_, s6, rfl, ha6, hv6, H'⟩; replace H := H.upd (c := rq ws A cw pr ⟨ts, some x⟩) H' rfl (.inl rfl); clear H'); (repeat' ((conv => whnf); first | (((with_reducible show Gd ..); first | (with_reducible first | refine Gd.t ?_ | refine Gd.f ?_ | (first | apply Gd.dec | apply Gd.beq | apply Gd.bne) <;> intro _ | refine Gd.not ?_) | refine Gd.t ?_ | refine Gd.f ?_ | apply Gd.var <;> intro _) <;> try (exfalso; omega)) | with_reducible refine Sq.mk ?_ | ((with_reducible show Ld1 ..); first | refine Ld1.h H ?_ | refine Ld1.rF ?_ | refine Ld1.r ?_) | ((with_reducible show Ld ..); first | refine Ld.h H ?_ | refine Ld.r ?_) | ((with_reducible show Ix ..); first | refine Ix.h ?_ | refine Ix.ha ?_) | (refine St.h H ?_; clear H; intro _ H))); exact ⟨B, c, l, s6, rfl, by rw [hexit]; exact ha6.map _, by rw [hexit]; exact Vl.map (g := fun p : List Go.Tx.St × Tk => p.1) (Vl.fst hv), Hp.stlN H⟩)
  | none =>
    repeat' ((conv => whnf); first | (((with_reducible show Gd ..); first | (with_reducible first | refine Gd.t ?_ | refine Gd.f ?_ | (first | apply Gd.dec | apply Gd.beq | apply Gd.bne) <;> intro _ | refine Gd.not ?_) | refine Gd.t ?_ | refine Gd.f ?_ | apply Gd.var <;> intro _) <;> try (exfalso; omega)) | with_reducible refine Sq.mk ?_ | ((with_reducible show Ld1 ..); first | refine Ld1.h H ?_ | refine Ld1.rF ?_ | refine Ld1.r ?_) | ((with_reducible show Ld ..); first | refine Ld.h H ?_ | refine Ld.r ?_) | ((with_reducible show Ix ..); first | refine Ix.h ?_ | refine Ix.ha ?_) | (refine St.h H ?_; clear H; intro _ H))
    (((conv => whnf); refine Cl.mk (is_r X s_rb ⟨ts, none⟩ _ (H.base2 HB) (H.atC 2 rfl) (ends_ne ha.ends)) ?_); rintro _ _ ⟨rfl, hx⟩; replace H := H.ext hx; clear hx)
    by_cases hrb : isR s_rb ⟨ts, none⟩ = true
    · rw [hrb]
      have hexit : R = (Rc.and fun _ ts => takeP s_rb ts).map (fun p => p.1) := by
        rw [hR]
        cases Rc with
        | out => rfl
        | err e p => rfl
        | ok a ts1 =>
          rw [is_ok ha] at hrb
          have hk : curK ts1 = s_rb := by simpa using hrb
          cases n with
          | zero => exact absurd hR hne
          | succ n =>
            show ((loopB F d (n + 1) a ts1).bind _) = ((takeP s_rb ts1).bind _).bind _
            rw [loopB_s, if_pos hk]
            show (takeP s_rb ts1).bind _ = _
            cases takeP s_rb ts1 <;> rfl
      ((repeat' ((conv => whnf); first | (((with_reducible show Gd ..); first | (with_reducible first | refine Gd.t ?_ | refine Gd.f ?_ | (first | apply Gd.dec | apply Gd.beq | apply Gd.bne) <;> intro _ | refine Gd.not ?_) | refine Gd.t ?_ | refine Gd.f ?_ | apply Gd.var <;> intro _) <;> try (exfalso; omega)) | with_reducible refine Sq.mk ?_ | ((with_reducible show Ld1 ..); first | refine Ld1.h H ?_ | refine Ld1.rF ?_ | refine Ld1.r ?_) | ((with_reducible show Ld ..); first | refine Ld.h H ?_ | refine Ld.r ?_) | ((with_reducible show Ix ..); first | refine Ix.h ?_ | refine Ix.ha ?_) | (refine St.h H ?_; clear H; intro _ H))); (((conv => whnf); refine Cl.mk (takeRR Y C s_rb (Rc) ⟨ts, none⟩ _ (H.base2 HB) (H.atC 2 rfl) ha (by decide) (by decide) (by decide)) ?_); rintro _ w3 ⟨kd_, pp_, tx2, ee_, s6, rfl, ha6, hv6, H'⟩; replace H := H.upd (c := rq ws A cw pr ⟨ts, none⟩) H' rfl (.inl rfl); clear H'); (repeat' ((conv => whnf); first | (((with_reducible show Gd ..); first | (with_reducible first | refine Gd.t ?_ | refine Gd.f ?_ | (first | apply Gd.dec | apply Gd.beq | apply Gd.bne) <;> intro _ | refine Gd.not ?_) | refine Gd.t ?_ | refine Gd.f ?_ | apply Gd.var <;> intro _) <;> try (exfalso; omega)) | with_reducible refine Sq.mk ?_ | ((with_reducible show Ld1 ..); first | refine Ld1.h H ?_ | refine Ld1.rF ?_ | refine Ld1.r ?_) | ((with_reducible show Ld ..); first | refine Ld.h H ?_ | refine Ld.r ?_) | ((with_reducible show Ix ..); first | refine Ix.h ?_ | refine Ix.ha ?_) | (refine St.h H ?_; clear H; intro _ H))); exact ⟨B, c, l, s6, rfl, by rw [hexit]; exact ha6.map _, by rw [hexit]; exact Vl.map (g := fun p : List Go.Tx.St × Tk => p.1) (Vl.fst hv), Hp.stlN H⟩)
    rw [Bool.eq_false_iff.2 hrb]
    repeat' ((conv => whnf); first | (((with_reducible show Gd ..); first | (with_reducible first | refine Gd.t ?_ | refine Gd.f ?_ | (first | apply Gd.dec | apply Gd.beq | apply Gd.bne) <;> intro _ | refine Gd.not ?_) | refine Gd.t ?_ | refine Gd.f ?_ | apply Gd.var <;> intro _) <;> try (exfalso; omega)) | with_reducible refine Sq.mk ?_ | ((with_reducible show Ld1 ..); first | refine Ld1.h H ?_ | refine Ld1.rF ?_ | refine Ld1.r ?_) | ((with_reducible show Ld ..); first | refine Ld.h H ?_ | refine Ld.r ?_) | ((with_reducible show Ix ..); first | refine Ix.h ?_ | refine Ix.ha ?_) | (refine St.h H ?_; clear H; intro _ H))
    cases Rc with
    | out => exact absurd hR hne
    | err e p =>
      ((conv => whnf); refine Cl.mk (stmtD Y d ts _ (H.base2 HB) (H.atC 2 rfl) ha.toErr) ?_)
      rintro _ w5 ⟨⟨kd2, nm2, ⟨k1, o1, n1, a1, b1, A1, c1, l1⟩, B2, cb2, b2, E2, ce2, el2⟩, rfl, H'⟩
      replace H := H.updn (c := rq ws A cw pr ⟨ts, none⟩) (Hp.swap H') rfl (.inl rfl) (.inl rfl)
      clear H'
      ((conv => whnf); refine Al.hp H ?_; clear H; intro p6 _ H _)
      repeat' ((conv => whnf); first | (((with_reducible show Gd ..); first | (with_reducible first | refine Gd.t ?_ | refine Gd.f ?_ | (first | apply Gd.dec | apply Gd.beq | apply Gd.bne) <;> intro _ | refine Gd.not ?_) | refine Gd.t ?_ | refine Gd.f ?_ | apply Gd.var <;> intro _) <;> try (exfalso; omega)) | with_reducible refine Sq.mk ?_ | ((with_reducible show Ld1 ..); first | refine Ld1.h H ?_ | refine Ld1.rF ?_ | refine Ld1.r ?_) | ((with_reducible show Ld ..); first | refine Ld.h H ?_ | refine Ld.r ?_) | ((with_reducible show Ix ..); first | refine Ix.h ?_ | refine Ix.ha ?_) | (refine St.h H ?_; clear H; intro _ H))
      refine Sm.lith (cs := SM.enc (.mk kd2 nm2 (.mk k1 o1 n1 a1 b1 A1 c1 l1) B2 cb2 b2 E2 ce2 el2)) H T.ok (fun p5 w4 H _ => ?_)
      refine Sm.ap1 (enc := SM.enc) (.mk kd2 nm2 (.mk k1 o1 n1 a1 b1 A1 c1 l1) B2 cb2 b2 E2 ce2 el2) H T.ok ?_ ?_ (fun A' c' w6 H => ?_)
      · show (l.length + 1) * 152 ≤ _; omega
      · omega
      simp only [List.cons_append, List.nil_append] at H
      repeat' ((conv => whnf); first | (((with_reducible show Gd ..); first | (with_reducible first | refine Gd.t ?_ | refine Gd.f ?_ | (first | apply Gd.dec | apply Gd.beq | apply Gd.bne) <;> intro _ | refine Gd.not ?_) | refine Gd.t ?_ | refine Gd.f ?_ | apply Gd.var <;> intro _) <;> try (exfalso; omega)) | with_reducible refine Sq.mk ?_ | ((with_reducible show Ld1 ..); first | refine Ld1.h H ?_ | refine Ld1.rF ?_ | refine Ld1.r ?_) | ((with_reducible show Ld ..); first | refine Ld.h H ?_ | refine Ld.r ?_) | ((with_reducible show Ix ..); first | refine Ix.h ?_ | refine Ix.ha ?_) | (refine St.h H ?_; clear H; intro _ H))
      have hnn := hn rfl
      refine ⟨(.err e p, 0, A', c', l ++ [.mk kd2 nm2 (.mk k1 o1 n1 a1 b1 A1 c1 l1) B2 cb2 b2 E2 ce2 el2], ⟨ts, some (e, p)⟩), ⟨at_val rfl (by simp), rfl, rfl, trivial⟩, rfl, ⟨hR, ⟨ha.ends, .inl rfl⟩, Vl.err, (fun h => by cases h), ?_, ?_⟩, by simp [blkM]⟩
      · simp only [List.length_append, List.length_cons, List.length_nil]; omega
      · exact Hp.swap (Hp.stsS (H.sel [1, 2, 1, 1] rfl))
    | ok L ts1 =>
      obtain ⟨hs, hg⟩ := ha.gd
      obtain rfl : ts = ts1 := by cases hs; rfl
      rw [is_ok ha] at hrb
      have hk : ¬ curK ts = s_rb := by simpa using hrb
      cases n with
      | zero => exact absurd hR hne
      | succ n =>
      replace hR : R = ((stmtP F d ts).map (fun s => L ++ [s])).bind fun L ts1 => (loopB F d n L ts1).bind fun l ts2 => (takeP s_rb ts2).bind fun _ ts3 => .ok l ts3 := by
        rw [hR, Res.map_bind]
        show ((loopB F d (n + 1) L ts).bind _) = _
        rw [loopB_s, if_neg hk, Res.bind_assoc]
      ((conv => whnf); refine Cl.mk (stmt_r Y C d ts _ hd (H.base2 HB) (H.atC 2 rfl) hg (Res.map_out (Res.bind_out (by rw [← hR]; exact hne)))) ?_)
      rintro _ w5 ⟨⟨kd2, nm2, ⟨k1, o1, n1, a1, b1, A1, c1, l1⟩, B2, cb2, b2, E2, ce2, el2⟩, s5, rfl, ha5, hv5, H'⟩
      replace H := H.updn (c := rq ws A cw pr ⟨ts, none⟩) (Hp.swap H') rfl (.inl rfl) (.inl rfl)
      clear H'
      ((conv => whnf); refine Al.hp H ?_; clear H; intro p6 _ H _)
      repeat' ((conv => whnf); first | (((with_reducible show Gd ..); first | (with_reducible first | refine Gd.t ?_ | refine Gd.f ?_ | (first | apply Gd.dec | apply Gd.beq | apply Gd.bne) <;> intro _ | refine Gd.not ?_) | refine Gd.t ?_ | refine Gd.f ?_ | apply Gd.var <;> intro _) <;> try (exfalso; omega)) | with_reducible refine Sq.mk ?_ | ((with_reducible show Ld1 ..); first | refine Ld1.h H ?_ | refine Ld1.rF ?_ | refine Ld1.r ?_) | ((with_reducible show Ld ..); first | refine Ld.h H ?_ | refine Ld.r ?_) | ((with_reducible show Ix ..); first | refine Ix.h ?_ | refine Ix.ha ?_) | (refine St.h H ?_; clear H; intro _ H))
      refine Sm.lith (cs := SM.enc (.mk kd2 nm2 (.mk k1 o1 n1 a1 b1 A1 c1 l1) B2 cb2 b2 E2 ce2 el2)) H T.ok (fun p5 w4 H _ => ?_)
      refine Sm.ap1 (enc := SM.enc) (.mk kd2 nm2 (.mk k1 o1 n1 a1 b1 A1 c1 l1) B2 cb2 b2 E2 ce2 el2) H T.ok ?_ ?_ (fun A' c' w6 H => ?_)
      · show (l.length + 1) * 152 ≤ _; omega
      · omega
      simp only [List.cons_append, List.nil_append] at H
      repeat' ((conv => whnf); first | (((with_reducible show Gd ..); first | (with_reducible first | refine Gd.t ?_ | refine Gd.f ?_ | (first | apply Gd.dec | apply Gd.beq | apply Gd.bne) <;> intro _ | refine Gd.not ?_) | refine Gd.t ?_ | refine Gd.f ?_ | apply Gd.var <;> intro _) <;> try (exfalso; omega)) | with_reducible refine Sq.mk ?_ | ((with_reducible show Ld1 ..); first | refine Ld1.h H ?_ | refine Ld1.rF ?_ | refine Ld1.r ?_) | ((with_reducible show Ld ..); first | refine Ld.h H ?_ | refine Ld.r ?_) | ((with_reducible show Ix ..); first | refine Ix.h ?_ | refine Ix.ha ?_) | (refine St.h H ?_; clear H; intro _ H))
      have hnn := hn rfl
      have hle : SM.es l = L := hv L _ rfl
      refine ⟨((stmtP F d ts).map (fun s => L ++ [s]), n, A', c', l ++ [.mk kd2 nm2 (.mk k1 o1 n1 a1 b1 A1 c1 l1) B2 cb2 b2 E2 ce2 el2], s5), ⟨at_val rfl (by simp), rfl, rfl, trivial⟩, rfl, ⟨hR, ha5.map _, ?_, fun _ => ?_, ?_, ?_⟩, ?_⟩
      · refine Vl.map (hv5.mono fun a h => ?_)
        rw [SM.es_app, hle]
        simp only [SM.es]
        rw [h]; rfl
      · simp only [List.length_append, List.length_cons, List.length_nil]; omega
      · simp only [List.length_append, List.length_cons, List.length_nil]; omega
      · exact Hp.swap (Hp.stsS (H.sel [1, 2, 1, 1] rfl))
      · exact Nat.lt_of_le_of_lt (blkM_le _ _ _) (by show n + 3 < (n + 1 + 2) + 1; omega)
end
end Go.Proofs.YtfnjodpehomgfaaGreatDoor
namespace Go.Proofs.YtfnjodpehomgfaaGreatDoor
open Go Go.Sh Go.Tx
attribute [local irreducible] Blk Ext RdS
theorem begins_or {k : Bs} (h : beginsB k = true) : k = k_let ∨ k = k_spawn ∨ k = k_sync ∨ k = k_if ∨ k = k_while ∨ k = k_do ∨ k = k_return ∨ k = k_break ∨ k = k_continue ∨ k = k_name := by
  simp only [beginsB, Bool.or_eq_true, beq_iff_eq] at h
  rcases h with ((((((((h | h) | h) | h) | h) | h) | h) | h) | h) | h <;> simp [h]
theorem QLd.own {W : World → Prop} {b o m : Nat} {t : TypeId} {vs : List Value} {k : List Value → Prop} (h : ∀ w', W w' → Blk w' b t vs) (hk : k ((vs.drop o).take m)) (hm : ((vs.drop o).take m).length = m := by rfl) : QLd W ⟨b, o, none⟩ m k := by
  refine ⟨_, fun w' hw' => ⟨hm, fun i v hv => ?_⟩, hk⟩
  rw [add_lit, (h w' hw').cell]
  have : i < m := by have := (List.getElem?_eq_some_iff.1 hv).1; omega
  rw [List.getElem?_take_of_lt this, List.getElem?_drop] at hv
  exact hv
section
variable {src : Bs} {pr : Nat} {wb : World} {F : PF} (X : Txt src pr wb) (C : Con src pr wb F)
include X C
set_option maxHeartbeats 8000000 in
theorem statement_c (d : Nat) (ts : List Tk) (w : World) (hd : d ≤ 41) (hwb : Ext wb w) (h : Rdr src pr ts w) (hne : stmtP F d ts ≠ .out) :
    Cl Tryz.prog 90 #[.pointer (some ⟨pr, 0, none⟩), .int .i64 (d : Int)] w (OkS src pr (stmtP F d ts) w) (PanX (stmtP F d ts) pr w) := by
  have HB := X.ok hwb
  have hwd : IntKind.i64.wrap ((d : Int) + 1) = ((d + 1 : Nat) : Int) := w64 rfl (by omega) (by omega)
  obtain ⟨R, hR⟩ : ∃ R, R = stmtP F d ts := ⟨_, rfl⟩
  rw [← hR] at hne ⊢
  unfold stmtP at hR
  refine calls_ex (args := [.pointer (some ⟨pr, 0, none⟩), .int .i64 (d : Int)]) T.ok Tryz.func90 rfl rfl rfl rfl ?_
  have H := Hp.start (S := (· = pr)) (rdr_ok h) (fun k hk => hk)
  clear h
  refine Sq.mk ?_
  ((conv => whnf); refine Al.hp H ?_; clear H; intro p4 _ H _)
  (obtain ⟨nx, t0, r0, rfl, hn0, hr0, hb0⟩ := H.atC (c := rdr src pr ts) 1 rfl; replace H := Hp.ofR H hb0; clear hb0)
  rw [curK_cons] at hR
  by_cases hbg : beginsB t0.kind = true
  case neg =>
    rw [if_neg hbg] at hR
    have hno : ∀ k, beginsB k = true → ¬ t0.kind = k := fun k hk e => hbg (by rw [e]; exact hk)
    have n1 := hno k_let (by decide)
    have n2 := hno k_spawn (by decide)
    have n3 := hno k_sync (by decide)
    have n4 := hno k_if (by decide)
    have n5 := hno k_while (by decide)
    have n6 := hno k_do (by decide)
    have n7 := hno k_return (by decide)
    have n8 := hno k_break (by decide)
    have n9 := hno k_continue (by decide)
    have n10 := hno k_name (by decide)
    repeat' ((conv => whnf); first | ((with_reducible show Gd (bs _ == _) _ _); first | refine Gd.sY (by assumption) ?_ | refine Gd.sk (by assumption) ?_ | refine Gd.sN (by assumption) ?_) | ((conv => whnf); first | (((with_reducible show Gd ..); first | (with_reducible first | refine Gd.t ?_ | refine Gd.f ?_ | (first | apply Gd.dec | apply Gd.beq | apply Gd.bne) <;> intro _ | refine Gd.not ?_) | refine Gd.t ?_ | refine Gd.f ?_ | apply Gd.var <;> intro _) <;> try (exfalso; omega)) | with_reducible refine Sq.mk ?_ | ((with_reducible show Ld1 ..); first | refine Ld1.h H ?_ | refine Ld1.rF ?_ | refine Ld1.r ?_) | ((with_reducible show Ld ..); first | refine Ld.h H ?_ | refine Ld.r ?_) | ((with_reducible show Ix ..); first | refine Ix.h ?_ | refine Ix.ha ?_) | (refine Al.hp H ?_; clear H; intro _ _ H _) | (refine St.h H ?_; clear H; intro _ H)) | refine Sm.strix T.ok ?_)
    (conv => whnf)
    refine Cl.mkX (fail_c pr 141 t0.at_ _) (fun _ _ h => h.elim) ?_
    rintro ch w5 ⟨q5, rfl, H'⟩
    exact ⟨141, t0.at_, q5, hR, rfl, (H.fr0 H' (.inl rfl)).sel [0] rfl⟩
  rw [if_pos hbg] at hR
  by_cases c1 : t0.kind = k_if
  · repeat' ((conv => whnf); first | ((with_reducible show Gd (bs _ == _) _ _); first | refine Gd.sY (by assumption) ?_ | refine Gd.sk (by assumption) ?_ | refine Gd.sN (by assumption) ?_) | ((conv => whnf); first | (((with_reducible show Gd ..); first | (with_reducible first | refine Gd.t ?_ | refine Gd.f ?_ | (first | apply Gd.dec | apply Gd.beq | apply Gd.bne) <;> intro _ | refine Gd.not ?_) | refine Gd.t ?_ | refine Gd.f ?_ | apply Gd.var <;> intro _) <;> try (exfalso; omega)) | with_reducible refine Sq.mk ?_ | ((with_reducible show Ld1 ..); first | refine Ld1.h H ?_ | refine Ld1.rF ?_ | refine Ld1.r ?_) | ((with_reducible show Ld ..); first | refine Ld.h H ?_ | refine Ld.r ?_) | ((with_reducible show Ix ..); first | refine Ix.h ?_ | refine Ix.ha ?_) | (refine Al.hp H ?_; clear H; intro _ _ H _) | (refine St.h H ?_; clear H; intro _ H)) | refine Sm.strix T.ok ?_)
    (replace H := Hp.toR H hn0 hr0)
    (((conv => whnf); refine Cl.mkX (deep_c _ src pr (t0 :: r0) (d) rfl _ (H.atC 1 rfl)) ?_ ?_; rotate_left; (rintro ch w9 ⟨e9, p9, q9, h9, rfl, H'⟩; exact ⟨e9, p9, q9, (by rw [hR, h9]; rfl), rfl, Hp.pan H H' (.inl rfl)⟩)); rintro _ w8 ⟨h1, ex⟩; replace H := H.ext ex; clear ex; have hd40 := deep_le h1; rw [h1, Res.bind_ok] at hR; clear h1)
    rw [if_pos (show curK (t0 :: r0) = k_if from c1)] at hR
    obtain ⟨nx1, t1, r1, h01, hn1, hr1, hb0⟩ := H.atC (c := rdr src pr (t0 :: r0)) 1 rfl
    obtain ⟨rfl, rfl⟩ := List.cons.inj h01
    replace H := Hp.ofR H hb0
    repeat' ((conv => whnf); first | ((with_reducible show Gd (bs _ == _) _ _); first | refine Gd.sY (by assumption) ?_ | refine Gd.sk (by assumption) ?_ | refine Gd.sN (by assumption) ?_) | ((conv => whnf); first | (((with_reducible show Gd ..); first | (with_reducible first | refine Gd.t ?_ | refine Gd.f ?_ | (first | apply Gd.dec | apply Gd.beq | apply Gd.bne) <;> intro _ | refine Gd.not ?_) | refine Gd.t ?_ | refine Gd.f ?_ | apply Gd.var <;> intro _) <;> try (exfalso; omega)) | with_reducible refine Sq.mk ?_ | ((with_reducible show Ld1 ..); first | refine Ld1.h H ?_ | refine Ld1.rF ?_ | refine Ld1.r ?_) | ((with_reducible show Ld ..); first | refine Ld.h H ?_ | refine Ld.r ?_) | ((with_reducible show Ix ..); first | refine Ix.h ?_ | refine Ix.ha ?_) | (refine Al.hp H ?_; clear H; intro _ _ H _) | (refine St.h H ?_; clear H; intro _ H)) | refine Sm.strix T.ok ?_)
    replace H := Hp.toR H hn1 hr1
    (conv => whnf)
    refine Cl.mkX (C.choice d _ _ hd40 (H.base2 HB) (H.atC 1 rfl) (by rw [← hR]; exact hne)) ?_ ?_
    · rintro _ w3 ⟨⟨kd, nm, ⟨k1, o1, n1, a1, b1, A1, c1, l1⟩, B, cb, b, E, ce, f⟩, ts', h1, rfl, H'⟩
      replace H := H.updn (c := rdr src pr (t0 :: r0)) (Hp.swap H') rfl (.inl rfl) (.inl rfl)
      clear H'
      repeat' ((conv => whnf); first | ((with_reducible show Gd (bs _ == _) _ _); first | refine Gd.sY (by assumption) ?_ | refine Gd.sk (by assumption) ?_ | refine Gd.sN (by assumption) ?_) | ((conv => whnf); first | (((with_reducible show Gd ..); first | (with_reducible first | refine Gd.t ?_ | refine Gd.f ?_ | (first | apply Gd.dec | apply Gd.beq | apply Gd.bne) <;> intro _ | refine Gd.not ?_) | refine Gd.t ?_ | refine Gd.f ?_ | apply Gd.var <;> intro _) <;> try (exfalso; omega)) | with_reducible refine Sq.mk ?_ | ((with_reducible show Ld1 ..); first | refine Ld1.h H ?_ | refine Ld1.rF ?_ | refine Ld1.r ?_) | ((with_reducible show Ld ..); first | refine Ld.h H ?_ | refine Ld.r ?_) | ((with_reducible show Ix ..); first | refine Ix.h ?_ | refine Ix.ha ?_) | (refine Al.hp H ?_; clear H; intro _ _ H _) | (refine St.h H ?_; clear H; intro _ H)) | refine Sm.strix T.ok ?_)
      exact ⟨.mk kd nm (.mk k1 o1 n1 a1 b1 A1 c1 l1) B cb b E ce f, ts', by rw [hR, h1], sm_v rfl, H.sel [0, 1] rfl⟩
    · rintro ch w2 ⟨e, p, q, h1, rfl, H'⟩
      exact ⟨e, p, q, by rw [hR, h1], rfl, Hp.pan H H' (.inl rfl)⟩
  by_cases c2 : t0.kind = k_while
  · repeat' ((conv => whnf); first | ((with_reducible show Gd (bs _ == _) _ _); first | refine Gd.sY (by assumption) ?_ | refine Gd.sk (by assumption) ?_ | refine Gd.sN (by assumption) ?_) | ((conv => whnf); first | (((with_reducible show Gd ..); first | (with_reducible first | refine Gd.t ?_ | refine Gd.f ?_ | (first | apply Gd.dec | apply Gd.beq | apply Gd.bne) <;> intro _ | refine Gd.not ?_) | refine Gd.t ?_ | refine Gd.f ?_ | apply Gd.var <;> intro _) <;> try (exfalso; omega)) | with_reducible refine Sq.mk ?_ | ((with_reducible show Ld1 ..); first | refine Ld1.h H ?_ | refine Ld1.rF ?_ | refine Ld1.r ?_) | ((with_reducible show Ld ..); first | refine Ld.h H ?_ | refine Ld.r ?_) | ((with_reducible show Ix ..); first | refine Ix.h ?_ | refine Ix.ha ?_) | (refine Al.hp H ?_; clear H; intro _ _ H _) | (refine St.h H ?_; clear H; intro _ H)) | refine Sm.strix T.ok ?_)
    (replace H := Hp.toR H hn0 hr0)
    (((conv => whnf); refine Cl.mkX (deep_c _ src pr (t0 :: r0) (d) rfl _ (H.atC 1 rfl)) ?_ ?_; rotate_left; (rintro ch w9 ⟨e9, p9, q9, h9, rfl, H'⟩; exact ⟨e9, p9, q9, (by rw [hR, h9]; rfl), rfl, Hp.pan H H' (.inl rfl)⟩)); rintro _ w8 ⟨h1, ex⟩; replace H := H.ext ex; clear ex; have hd40 := deep_le h1; rw [h1, Res.bind_ok] at hR; clear h1)
    rw [if_neg (show ¬ curK (t0 :: r0) = k_if from c1), if_pos (show curK (t0 :: r0) = k_while from c2)] at hR
    obtain ⟨nx1, t1, r1, h01, hn1, hr1, hb0⟩ := H.atC (c := rdr src pr (t0 :: r0)) 1 rfl
    obtain ⟨rfl, rfl⟩ := List.cons.inj h01
    replace H := Hp.ofR H hb0
    repeat' ((conv => whnf); first | ((with_reducible show Gd (bs _ == _) _ _); first | refine Gd.sY (by assumption) ?_ | refine Gd.sk (by assumption) ?_ | refine Gd.sN (by assumption) ?_) | ((conv => whnf); first | (((with_reducible show Gd ..); first | (with_reducible first | refine Gd.t ?_ | refine Gd.f ?_ | (first | apply Gd.dec | apply Gd.beq | apply Gd.bne) <;> intro _ | refine Gd.not ?_) | refine Gd.t ?_ | refine Gd.f ?_ | apply Gd.var <;> intro _) <;> try (exfalso; omega)) | with_reducible refine Sq.mk ?_ | ((with_reducible show Ld1 ..); first | refine Ld1.h H ?_ | refine Ld1.rF ?_ | refine Ld1.r ?_) | ((with_reducible show Ld ..); first | refine Ld.h H ?_ | refine Ld.r ?_) | ((with_reducible show Ix ..); first | refine Ix.h ?_ | refine Ix.ha ?_) | (refine Al.hp H ?_; clear H; intro _ _ H _) | (refine St.h H ?_; clear H; intro _ H)) | refine Sm.strix T.ok ?_)
    replace H := Hp.toR H hn1 hr1
    (((conv => whnf); refine Cl.mkX (step_c _ src pr (t0 :: r0) wb _ (H.base2 HB) X.lo X.tb X.len (H.atC 1 rfl) (begins_ne hbg)) ?_ ?_; rotate_left; (rintro ch w9 ⟨e9, p9, q9, h9, rfl, H'⟩; exact ⟨e9, p9, q9, (by rw [hR, h9]; rfl), rfl, Hp.pan H H' (.inl rfl)⟩)); rintro _ w8 ⟨ts1, h1, H'⟩; replace H := H.upd (c := rdr src pr (t0 :: r0)) H' rfl (.inl rfl); clear H'; rw [h1, Res.bind_ok] at hR; clear h1)
    repeat' ((conv => whnf); first | ((with_reducible show Gd (bs _ == _) _ _); first | refine Gd.sY (by assumption) ?_ | refine Gd.sk (by assumption) ?_ | refine Gd.sN (by assumption) ?_) | ((conv => whnf); first | (((with_reducible show Gd ..); first | (with_reducible first | refine Gd.t ?_ | refine Gd.f ?_ | (first | apply Gd.dec | apply Gd.beq | apply Gd.bne) <;> intro _ | refine Gd.not ?_) | refine Gd.t ?_ | refine Gd.f ?_ | apply Gd.var <;> intro _) <;> try (exfalso; omega)) | with_reducible refine Sq.mk ?_ | ((with_reducible show Ld1 ..); first | refine Ld1.h H ?_ | refine Ld1.rF ?_ | refine Ld1.r ?_) | ((with_reducible show Ld ..); first | refine Ld.h H ?_ | refine Ld.r ?_) | ((with_reducible show Ix ..); first | refine Ix.h ?_ | refine Ix.ha ?_) | (refine Al.hp H ?_; clear H; intro _ _ H _) | (refine St.h H ?_; clear H; intro _ H)) | refine Sm.strix T.ok ?_)
    ((conv => whnf); refine Cl.mkX (C.expr 0 d ts1 _ (by omega) hd (H.base2 HB) (H.atC 1 rfl) (Res.bind_out (by rw [← hR]; exact hne))) ?_ ?_; rotate_left; (rintro ch w9 ⟨e9, p9, q9, h9, rfl, H'⟩; exact ⟨e9, p9, q9, (by rw [hR, h9]; rfl), rfl, Hp.pan H H' (.inl rfl)⟩))
    rintro _ w3 ⟨⟨kd, o, n, nm, cb, A2, c2, l2⟩, ts2, h2, rfl, H'⟩
    replace H := H.updn (c := rdr src pr ts1) (Hp.swap H') rfl (.inl rfl) (.inl rfl)
    clear H'
    rw [h2, Res.bind_ok] at hR
    repeat' ((conv => whnf); first | ((with_reducible show Gd (bs _ == _) _ _); first | refine Gd.sY (by assumption) ?_ | refine Gd.sk (by assumption) ?_ | refine Gd.sN (by assumption) ?_) | ((conv => whnf); first | (((with_reducible show Gd ..); first | (with_reducible first | refine Gd.t ?_ | refine Gd.f ?_ | (first | apply Gd.dec | apply Gd.beq | apply Gd.bne) <;> intro _ | refine Gd.not ?_) | refine Gd.t ?_ | refine Gd.f ?_ | apply Gd.var <;> intro _) <;> try (exfalso; omega)) | with_reducible refine Sq.mk ?_ | ((with_reducible show Ld1 ..); first | refine Ld1.h H ?_ | refine Ld1.rF ?_ | refine Ld1.r ?_) | ((with_reducible show Ld ..); first | refine Ld.h H ?_ | refine Ld.r ?_) | ((with_reducible show Ix ..); first | refine Ix.h ?_ | refine Ix.ha ?_) | (refine St.h H ?_; clear H; intro _ H)) | refine Sm.strix T.ok ?_)
    ((conv => whnf); refine Al.hp H ?_; clear H; intro p5 _ H _)
    repeat' ((conv => whnf); first | ((with_reducible show Gd (bs _ == _) _ _); first | refine Gd.sY (by assumption) ?_ | refine Gd.sk (by assumption) ?_ | refine Gd.sN (by assumption) ?_) | ((conv => whnf); first | (((with_reducible show Gd ..); first | (with_reducible first | refine Gd.t ?_ | refine Gd.f ?_ | (first | apply Gd.dec | apply Gd.beq | apply Gd.bne) <;> intro _ | refine Gd.not ?_) | refine Gd.t ?_ | refine Gd.f ?_ | apply Gd.var <;> intro _) <;> try (exfalso; omega)) | with_reducible refine Sq.mk ?_ | ((with_reducible show Ld1 ..); first | refine Ld1.h H ?_ | refine Ld1.rF ?_ | refine Ld1.r ?_) | ((with_reducible show Ld ..); first | refine Ld.h H ?_ | refine Ld.r ?_) | ((with_reducible show Ix ..); first | refine Ix.h ?_ | refine Ix.ha ?_) | (refine Al.hp H ?_; clear H; intro _ _ H _) | (refine St.h H ?_; clear H; intro _ H)) | refine Sm.strix T.ok ?_)
    have hblk := fun ts w => C.block (d + 1) ts w (by omega)
    rw [← hwd] at hblk
    (conv => whnf)
    refine Dr.chX T.ok mixed [0, 1, 2, 3] [4, 5, 6] (by kernel_rfl) rfl rfl (fun w' => Blk w' p5 74 (ET.enc (.mk kd o n nm cb A2 c2 l2))) (PanX R pr w) (fun ch F' w' hds h => by (conv => whnf); rw [show F'.ds = [] from hds]; exact h) (fun w1 eT _ => ?_)
    replace H := H.ext eT
    repeat' ((conv => whnf); first | refine QLd1.own (fun _ hw => hw) ?_ | refine QLd.own (fun _ hw => hw) ?_)
    (conv => whnf)
    refine ⟨H.blk 0 rfl, ?_⟩
    ((conv => whnf); refine Cl.mkX (hblk ts2 _ (H.base2 HB) (H.atC 3 rfl) (Res.bind_out (by rw [← hR]; exact hne))) ?_ ?_; rotate_left; (rintro ch w9 ⟨e9, p9, q9, h9, rfl, H'⟩; exact ⟨e9, p9, q9, (by rw [hR, h9]; rfl), rfl, Hp.pan H H' (.inl rfl)⟩))
    rintro _ w4 ⟨B, cB, b, ts3, h3, rfl, H'⟩
    replace H := H.updn (c := rdr src pr ts2) (Hp.swap H') rfl (.inl rfl) (.inl rfl)
    clear H'
    rw [h3, Res.bind_ok] at hR
    (conv => whnf)
    refine ⟨H.blk 1 rfl, ?_⟩
    repeat' (first | refine ⟨H.blk 1 rfl, ?_⟩ | ((conv => whnf); first | ((with_reducible show Gd (bs _ == _) _ _); first | refine Gd.sY (by assumption) ?_ | refine Gd.sk (by assumption) ?_ | refine Gd.sN (by assumption) ?_) | ((conv => whnf); first | (((with_reducible show Gd ..); first | (with_reducible first | refine Gd.t ?_ | refine Gd.f ?_ | (first | apply Gd.dec | apply Gd.beq | apply Gd.bne) <;> intro _ | refine Gd.not ?_) | refine Gd.t ?_ | refine Gd.f ?_ | apply Gd.var <;> intro _) <;> try (exfalso; omega)) | with_reducible refine Sq.mk ?_ | ((with_reducible show Ld1 ..); first | refine Ld1.h H ?_ | refine Ld1.rF ?_ | refine Ld1.r ?_) | ((with_reducible show Ld ..); first | refine Ld.h H ?_ | refine Ld.r ?_) | ((with_reducible show Ix ..); first | refine Ix.h ?_ | refine Ix.ha ?_) | (refine Al.hp H ?_; clear H; intro _ _ H _) | (refine St.h H ?_; clear H; intro _ H)) | refine Sm.strix T.ok ?_))
    refine ⟨.mk 5 [] (.mk kd o n nm cb A2 c2 l2) B cB b none 0 [], ts3, hR, sm_v rfl, Hp.stsN 5 [] ?_⟩
    replace H := Hp.stl0 H
    exact H.sel [3, 1, 0, 2] rfl
  have hp : t0.kind = k_let ∨ t0.kind = k_spawn ∨ t0.kind = k_sync ∨ t0.kind = k_do ∨ t0.kind = k_return ∨ t0.kind = k_break ∨ t0.kind = k_continue ∨ t0.kind = k_name := by
    rcases begins_or hbg with h | h | h | h | h | h | h | h | h | h <;> first | exact absurd h c1 | exact absurd h c2 | simp [h]
  rcases hp with c3 | c3 | c3 | c3 | c3 | c3 | c3 | c3
  all_goals
    repeat' ((conv => whnf); first | ((with_reducible show Gd (bs _ == _) _ _); first | refine Gd.sY (by assumption) ?_ | refine Gd.sk (by assumption) ?_ | refine Gd.sN (by assumption) ?_) | ((conv => whnf); first | (((with_reducible show Gd ..); first | (with_reducible first | refine Gd.t ?_ | refine Gd.f ?_ | (first | apply Gd.dec | apply Gd.beq | apply Gd.bne) <;> intro _ | refine Gd.not ?_) | refine Gd.t ?_ | refine Gd.f ?_ | apply Gd.var <;> intro _) <;> try (exfalso; omega)) | with_reducible refine Sq.mk ?_ | ((with_reducible show Ld1 ..); first | refine Ld1.h H ?_ | refine Ld1.rF ?_ | refine Ld1.r ?_) | ((with_reducible show Ld ..); first | refine Ld.h H ?_ | refine Ld.r ?_) | ((with_reducible show Ix ..); first | refine Ix.h ?_ | refine Ix.ha ?_) | (refine Al.hp H ?_; clear H; intro _ _ H _) | (refine St.h H ?_; clear H; intro _ H)) | refine Sm.strix T.ok ?_)
    (replace H := Hp.toR H hn0 hr0)
    (((conv => whnf); refine Cl.mkX (deep_c _ src pr (t0 :: r0) (d) rfl _ (H.atC 1 rfl)) ?_ ?_; rotate_left; (rintro ch w9 ⟨e9, p9, q9, h9, rfl, H'⟩; exact ⟨e9, p9, q9, (by rw [hR, h9]; rfl), rfl, Hp.pan H H' (.inl rfl)⟩)); rintro _ w8 ⟨h1, ex⟩; replace H := H.ext ex; clear ex; have hd40 := deep_le h1; rw [h1, Res.bind_ok] at hR; clear h1)
    rw [if_neg (show ¬ curK (t0 :: r0) = k_if from c1), if_neg (show ¬ curK (t0 :: r0) = k_while from c2)] at hR
    obtain ⟨nx1, t1, r1, h01, hn1, hr1, hb0⟩ := H.atC (c := rdr src pr (t0 :: r0)) 1 rfl
    obtain ⟨rfl, rfl⟩ := List.cons.inj h01
    replace H := Hp.ofR H hb0
    repeat' ((conv => whnf); first | ((with_reducible show Gd (bs _ == _) _ _); first | refine Gd.sY (by assumption) ?_ | refine Gd.sk (by assumption) ?_ | refine Gd.sN (by assumption) ?_) | ((conv => whnf); first | (((with_reducible show Gd ..); first | (with_reducible first | refine Gd.t ?_ | refine Gd.f ?_ | (first | apply Gd.dec | apply Gd.beq | apply Gd.bne) <;> intro _ | refine Gd.not ?_) | refine Gd.t ?_ | refine Gd.f ?_ | apply Gd.var <;> intro _) <;> try (exfalso; omega)) | with_reducible refine Sq.mk ?_ | ((with_reducible show Ld1 ..); first | refine Ld1.h H ?_ | refine Ld1.rF ?_ | refine Ld1.r ?_) | ((with_reducible show Ld ..); first | refine Ld.h H ?_ | refine Ld.r ?_) | ((with_reducible show Ix ..); first | refine Ix.h ?_ | refine Ix.ha ?_) | (refine Al.hp H ?_; clear H; intro _ _ H _) | (refine St.h H ?_; clear H; intro _ H)) | refine Sm.strix T.ok ?_)
    replace H := Hp.toR H hn1 hr1
    ((conv => whnf); refine Cl.mkX (plain_c X C d (t0 :: r0) _ hd (H.base2 HB) (H.atC 1 rfl) hbg (Res.bind_out (by rw [← hR]; exact hne))) ?_ ?_; rotate_left; (rintro ch w9 ⟨e9, p9, q9, h9, rfl, H'⟩; exact ⟨e9, p9, q9, (by rw [hR, h9]; rfl), rfl, Hp.pan H H' (.inl rfl)⟩))
    rintro _ w3 ⟨⟨kd, nm, ⟨k1, o1, n1, a1, b1, A1, c1, l1⟩, B, cb, b, E, ce, f⟩, ts1, h1, rfl, H'⟩
    replace H := H.updn (c := rdr src pr (t0 :: r0)) (Hp.swap H') rfl (.inl rfl) (.inl rfl)
    clear H'
    rw [h1, Res.bind_ok] at hR
    repeat' ((conv => whnf); first | ((with_reducible show Gd (bs _ == _) _ _); first | refine Gd.sY (by assumption) ?_ | refine Gd.sk (by assumption) ?_ | refine Gd.sN (by assumption) ?_) | ((conv => whnf); first | (((with_reducible show Gd ..); first | (with_reducible first | refine Gd.t ?_ | refine Gd.f ?_ | (first | apply Gd.dec | apply Gd.beq | apply Gd.bne) <;> intro _ | refine Gd.not ?_) | refine Gd.t ?_ | refine Gd.f ?_ | apply Gd.var <;> intro _) <;> try (exfalso; omega)) | with_reducible refine Sq.mk ?_ | ((with_reducible show Ld1 ..); first | refine Ld1.h H ?_ | refine Ld1.rF ?_ | refine Ld1.r ?_) | ((with_reducible show Ld ..); first | refine Ld.h H ?_ | refine Ld.r ?_) | ((with_reducible show Ix ..); first | refine Ix.h ?_ | refine Ix.ha ?_) | (refine St.h H ?_; clear H; intro _ H)) | refine Sm.strix T.ok ?_)
    ((conv => whnf); refine Al.hp H ?_; clear H; intro p6 _ H _)
    repeat' ((conv => whnf); first | ((with_reducible show Gd (bs _ == _) _ _); first | refine Gd.sY (by assumption) ?_ | refine Gd.sk (by assumption) ?_ | refine Gd.sN (by assumption) ?_) | ((conv => whnf); first | (((with_reducible show Gd ..); first | (with_reducible first | refine Gd.t ?_ | refine Gd.f ?_ | (first | apply Gd.dec | apply Gd.beq | apply Gd.bne) <;> intro _ | refine Gd.not ?_) | refine Gd.t ?_ | refine Gd.f ?_ | apply Gd.var <;> intro _) <;> try (exfalso; omega)) | with_reducible refine Sq.mk ?_ | ((with_reducible show Ld1 ..); first | refine Ld1.h H ?_ | refine Ld1.rF ?_ | refine Ld1.r ?_) | ((with_reducible show Ld ..); first | refine Ld.h H ?_ | refine Ld.r ?_) | ((with_reducible show Ix ..); first | refine Ix.h ?_ | refine Ix.ha ?_) | (refine Al.hp H ?_; clear H; intro _ _ H _) | (refine St.h H ?_; clear H; intro _ H)) | refine Sm.strix T.ok ?_)
    (((conv => whnf); refine Cl.mkX (take_c s_semi src pr (ts1) wb _ (H.base2 HB) X.lo X.tb X.len (H.atC 3 rfl) (by decide)) ?_ ?_; rotate_left; (rintro ch w9 ⟨e9, p9, q9, h9, rfl, H'⟩; exact ⟨e9, p9, q9, (by rw [hR, h9]; rfl), rfl, Hp.pan H H' (.inl rfl)⟩)); rintro _ w8 ⟨t9, ts9, h1, rfl, H'⟩; replace H := H.upd (c := rdr src pr (ts1)) H' rfl (.inl rfl); clear H'; rw [h1, Res.bind_ok] at hR; clear h1)
    repeat' ((conv => whnf); first | ((with_reducible show Gd (bs _ == _) _ _); first | refine Gd.sY (by assumption) ?_ | refine Gd.sk (by assumption) ?_ | refine Gd.sN (by assumption) ?_) | ((conv => whnf); first | (((with_reducible show Gd ..); first | (with_reducible first | refine Gd.t ?_ | refine Gd.f ?_ | (first | apply Gd.dec | apply Gd.beq | apply Gd.bne) <;> intro _ | refine Gd.not ?_) | refine Gd.t ?_ | refine Gd.f ?_ | apply Gd.var <;> intro _) <;> try (exfalso; omega)) | with_reducible refine Sq.mk ?_ | ((with_reducible show Ld1 ..); first | refine Ld1.h H ?_ | refine Ld1.rF ?_ | refine Ld1.r ?_) | ((with_reducible show Ld ..); first | refine Ld.h H ?_ | refine Ld.r ?_) | ((with_reducible show Ix ..); first | refine Ix.h ?_ | refine Ix.ha ?_) | (refine Al.hp H ?_; clear H; intro _ _ H _) | (refine St.h H ?_; clear H; intro _ H)) | refine Sm.strix T.ok ?_)
    exact ⟨.mk kd nm (.mk k1 o1 n1 a1 b1 A1 c1 l1) B cb b E ce f, ts9, hR, sm_v rfl, H.sel [1, 2] rfl⟩
end
end Go.Proofs.YtfnjodpehomgfaaGreatDoor
namespace Go.Proofs.YtfnjodpehomgfaaGreatDoor
open Go Go.Sh Go.Tx
attribute [local irreducible] Blk Ext RdS
section
variable {src : Bs} {pr : Nat} {wb : World} {F : PF} (X : Txt src pr wb) (C : Con src pr wb F)
include X C
set_option maxHeartbeats 4000000 in
theorem block_c (d : Nat) (ts : List Tk) (w : World) (hd : d ≤ 41) (hwb : Ext wb w) (h : Rdr src pr ts w) (hne : blockP F d ts ≠ .out) :
    Cl Tryz.prog 62 #[.pointer (some ⟨pr, 0, none⟩), .int .i64 (d : Int)] w (OkB src pr (blockP F d ts) w) (PanX (blockP F d ts) pr w) := by
  have HB := X.ok hwb
  have hsl := X.len
  obtain ⟨R, hR⟩ : ∃ R, R = blockP F d ts := ⟨_, rfl⟩
  rw [← hR] at hne ⊢
  unfold blockP at hR
  refine calls_ex (args := [.pointer (some ⟨pr, 0, none⟩), .int .i64 (d : Int)]) T.ok Tryz.func62 rfl rfl rfl rfl ?_
  have H := Hp.start (S := (· = pr)) (rdr_ok h) (fun k hk => hk)
  clear h
  repeat' ((conv => whnf); first | ((with_reducible show Gd (bs _ == _) _ _); first | refine Gd.sY (by assumption) ?_ | refine Gd.sk (by assumption) ?_ | refine Gd.sN (by assumption) ?_) | ((conv => whnf); first | (((with_reducible show Gd ..); first | (with_reducible first | refine Gd.t ?_ | refine Gd.f ?_ | (first | apply Gd.dec | apply Gd.beq | apply Gd.bne) <;> intro _ | refine Gd.not ?_) | refine Gd.t ?_ | refine Gd.f ?_ | apply Gd.var <;> intro _) <;> try (exfalso; omega)) | with_reducible refine Sq.mk ?_ | ((with_reducible show Ld1 ..); first | refine Ld1.h H ?_ | refine Ld1.rF ?_ | refine Ld1.r ?_) | ((with_reducible show Ld ..); first | refine Ld.h H ?_ | refine Ld.r ?_) | ((with_reducible show Ix ..); first | refine Ix.h ?_ | refine Ix.ha ?_) | (refine Al.hp H ?_; clear H; intro _ _ H _) | (refine St.h H ?_; clear H; intro _ H)) | refine Sm.strix T.ok ?_)
  (((conv => whnf); refine Cl.mkX (take_c s_lb src pr (ts) wb _ (H.base2 HB) X.lo X.tb X.len (H.atC 0 rfl) (by decide)) ?_ ?_; rotate_left; (rintro ch w9 ⟨e9, p9, q9, h9, rfl, H'⟩; exact ⟨e9, p9, q9, (by rw [hR, h9]; rfl), rfl, Hp.pan H H' (.inl rfl)⟩)); rintro _ w8 ⟨t1, ts1, h1, rfl, H'⟩; replace H := H.upd (c := rdr src pr (ts)) H' rfl (.inl rfl); clear H'; rw [h1, Res.bind_ok] at hR; clear h1)
  have hN : ts1.length ≤ src.length + 2 := (H.atC (c := rdr src pr ts1) 0 rfl).len
  generalize hN0 : ts1.length + 1 = N at hR
  have hNb : N ≤ 1000010 := by omega
  replace H := Hp.nil (Hp.sts0 H) SM.enc 10 76
  repeat' ((conv => whnf); first | ((with_reducible show Gd (bs _ == _) _ _); first | refine Gd.sY (by assumption) ?_ | refine Gd.sk (by assumption) ?_ | refine Gd.sN (by assumption) ?_) | ((conv => whnf); first | (((with_reducible show Gd ..); first | (with_reducible first | refine Gd.t ?_ | refine Gd.f ?_ | (first | apply Gd.dec | apply Gd.beq | apply Gd.bne) <;> intro _ | refine Gd.not ?_) | refine Gd.t ?_ | refine Gd.f ?_ | apply Gd.var <;> intro _) <;> try (exfalso; omega)) | with_reducible refine Sq.mk ?_ | ((with_reducible show Ld1 ..); first | refine Ld1.h H ?_ | refine Ld1.rF ?_ | refine Ld1.r ?_) | ((with_reducible show Ld ..); first | refine Ld.h H ?_ | refine Ld.r ?_) | ((with_reducible show Ix ..); first | refine Ix.h ?_ | refine Ix.ha ?_) | (refine Al.hp H ?_; clear H; intro _ _ H _) | (refine St.h H ?_; clear H; intro _ H)) | refine Sm.strix T.ok ?_)
  refine Lp.g0 T.ok (σ := Nat × Option Addr × Nat × List SM × List Tk) (fun q => [(5, .slice q.2.1 q.2.2.2.1.length q.2.2.1), (4, .slice none 0 0), (0, .pointer (some ⟨pr, 0, none⟩)), (1, .int .i64 (d : Int))])
    (fun q w' => R = (loopB F d q.1 (SM.es q.2.2.2.1) q.2.2.2.2).bind (fun l ts2 => (takeP s_rb ts2).bind fun _ ts3 => .ok l ts3) ∧ q.1 + q.2.2.2.1.length ≤ N ∧ Hp (· = pr) w w' [qu SM.enc 10 76 q.2.1 q.2.2.1 q.2.2.2.1, sts q.2.2.2.1, rdr src pr q.2.2.2.2]) (fun q _ => q.1) (N, none, 0, [], ts1) rfl ⟨rfl, rfl, rfl, rfl, trivial⟩ ⟨hR, Nat.le_refl _, H⟩ ?_
  clear H hR hN0 hN
  rintro ⟨f, A, c, l, ts⟩ w5 ⟨hR, hN, H⟩
  simp only at hR hN H ⊢
  cases f with
  | zero => exact absurd hR hne
  | succ f =>
  simp only [loopB] at hR
  (obtain ⟨nx, t0, r0, rfl, hnx, hr0, hb0⟩ := H.atC (c := rdr src pr ts) 2 rfl; replace H := Hp.ofR H hb0; clear hb0)
  by_cases hk : t0.kind = s_rb
  · rw [if_pos (show curK (t0 :: r0) = s_rb from hk), Res.bind_ok] at hR
    repeat' ((conv => whnf); first | ((with_reducible show Gd (bs _ == _) _ _); first | refine Gd.sY (by assumption) ?_ | refine Gd.sk (by assumption) ?_ | refine Gd.sN (by assumption) ?_) | ((conv => whnf); first | (((with_reducible show Gd ..); first | (with_reducible first | refine Gd.t ?_ | refine Gd.f ?_ | (first | apply Gd.dec | apply Gd.beq | apply Gd.bne) <;> intro _ | refine Gd.not ?_) | refine Gd.t ?_ | refine Gd.f ?_ | apply Gd.var <;> intro _) <;> try (exfalso; omega)) | with_reducible refine Sq.mk ?_ | ((with_reducible show Ld1 ..); first | refine Ld1.h H ?_ | refine Ld1.rF ?_ | refine Ld1.r ?_) | ((with_reducible show Ld ..); first | refine Ld.h H ?_ | refine Ld.r ?_) | ((with_reducible show Ix ..); first | refine Ix.h ?_ | refine Ix.ha ?_) | (refine Al.hp H ?_; clear H; intro _ _ H _) | (refine St.h H ?_; clear H; intro _ H)) | refine Sm.strix T.ok ?_)
    (replace H := Hp.toR H hnx hr0; clear hnx hr0)
    (((conv => whnf); refine Cl.mkX (take_c s_rb src pr (t0 :: r0) wb _ (H.base2 HB) X.lo X.tb X.len (H.atC 2 rfl) (by decide)) ?_ ?_; rotate_left; (rintro ch w9 ⟨e9, p9, q9, h9, rfl, H'⟩; exact ⟨e9, p9, q9, (by rw [hR, h9]; rfl), rfl, Hp.pan H H' (.inl rfl)⟩)); rintro _ w8 ⟨t1, ts1, h1, rfl, H'⟩; replace H := H.upd (c := rdr src pr (t0 :: r0)) H' rfl (.inl rfl); clear H'; rw [h1, Res.bind_ok] at hR; clear h1)
    repeat' ((conv => whnf); first | ((with_reducible show Gd (bs _ == _) _ _); first | refine Gd.sY (by assumption) ?_ | refine Gd.sk (by assumption) ?_ | refine Gd.sN (by assumption) ?_) | ((conv => whnf); first | (((with_reducible show Gd ..); first | (with_reducible first | refine Gd.t ?_ | refine Gd.f ?_ | (first | apply Gd.dec | apply Gd.beq | apply Gd.bne) <;> intro _ | refine Gd.not ?_) | refine Gd.t ?_ | refine Gd.f ?_ | apply Gd.var <;> intro _) <;> try (exfalso; omega)) | with_reducible refine Sq.mk ?_ | ((with_reducible show Ld1 ..); first | refine Ld1.h H ?_ | refine Ld1.rF ?_ | refine Ld1.r ?_) | ((with_reducible show Ld ..); first | refine Ld.h H ?_ | refine Ld.r ?_) | ((with_reducible show Ix ..); first | refine Ix.h ?_ | refine Ix.ha ?_) | (refine Al.hp H ?_; clear H; intro _ _ H _) | (refine St.h H ?_; clear H; intro _ H)) | refine Sm.strix T.ok ?_)
    exact ⟨A, c, l, ts1, hR, rfl, Hp.stlN H⟩
  rw [if_neg (show ¬ curK (t0 :: r0) = s_rb from hk), Res.bind_assoc] at hR
  repeat' ((conv => whnf); first | ((with_reducible show Gd (bs _ == _) _ _); first | refine Gd.sY (by assumption) ?_ | refine Gd.sk (by assumption) ?_ | refine Gd.sN (by assumption) ?_) | ((conv => whnf); first | (((with_reducible show Gd ..); first | (with_reducible first | refine Gd.t ?_ | refine Gd.f ?_ | (first | apply Gd.dec | apply Gd.beq | apply Gd.bne) <;> intro _ | refine Gd.not ?_) | refine Gd.t ?_ | refine Gd.f ?_ | apply Gd.var <;> intro _) <;> try (exfalso; omega)) | with_reducible refine Sq.mk ?_ | ((with_reducible show Ld1 ..); first | refine Ld1.h H ?_ | refine Ld1.rF ?_ | refine Ld1.r ?_) | ((with_reducible show Ld ..); first | refine Ld.h H ?_ | refine Ld.r ?_) | ((with_reducible show Ix ..); first | refine Ix.h ?_ | refine Ix.ha ?_) | (refine Al.hp H ?_; clear H; intro _ _ H _) | (refine St.h H ?_; clear H; intro _ H)) | refine Sm.strix T.ok ?_)
  (replace H := Hp.toR H hnx hr0; clear hnx hr0)
  ((conv => whnf); refine Cl.mkX (statement_c X C d (t0 :: r0) _ hd (H.base2 HB) (H.atC 2 rfl) (Res.bind_out (by rw [← hR]; exact hne))) ?_ ?_; rotate_left; (rintro ch w9 ⟨e9, p9, q9, h9, rfl, H'⟩; exact ⟨e9, p9, q9, (by rw [hR, h9]; rfl), rfl, Hp.pan H H' (.inl rfl)⟩))
  rintro _ w3 ⟨⟨kd, nm, ⟨k1, o1, n1, a1, b1, A1, c1, l1⟩, B, cb, b, E, ce, el⟩, ts2, h2, rfl, H'⟩
  replace H := H.updn (c := rdr src pr (t0 :: r0)) (Hp.swap H') rfl (.inl rfl) (.inl rfl)
  clear H'
  rw [h2, Res.bind_ok] at hR
  refine Sm.lith (cs := SM.enc (.mk kd nm (.mk k1 o1 n1 a1 b1 A1 c1 l1) B cb b E ce el)) H T.ok (fun p5 w4 H _ => ?_)
  refine Sm.ap1 (enc := SM.enc) (.mk kd nm (.mk k1 o1 n1 a1 b1 A1 c1 l1) B cb b E ce el) H T.ok ?_ ?_ (fun A' c' w6 H => ?_)
  · show (l.length + 1) * 152 ≤ _; omega
  · omega
  simp only [List.cons_append, List.nil_append] at H
  repeat' ((conv => whnf); first | ((with_reducible show Gd (bs _ == _) _ _); first | refine Gd.sY (by assumption) ?_ | refine Gd.sk (by assumption) ?_ | refine Gd.sN (by assumption) ?_) | ((conv => whnf); first | (((with_reducible show Gd ..); first | (with_reducible first | refine Gd.t ?_ | refine Gd.f ?_ | (first | apply Gd.dec | apply Gd.beq | apply Gd.bne) <;> intro _ | refine Gd.not ?_) | refine Gd.t ?_ | refine Gd.f ?_ | apply Gd.var <;> intro _) <;> try (exfalso; omega)) | with_reducible refine Sq.mk ?_ | ((with_reducible show Ld1 ..); first | refine Ld1.h H ?_ | refine Ld1.rF ?_ | refine Ld1.r ?_) | ((with_reducible show Ld ..); first | refine Ld.h H ?_ | refine Ld.r ?_) | ((with_reducible show Ix ..); first | refine Ix.h ?_ | refine Ix.ha ?_) | (refine Al.hp H ?_; clear H; intro _ _ H _) | (refine St.h H ?_; clear H; intro _ H)) | refine Sm.strix T.ok ?_)
  refine ⟨(f, A', c', l ++ [.mk kd nm (.mk k1 o1 n1 a1 b1 A1 c1 l1) B cb b E ce el], ts2), ⟨at_val rfl (by simp), rfl, rfl, rfl, trivial⟩, rfl, ⟨?_, ?_, ?_⟩, Nat.lt_succ_self f⟩
  · rw [hR, SM.es_app]; rfl
  · simp only [List.length_append, List.length_cons, List.length_nil]; omega
  · exact Hp.swap (Hp.stsS (H.sel [0, 1, 0, 0] rfl))
set_option maxHeartbeats 4000000 in
theorem choice_c (d : Nat) (ts : List Tk) (w : World) (hd : d ≤ 40) (hwb : Ext wb w) (h : Rdr src pr ts w) (hne : choiceP F d ts ≠ .out) :
    Cl Tryz.prog 110 #[.pointer (some ⟨pr, 0, none⟩), .int .i64 (d : Int)] w (OkS src pr (choiceP F d ts) w) (PanX (choiceP F d ts) pr w) := by
  have HB := X.ok hwb
  have hwd : IntKind.i64.wrap ((d : Int) + 1) = ((d + 1 : Nat) : Int) := w64 rfl (by omega) (by omega)
  have hblk := fun ts w => C.block (d + 1) ts w (by omega)
  rw [← hwd] at hblk
  have hcho := fun ts w => C.choice (d + 1) ts w
  rw [← hwd] at hcho
  obtain ⟨R, hR⟩ : ∃ R, R = choiceP F d ts := ⟨_, rfl⟩
  rw [← hR] at hne ⊢
  unfold choiceP at hR
  refine calls_ex (args := [.pointer (some ⟨pr, 0, none⟩), .int .i64 (d : Int)]) T.ok Tryz.func110 rfl rfl rfl rfl ?_
  have H := Hp.start (S := (· = pr)) (rdr_ok h) (fun k hk => hk)
  clear h
  refine Sq.mk ?_
  ((conv => whnf); refine Al.hp H ?_; clear H; intro p4 _ H _)
  repeat' ((conv => whnf); first | ((with_reducible show Gd (bs _ == _) _ _); first | refine Gd.sY (by assumption) ?_ | refine Gd.sk (by assumption) ?_ | refine Gd.sN (by assumption) ?_) | ((conv => whnf); first | (((with_reducible show Gd ..); first | (with_reducible first | refine Gd.t ?_ | refine Gd.f ?_ | (first | apply Gd.dec | apply Gd.beq | apply Gd.bne) <;> intro _ | refine Gd.not ?_) | refine Gd.t ?_ | refine Gd.f ?_ | apply Gd.var <;> intro _) <;> try (exfalso; omega)) | with_reducible refine Sq.mk ?_ | ((with_reducible show Ld1 ..); first | refine Ld1.h H ?_ | refine Ld1.rF ?_ | refine Ld1.r ?_) | ((with_reducible show Ld ..); first | refine Ld.h H ?_ | refine Ld.r ?_) | ((with_reducible show Ix ..); first | refine Ix.h ?_ | refine Ix.ha ?_) | (refine Al.hp H ?_; clear H; intro _ _ H _) | (refine St.h H ?_; clear H; intro _ H)) | refine Sm.strix T.ok ?_)
  (((conv => whnf); refine Cl.mkX (take_c k_if src pr (ts) wb _ (H.base2 HB) X.lo X.tb X.len (H.atC 1 rfl) (by decide)) ?_ ?_; rotate_left; (rintro ch w9 ⟨e9, p9, q9, h9, rfl, H'⟩; exact ⟨e9, p9, q9, (by rw [hR, h9]; rfl), rfl, Hp.pan H H' (.inl rfl)⟩)); rintro _ w8 ⟨t1, ts1, h1, rfl, H'⟩; replace H := H.upd (c := rdr src pr (ts)) H' rfl (.inl rfl); clear H'; rw [h1, Res.bind_ok] at hR; clear h1)
  repeat' ((conv => whnf); first | ((with_reducible show Gd (bs _ == _) _ _); first | refine Gd.sY (by assumption) ?_ | refine Gd.sk (by assumption) ?_ | refine Gd.sN (by assumption) ?_) | ((conv => whnf); first | (((with_reducible show Gd ..); first | (with_reducible first | refine Gd.t ?_ | refine Gd.f ?_ | (first | apply Gd.dec | apply Gd.beq | apply Gd.bne) <;> intro _ | refine Gd.not ?_) | refine Gd.t ?_ | refine Gd.f ?_ | apply Gd.var <;> intro _) <;> try (exfalso; omega)) | with_reducible refine Sq.mk ?_ | ((with_reducible show Ld1 ..); first | refine Ld1.h H ?_ | refine Ld1.rF ?_ | refine Ld1.r ?_) | ((with_reducible show Ld ..); first | refine Ld.h H ?_ | refine Ld.r ?_) | ((with_reducible show Ix ..); first | refine Ix.h ?_ | refine Ix.ha ?_) | (refine Al.hp H ?_; clear H; intro _ _ H _) | (refine St.h H ?_; clear H; intro _ H)) | refine Sm.strix T.ok ?_)
  ((conv => whnf); refine Cl.mkX (C.expr 0 d ts1 _ (by omega) (by omega) (H.base2 HB) (H.atC 1 rfl) (Res.bind_out (by rw [← hR]; exact hne))) ?_ ?_; rotate_left; (rintro ch w9 ⟨e9, p9, q9, h9, rfl, H'⟩; exact ⟨e9, p9, q9, (by rw [hR, h9]; rfl), rfl, Hp.pan H H' (.inl rfl)⟩))
  rintro _ w3 ⟨⟨kd, o, n, nm, cb, A2, c2, l2⟩, ts2, h2, rfl, H'⟩
  replace H := H.updn (c := rdr src pr ts1) (Hp.swap H') rfl (.inl rfl) (.inl rfl)
  clear H'
  rw [h2, Res.bind_ok] at hR
  repeat' ((conv => whnf); first | ((with_reducible show Gd (bs _ == _) _ _); first | refine Gd.sY (by assumption) ?_ | refine Gd.sk (by assumption) ?_ | refine Gd.sN (by assumption) ?_) | ((conv => whnf); first | (((with_reducible show Gd ..); first | (with_reducible first | refine Gd.t ?_ | refine Gd.f ?_ | (first | apply Gd.dec | apply Gd.beq | apply Gd.bne) <;> intro _ | refine Gd.not ?_) | refine Gd.t ?_ | refine Gd.f ?_ | apply Gd.var <;> intro _) <;> try (exfalso; omega)) | with_reducible refine Sq.mk ?_ | ((with_reducible show Ld1 ..); first | refine Ld1.h H ?_ | refine Ld1.rF ?_ | refine Ld1.r ?_) | ((with_reducible show Ld ..); first | refine Ld.h H ?_ | refine Ld.r ?_) | ((with_reducible show Ix ..); first | refine Ix.h ?_ | refine Ix.ha ?_) | (refine St.h H ?_; clear H; intro _ H)) | refine Sm.strix T.ok ?_)
  ((conv => whnf); refine Al.hp H ?_; clear H; intro p5 _ H _)
  repeat' ((conv => whnf); first | ((with_reducible show Gd (bs _ == _) _ _); first | refine Gd.sY (by assumption) ?_ | refine Gd.sk (by assumption) ?_ | refine Gd.sN (by assumption) ?_) | ((conv => whnf); first | (((with_reducible show Gd ..); first | (with_reducible first | refine Gd.t ?_ | refine Gd.f ?_ | (first | apply Gd.dec | apply Gd.beq | apply Gd.bne) <;> intro _ | refine Gd.not ?_) | refine Gd.t ?_ | refine Gd.f ?_ | apply Gd.var <;> intro _) <;> try (exfalso; omega)) | with_reducible refine Sq.mk ?_ | ((with_reducible show Ld1 ..); first | refine Ld1.h H ?_ | refine Ld1.rF ?_ | refine Ld1.r ?_) | ((with_reducible show Ld ..); first | refine Ld.h H ?_ | refine Ld.r ?_) | ((with_reducible show Ix ..); first | refine Ix.h ?_ | refine Ix.ha ?_) | (refine Al.hp H ?_; clear H; intro _ _ H _) | (refine St.h H ?_; clear H; intro _ H)) | refine Sm.strix T.ok ?_)
  ((conv => whnf); refine Cl.mkX (hblk ts2 _ (H.base2 HB) (H.atC 3 rfl) (Res.bind_out (by rw [← hR]; exact hne))) ?_ ?_; rotate_left; (rintro ch w9 ⟨e9, p9, q9, h9, rfl, H'⟩; exact ⟨e9, p9, q9, (by rw [hR, h9]; rfl), rfl, Hp.pan H H' (.inl rfl)⟩))
  rintro _ w4 ⟨B, cB, b, ts3, h3, rfl, H'⟩
  replace H := H.updn (c := rdr src pr ts2) (Hp.swap H') rfl (.inl rfl) (.inl rfl)
  clear H'
  rw [h3, Res.bind_ok] at hR
  repeat' ((conv => whnf); first | ((with_reducible show Gd (bs _ == _) _ _); first | refine Gd.sY (by assumption) ?_ | refine Gd.sk (by assumption) ?_ | refine Gd.sN (by assumption) ?_) | ((conv => whnf); first | (((with_reducible show Gd ..); first | (with_reducible first | refine Gd.t ?_ | refine Gd.f ?_ | (first | apply Gd.dec | apply Gd.beq | apply Gd.bne) <;> intro _ | refine Gd.not ?_) | refine Gd.t ?_ | refine Gd.f ?_ | apply Gd.var <;> intro _) <;> try (exfalso; omega)) | with_reducible refine Sq.mk ?_ | ((with_reducible show Ld1 ..); first | refine Ld1.h H ?_ | refine Ld1.rF ?_ | refine Ld1.r ?_) | ((with_reducible show Ld ..); first | refine Ld.h H ?_ | refine Ld.r ?_) | ((with_reducible show Ix ..); first | refine Ix.h ?_ | refine Ix.ha ?_) | (refine St.h H ?_; clear H; intro _ H)) | refine Sm.strix T.ok ?_)
  (obtain ⟨nx3, t3, r3, rfl, hn3, hr3, hb0⟩ := H.atC (c := rdr src pr ts3) 4 rfl; replace H := Hp.ofR H hb0; clear hb0)
  by_cases hel : t3.kind = k_else
  case neg =>
    rw [if_pos (show curK (t3 :: r3) ≠ k_else from hel)] at hR
    repeat' ((conv => whnf); first | ((with_reducible show Gd (bs _ == _) _ _); first | refine Gd.sY (by assumption) ?_ | refine Gd.sk (by assumption) ?_ | refine Gd.sN (by assumption) ?_) | ((conv => whnf); first | (((with_reducible show Gd ..); first | (with_reducible first | refine Gd.t ?_ | refine Gd.f ?_ | (first | apply Gd.dec | apply Gd.beq | apply Gd.bne) <;> intro _ | refine Gd.not ?_) | refine Gd.t ?_ | refine Gd.f ?_ | apply Gd.var <;> intro _) <;> try (exfalso; omega)) | with_reducible refine Sq.mk ?_ | ((with_reducible show Ld1 ..); first | refine Ld1.h H ?_ | refine Ld1.rF ?_ | refine Ld1.r ?_) | ((with_reducible show Ld ..); first | refine Ld.h H ?_ | refine Ld.r ?_) | ((with_reducible show Ix ..); first | refine Ix.h ?_ | refine Ix.ha ?_) | (refine Al.hp H ?_; clear H; intro _ _ H _) | (refine St.h H ?_; clear H; intro _ H)) | refine Sm.strix T.ok ?_)
    (replace H := Hp.toR H hn3 hr3)
    replace H := Hp.stl0 H
    refine ⟨.mk 4 [] (.mk kd o n nm cb A2 c2 l2) B cB b none 0 [], t3 :: r3, hR, sm_v rfl, Hp.stsN 4 [] ?_⟩
    exact H.sel [3, 1, 0, 2] rfl
  rw [if_neg (show ¬ curK (t3 :: r3) ≠ k_else from fun e => e hel)] at hR
  repeat' ((conv => whnf); first | ((with_reducible show Gd (bs _ == _) _ _); first | refine Gd.sY (by assumption) ?_ | refine Gd.sk (by assumption) ?_ | refine Gd.sN (by assumption) ?_) | ((conv => whnf); first | (((with_reducible show Gd ..); first | (with_reducible first | refine Gd.t ?_ | refine Gd.f ?_ | (first | apply Gd.dec | apply Gd.beq | apply Gd.bne) <;> intro _ | refine Gd.not ?_) | refine Gd.t ?_ | refine Gd.f ?_ | apply Gd.var <;> intro _) <;> try (exfalso; omega)) | with_reducible refine Sq.mk ?_ | ((with_reducible show Ld1 ..); first | refine Ld1.h H ?_ | refine Ld1.rF ?_ | refine Ld1.r ?_) | ((with_reducible show Ld ..); first | refine Ld.h H ?_ | refine Ld.r ?_) | ((with_reducible show Ix ..); first | refine Ix.h ?_ | refine Ix.ha ?_) | (refine Al.hp H ?_; clear H; intro _ _ H _) | (refine St.h H ?_; clear H; intro _ H)) | refine Sm.strix T.ok ?_)
  (replace H := Hp.toR H hn3 hr3)
  (((conv => whnf); refine Cl.mkX (step_c _ src pr (t3 :: r3) wb _ (H.base2 HB) X.lo X.tb X.len (H.atC 4 rfl) (by rw [curK_cons, hel]; decide)) ?_ ?_; rotate_left; (rintro ch w9 ⟨e9, p9, q9, h9, rfl, H'⟩; exact ⟨e9, p9, q9, (by rw [hR, h9]; rfl), rfl, Hp.pan H H' (.inl rfl)⟩)); rintro _ w8 ⟨ts4, h1, H'⟩; replace H := H.upd (c := rdr src pr (t3 :: r3)) H' rfl (.inl rfl); clear H'; rw [h1, Res.bind_ok] at hR; clear h1)
  (obtain ⟨nx4, t4, r4, rfl, hn4, hr4, hb0⟩ := H.atC (c := rdr src pr ts4) 4 rfl; replace H := Hp.ofR H hb0; clear hb0)
  by_cases hi : t4.kind = k_if
  · rw [if_pos (show curK (t4 :: r4) = k_if from hi)] at hR
    repeat' ((conv => whnf); first | ((with_reducible show Gd (bs _ == _) _ _); first | refine Gd.sY (by assumption) ?_ | refine Gd.sk (by assumption) ?_ | refine Gd.sN (by assumption) ?_) | ((conv => whnf); first | (((with_reducible show Gd ..); first | (with_reducible first | refine Gd.t ?_ | refine Gd.f ?_ | (first | apply Gd.dec | apply Gd.beq | apply Gd.bne) <;> intro _ | refine Gd.not ?_) | refine Gd.t ?_ | refine Gd.f ?_ | apply Gd.var <;> intro _) <;> try (exfalso; omega)) | with_reducible refine Sq.mk ?_ | ((with_reducible show Ld1 ..); first | refine Ld1.h H ?_ | refine Ld1.rF ?_ | refine Ld1.r ?_) | ((with_reducible show Ld ..); first | refine Ld.h H ?_ | refine Ld.r ?_) | ((with_reducible show Ix ..); first | refine Ix.h ?_ | refine Ix.ha ?_) | (refine Al.hp H ?_; clear H; intro _ _ H _) | (refine St.h H ?_; clear H; intro _ H)) | refine Sm.strix T.ok ?_)
    (replace H := Hp.toR H hn4 hr4)
    (((conv => whnf); refine Cl.mkX (deep_c _ src pr (t4 :: r4) (d + 1) hwd _ (H.atC 4 rfl)) ?_ ?_; rotate_left; (rintro ch w9 ⟨e9, p9, q9, h9, rfl, H'⟩; exact ⟨e9, p9, q9, (by rw [hR, h9]; rfl), rfl, Hp.pan H H' (.inl rfl)⟩)); rintro _ w8 ⟨h1, ex⟩; replace H := H.ext ex; clear ex; have hd40 := deep_le h1; rw [h1, Res.bind_ok] at hR; clear h1)
    repeat' ((conv => whnf); first | ((with_reducible show Gd (bs _ == _) _ _); first | refine Gd.sY (by assumption) ?_ | refine Gd.sk (by assumption) ?_ | refine Gd.sN (by assumption) ?_) | ((conv => whnf); first | (((with_reducible show Gd ..); first | (with_reducible first | refine Gd.t ?_ | refine Gd.f ?_ | (first | apply Gd.dec | apply Gd.beq | apply Gd.bne) <;> intro _ | refine Gd.not ?_) | refine Gd.t ?_ | refine Gd.f ?_ | apply Gd.var <;> intro _) <;> try (exfalso; omega)) | with_reducible refine Sq.mk ?_ | ((with_reducible show Ld1 ..); first | refine Ld1.h H ?_ | refine Ld1.rF ?_ | refine Ld1.r ?_) | ((with_reducible show Ld ..); first | refine Ld.h H ?_ | refine Ld.r ?_) | ((with_reducible show Ix ..); first | refine Ix.h ?_ | refine Ix.ha ?_) | (refine Al.hp H ?_; clear H; intro _ _ H _) | (refine St.h H ?_; clear H; intro _ H)) | refine Sm.strix T.ok ?_)
    replace H := Hp.nil (Hp.sts0 H) SM.enc 10 76
    (conv => whnf)
    refine Dr.chX T.ok mixed [0, 1, 2, 3, 4, 8] [5, 6, 7, 9] (by kernel_rfl) rfl rfl (fun w' => Blk w' p5 76 (SM.enc (.mk 4 [] (.mk kd o n nm cb A2 c2 l2) B cB b none 0 []))) (PanX R pr w) (fun ch F' w' hds h => by (conv => whnf); rw [show F'.ds = [] from hds]; exact h) (fun w1 eT _ => ?_)
    replace H := H.ext eT
    repeat' ((conv => whnf); first | refine QLd1.own (fun _ hw => hw) ?_ | refine QLd.own (fun _ hw => hw) ?_)
    (conv => whnf)
    refine ⟨H.blk 3 rfl, ?_⟩
    ((conv => whnf); refine Cl.mkX (hcho (t4 :: r4) _ (by omega) (H.base2 HB) (H.atC 6 rfl) (Res.bind_out (by rw [← hR]; exact hne))) ?_ ?_; rotate_left; (rintro ch w9 ⟨e9, p9, q9, h9, rfl, H'⟩; exact ⟨e9, p9, q9, (by rw [hR, h9]; rfl), rfl, Hp.pan H H' (.inl rfl)⟩))
    rintro _ w5 ⟨⟨kd2, nm2, ⟨k1, o1, n1, a1, b1, A1, c1, l1⟩, B2, cb2, b2, E2, ce2, el2⟩, ts5, h5, rfl, H'⟩
    replace H := H.updn (c := rdr src pr (t4 :: r4)) (Hp.swap H') rfl (.inl rfl) (.inl rfl)
    clear H'
    rw [h5, Res.bind_ok] at hR
    (conv => whnf)
    refine ⟨H.blk 4 rfl, ?_⟩
    refine Sm.lith (cs := SM.enc (.mk kd2 nm2 (.mk k1 o1 n1 a1 b1 A1 c1 l1) B2 cb2 b2 E2 ce2 el2)) H T.ok (fun p6 w6 H _ => ?_)
    (conv => whnf)
    refine ⟨H.blk 5 rfl, ?_⟩
    refine Sm.ap1 (enc := SM.enc) (.mk kd2 nm2 (.mk k1 o1 n1 a1 b1 A1 c1 l1) B2 cb2 b2 E2 ce2 el2) H T.ok ?_ ?_ (fun A' c' w7 H => ?_)
    · show (0 + 1) * 152 ≤ _; omega
    · show 0 + 1 ≤ _; omega
    simp only [List.cons_append, List.nil_append] at H
    (conv => whnf)
    refine ⟨H.blk 4 rfl, ?_⟩
    repeat' ((conv => whnf); first | ((with_reducible show Gd (bs _ == _) _ _); first | refine Gd.sY (by assumption) ?_ | refine Gd.sk (by assumption) ?_ | refine Gd.sN (by assumption) ?_) | ((conv => whnf); first | (((with_reducible show Gd ..); first | (with_reducible first | refine Gd.t ?_ | refine Gd.f ?_ | (first | apply Gd.dec | apply Gd.beq | apply Gd.bne) <;> intro _ | refine Gd.not ?_) | refine Gd.t ?_ | refine Gd.f ?_ | apply Gd.var <;> intro _) <;> try (exfalso; omega)) | with_reducible refine Sq.mk ?_ | ((with_reducible show Ld1 ..); first | refine Ld1.h H ?_ | refine Ld1.rF ?_ | refine Ld1.r ?_) | ((with_reducible show Ld ..); first | refine Ld.h H ?_ | refine Ld.r ?_) | ((with_reducible show Ix ..); first | refine Ix.h ?_ | refine Ix.ha ?_) | (refine Al.hp H ?_; clear H; intro _ _ H _) | (refine St.h H ?_; clear H; intro _ H)) | refine Sm.strix T.ok ?_)
    refine ⟨.mk 4 [] (.mk kd o n nm cb A2 c2 l2) B cB b A' c' [.mk kd2 nm2 (.mk k1 o1 n1 a1 b1 A1 c1 l1) B2 cb2 b2 E2 ce2 el2], ts5, hR, sm_v rfl, Hp.stsN 4 [] ?_⟩
    exact (Hp.stlN (Hp.swap (Hp.stsS (l := []) (H.sel [0, 1, 0, 0, 1, 2] rfl)))).sel [2, 1, 0, 0] rfl
  rw [if_neg (show ¬ curK (t4 :: r4) = k_if from hi)] at hR
  repeat' ((conv => whnf); first | ((with_reducible show Gd (bs _ == _) _ _); first | refine Gd.sY (by assumption) ?_ | refine Gd.sk (by assumption) ?_ | refine Gd.sN (by assumption) ?_) | ((conv => whnf); first | (((with_reducible show Gd ..); first | (with_reducible first | refine Gd.t ?_ | refine Gd.f ?_ | (first | apply Gd.dec | apply Gd.beq | apply Gd.bne) <;> intro _ | refine Gd.not ?_) | refine Gd.t ?_ | refine Gd.f ?_ | apply Gd.var <;> intro _) <;> try (exfalso; omega)) | with_reducible refine Sq.mk ?_ | ((with_reducible show Ld1 ..); first | refine Ld1.h H ?_ | refine Ld1.rF ?_ | refine Ld1.r ?_) | ((with_reducible show Ld ..); first | refine Ld.h H ?_ | refine Ld.r ?_) | ((with_reducible show Ix ..); first | refine Ix.h ?_ | refine Ix.ha ?_) | (refine Al.hp H ?_; clear H; intro _ _ H _) | (refine St.h H ?_; clear H; intro _ H)) | refine Sm.strix T.ok ?_)
  (replace H := Hp.toR H hn4 hr4)
  ((conv => whnf); refine Cl.mkX (hblk (t4 :: r4) _ (H.base2 HB) (H.atC 4 rfl) (Res.bind_out (by rw [← hR]; exact hne))) ?_ ?_; rotate_left; (rintro ch w9 ⟨e9, p9, q9, h9, rfl, H'⟩; exact ⟨e9, p9, q9, (by rw [hR, h9]; rfl), rfl, Hp.pan H H' (.inl rfl)⟩))
  rintro _ w5 ⟨E, cE, el, ts5, h5, rfl, H'⟩
  replace H := H.updn (c := rdr src pr (t4 :: r4)) (Hp.swap H') rfl (.inl rfl) (.inl rfl)
  clear H'
  rw [h5, Res.bind_ok] at hR
  repeat' ((conv => whnf); first | ((with_reducible show Gd (bs _ == _) _ _); first | refine Gd.sY (by assumption) ?_ | refine Gd.sk (by assumption) ?_ | refine Gd.sN (by assumption) ?_) | ((conv => whnf); first | (((with_reducible show Gd ..); first | (with_reducible first | refine Gd.t ?_ | refine Gd.f ?_ | (first | apply Gd.dec | apply Gd.beq | apply Gd.bne) <;> intro _ | refine Gd.not ?_) | refine Gd.t ?_ | refine Gd.f ?_ | apply Gd.var <;> intro _) <;> try (exfalso; omega)) | with_reducible refine Sq.mk ?_ | ((with_reducible show Ld1 ..); first | refine Ld1.h H ?_ | refine Ld1.rF ?_ | refine Ld1.r ?_) | ((with_reducible show Ld ..); first | refine Ld.h H ?_ | refine Ld.r ?_) | ((with_reducible show Ix ..); first | refine Ix.h ?_ | refine Ix.ha ?_) | (refine Al.hp H ?_; clear H; intro _ _ H _) | (refine St.h H ?_; clear H; intro _ H)) | refine Sm.strix T.ok ?_)
  refine ⟨.mk 4 [] (.mk kd o n nm cb A2 c2 l2) B cB b E cE el, ts5, hR, sm_v rfl, Hp.stsN 4 [] ?_⟩
  exact H.sel [3, 1, 0, 2] rfl
end
end Go.Proofs.YtfnjodpehomgfaaGreatDoor
