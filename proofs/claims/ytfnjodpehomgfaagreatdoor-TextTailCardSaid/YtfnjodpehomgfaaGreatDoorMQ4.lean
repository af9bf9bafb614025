/- own work: TzH, ShI, TzI, TzJ, TzK, TyH -/
import Derived.Test.YtfnjodpehomgfaaGreatDoorMQ3
set_option linter.unusedVariables false
set_option linter.unusedSimpArgs false
set_option linter.unusedSectionVars false
namespace Go.Proofs.YtfnjodpehomgfaaGreatDoor
open Go Go.Sh Go.Tx
attribute [local irreducible] Blk Ext RdS
section
variable {src : Bs} {ws : List Tk} {A : Option Addr} {cw pr : Nat} {wb : World}
variable (Y : RY src ws A cw pr wb) {F : PF} (C : RCon src ws A cw pr wb F)
include Y C
theorem deep_at {d : Nat} {ts : List Tk} (hg : Gdw ts) (hp : Pls ts) : (d + 1 ≤ 40 → deepP (d + 1) ts = .ok () ts) ∧ (¬ d + 1 ≤ 40 → deepP (d + 1) ts = .err 144 (curT ts).at_ ∧ wrongR 144 ⟨ts, none⟩ = ⟨ts, some (144, (curT ts).at_)⟩) := by
  refine ⟨fun h => ?_, fun h => ⟨?_, wrong_good rfl hg.ok hp.cur.1⟩⟩
  · unfold deepP; rw [if_neg (by omega)]
  · unfold deepP; rw [if_pos (by omega)]
set_option maxHeartbeats 4000000 in
theorem unary_r (d : Nat) (ts : List Tk) (w : World) (hd : d ≤ 41) (hwb : Ext wb w) (h : RdQ ws A cw pr ⟨ts, none⟩ w) (hg : Gdw ts) (hne : unaryP F d ts ≠ .out) :
    Cl Tryz.prog 126 #[.pointer (some ⟨pr, 0, none⟩), .int .i64 (d : Int)] w (OkRE ws A cw pr id (unaryP F d ts) w) (fun _ _ => False) := by
  have X := Y.x
  have HB := X.ok hwb
  have hts := ends_ne hg.ends
  have hpl := h.pls X
  have hmem := h.mem
  have hwd : IntKind.i64.wrap ((d : Int) + 1) = ((d + 1 : Nat) : Int) := w64 rfl (by omega) (by omega)
  obtain ⟨R, hR⟩ : ∃ R, R = unaryP F d ts := ⟨_, rfl⟩
  rw [← hR] at hne ⊢
  unfold unaryP at hR
  refine calls_ex (args := [.pointer (some ⟨pr, 0, none⟩), .int .i64 (d : Int)]) T.ok Tryz.func126 rfl rfl rfl rfl ?_
  have H := Hp.start (S := (· = pr)) (rq_ok h) (fun k hk => hk)
  clear h
  refine Sq.mk ?_
  ((conv => whnf); refine Al.hp H ?_; clear H; intro p4 _ H _)
  repeat' ((conv => whnf); first | (((with_reducible show Gd ..); first | (with_reducible first | refine Gd.t ?_ | refine Gd.f ?_ | (first | apply Gd.dec | apply Gd.beq | apply Gd.bne) <;> intro _ | refine Gd.not ?_) | refine Gd.t ?_ | refine Gd.f ?_ | apply Gd.var <;> intro _) <;> try (exfalso; omega)) | with_reducible refine Sq.mk ?_ | ((with_reducible show Ld1 ..); first | refine Ld1.h H ?_ | refine Ld1.rF ?_ | refine Ld1.r ?_) | ((with_reducible show Ld ..); first | refine Ld.h H ?_ | refine Ld.r ?_) | ((with_reducible show Ix ..); first | refine Ix.h ?_ | refine Ix.ha ?_) | (refine St.h H ?_; clear H; intro _ H))
  (((conv => whnf); refine Cl.mk (is_r X s_minus ⟨ts, none⟩ _ (H.base2 HB) (H.atC 1 rfl) hts) ?_); rintro _ _ ⟨rfl, hx⟩; replace H := H.ext hx; clear hx)
  rw [is_ok (hg.at ())]
  repeat' ((conv => whnf); first | (((with_reducible show Gd ..); first | (with_reducible first | refine Gd.t ?_ | refine Gd.f ?_ | (first | apply Gd.dec | apply Gd.beq | apply Gd.bne) <;> intro _ | refine Gd.not ?_) | refine Gd.t ?_ | refine Gd.f ?_ | apply Gd.var <;> intro _) <;> try (exfalso; omega)) | with_reducible refine Sq.mk ?_ | ((with_reducible show Ld1 ..); first | refine Ld1.h H ?_ | refine Ld1.rF ?_ | refine Ld1.r ?_) | ((with_reducible show Ld ..); first | refine Ld.h H ?_ | refine Ld.r ?_) | ((with_reducible show Ix ..); first | refine Ix.h ?_ | refine Ix.ha ?_) | (refine St.h H ?_; clear H; intro _ H))
  (((conv => whnf); refine Cl.mk (is_r X s_bang ⟨ts, none⟩ _ (H.base2 HB) (H.atC 1 rfl) hts) ?_); rintro _ _ ⟨rfl, hx⟩; replace H := H.ext hx; clear hx)
  rw [is_ok (hg.at ())]
  by_cases hs : curK ts ≠ s_minus ∧ curK ts ≠ s_bang
  · rw [if_pos hs] at hR
    rw [beq_eq_false_iff_ne.2 hs.1, beq_eq_false_iff_ne.2 hs.2]
    repeat' ((conv => whnf); first | (((with_reducible show Gd ..); first | (with_reducible first | refine Gd.t ?_ | refine Gd.f ?_ | (first | apply Gd.dec | apply Gd.beq | apply Gd.bne) <;> intro _ | refine Gd.not ?_) | refine Gd.t ?_ | refine Gd.f ?_ | apply Gd.var <;> intro _) <;> try (exfalso; omega)) | with_reducible refine Sq.mk ?_ | ((with_reducible show Ld1 ..); first | refine Ld1.h H ?_ | refine Ld1.rF ?_ | refine Ld1.r ?_) | ((with_reducible show Ld ..); first | refine Ld.h H ?_ | refine Ld.r ?_) | ((with_reducible show Ix ..); first | refine Ix.h ?_ | refine Ix.ha ?_) | (refine St.h H ?_; clear H; intro _ H))
    ((conv => whnf); refine Cl.mk (C.primary d ts _ hd (H.base2 HB) (H.atC 1 rfl) hg (by rw [← hR]; exact hne)) ?_)
    rintro _ w3 ⟨⟨kd, o, n, nm, cb, B, c, l⟩, s', rfl, ha', hv, H'⟩
    replace H := H.updn (c := rq ws A cw pr ⟨ts, none⟩) (Hp.swap H') rfl (.inl rfl) (.inl rfl)
    clear H'
    repeat' ((conv => whnf); first | (((with_reducible show Gd ..); first | (with_reducible first | refine Gd.t ?_ | refine Gd.f ?_ | (first | apply Gd.dec | apply Gd.beq | apply Gd.bne) <;> intro _ | refine Gd.not ?_) | refine Gd.t ?_ | refine Gd.f ?_ | apply Gd.var <;> intro _) <;> try (exfalso; omega)) | with_reducible refine Sq.mk ?_ | ((with_reducible show Ld1 ..); first | refine Ld1.h H ?_ | refine Ld1.rF ?_ | refine Ld1.r ?_) | ((with_reducible show Ld ..); first | refine Ld.h H ?_ | refine Ld.r ?_) | ((with_reducible show Ix ..); first | refine Ix.h ?_ | refine Ix.ha ?_) | (refine St.h H ?_; clear H; intro _ H))
    rw [← hR] at ha' hv
    exact ⟨.mk kd o n nm cb B c l, s', rfl, ha', hv, H.sel [0, 1] rfl⟩
  rw [if_neg hs] at hR
  obtain ⟨hd1, hd2⟩ := deep_at Y C (d := d) hg hpl
  have hend : curK ts ≠ k_end := fun e => hs (by rw [e]; decide)
  have hhd := hg.ok
  have hst := step_at hg.ends hg.ok hend
  have hfin : ∀ (w' : World) (p5 : Nat) (kk : Int) (e : ET) (s : RS), Hp (· = pr) w w' [bk p5 74 (ET.enc e), trs [e], rq ws A cw pr s] → Hp (· = pr) w w' [trs [.mk kk 0 0 [] [] (some ⟨p5, 0, none⟩) 1 [e]], rq ws A cw pr s] := fun w' p5 kk e s H => by
    have H1 : Hp (· = pr) w w' [bk p5 74 ([e].flatMap ET.enc), trs [e], rq ws A cw pr s] := by simpa using H
    exact Hp.trsN kk 0 0 [] [] (Hp.bq (sz := 6) H1 (fun z _ => ET.enc_len z))
  by_cases h40 : d + 1 ≤ 40
  case neg =>
    obtain ⟨h1, h2⟩ := hd2 h40
    rw [h1] at hR
    replace hR : R = .err 144 (curT ts).at_ := hR
    have hgo : ∀ (v : Value) (w' : World), v = .bool (decide (d + 1 ≤ 40)) ∧ Hp (· = pr) w w' [rq ws A cw pr (if d + 1 ≤ 40 then ⟨ts, none⟩ else wrongR 144 ⟨ts, none⟩)] → v = .bool false ∧ Hp (· = pr) w w' [rq ws A cw pr ⟨ts, some (144, (curT ts).at_)⟩] := fun v w' q => by
      rw [if_neg h40, h2, decide_eq_false h40] at q; exact q
    by_cases hm : curK ts = s_minus
    · have hb : ¬ curK ts = s_bang := by rw [hm]; decide
      rw [beq_iff_eq.2 hm, beq_eq_false_iff_ne.2 hb]
      repeat' ((conv => whnf); first | (((with_reducible show Gd ..); first | (with_reducible first | refine Gd.t ?_ | refine Gd.f ?_ | (first | apply Gd.dec | apply Gd.beq | apply Gd.bne) <;> intro _ | refine Gd.not ?_) | refine Gd.t ?_ | refine Gd.f ?_ | apply Gd.var <;> intro _) <;> try (exfalso; omega)) | with_reducible refine Sq.mk ?_ | ((with_reducible show Ld1 ..); first | refine Ld1.h H ?_ | refine Ld1.rF ?_ | refine Ld1.r ?_) | ((with_reducible show Ld ..); first | refine Ld.h H ?_ | refine Ld.r ?_) | ((with_reducible show Ix ..); first | refine Ix.h ?_ | refine Ix.ha ?_) | (refine St.h H ?_; clear H; intro _ H))
      ((conv => whnf); refine Cl.mk (deeper_r X d ⟨ts, none⟩ _ (by omega) (H.base2 HB) (H.atC 1 rfl) hts) ?_)
      rintro _ w3 ⟨rfl, H'⟩
      rw [if_neg h40, h2] at H'
      rw [decide_eq_false h40]
      replace H := H.upd (c := rq ws A cw pr ⟨ts, none⟩) H' rfl (.inl rfl)
      clear H'
      repeat' ((conv => whnf); first | (((with_reducible show Gd ..); first | (with_reducible first | refine Gd.t ?_ | refine Gd.f ?_ | (first | apply Gd.dec | apply Gd.beq | apply Gd.bne) <;> intro _ | refine Gd.not ?_) | refine Gd.t ?_ | refine Gd.f ?_ | apply Gd.var <;> intro _) <;> try (exfalso; omega)) | with_reducible refine Sq.mk ?_ | ((with_reducible show Ld1 ..); first | refine Ld1.h H ?_ | refine Ld1.rF ?_ | refine Ld1.r ?_) | ((with_reducible show Ld ..); first | refine Ld.h H ?_ | refine Ld.r ?_) | ((with_reducible show Ix ..); first | refine Ix.h ?_ | refine Ix.ha ?_) | (refine St.h H ?_; clear H; intro _ H))
      refine ⟨.mk 0 0 0 [] [] none 0 [], _, rfl, ?_, by rw [hR]; exact Vl.err, Hp.trsZ 0 0 0 [] [] H.d0⟩
      rw [hR]; exact ⟨hg.ends, .inl rfl⟩
    · have hb : curK ts = s_bang := Classical.byContradiction fun hb => hs ⟨hm, hb⟩
      rw [beq_eq_false_iff_ne.2 hm, beq_iff_eq.2 hb]
      repeat' ((conv => whnf); first | (((with_reducible show Gd ..); first | (with_reducible first | refine Gd.t ?_ | refine Gd.f ?_ | (first | apply Gd.dec | apply Gd.beq | apply Gd.bne) <;> intro _ | refine Gd.not ?_) | refine Gd.t ?_ | refine Gd.f ?_ | apply Gd.var <;> intro _) <;> try (exfalso; omega)) | with_reducible refine Sq.mk ?_ | ((with_reducible show Ld1 ..); first | refine Ld1.h H ?_ | refine Ld1.rF ?_ | refine Ld1.r ?_) | ((with_reducible show Ld ..); first | refine Ld.h H ?_ | refine Ld.r ?_) | ((with_reducible show Ix ..); first | refine Ix.h ?_ | refine Ix.ha ?_) | (refine St.h H ?_; clear H; intro _ H))
      ((conv => whnf); refine Cl.mk (deeper_r X d ⟨ts, none⟩ _ (by omega) (H.base2 HB) (H.atC 1 rfl) hts) ?_)
      rintro _ w3 ⟨rfl, H'⟩
      rw [if_neg h40, h2] at H'
      rw [decide_eq_false h40]
      replace H := H.upd (c := rq ws A cw pr ⟨ts, none⟩) H' rfl (.inl rfl)
      clear H'
      repeat' ((conv => whnf); first | (((with_reducible show Gd ..); first | (with_reducible first | refine Gd.t ?_ | refine Gd.f ?_ | (first | apply Gd.dec | apply Gd.beq | apply Gd.bne) <;> intro _ | refine Gd.not ?_) | refine Gd.t ?_ | refine Gd.f ?_ | apply Gd.var <;> intro _) <;> try (exfalso; omega)) | with_reducible refine Sq.mk ?_ | ((with_reducible show Ld1 ..); first | refine Ld1.h H ?_ | refine Ld1.rF ?_ | refine Ld1.r ?_) | ((with_reducible show Ld ..); first | refine Ld.h H ?_ | refine Ld.r ?_) | ((with_reducible show Ix ..); first | refine Ix.h ?_ | refine Ix.ha ?_) | (refine St.h H ?_; clear H; intro _ H))
      refine ⟨.mk 0 0 0 [] [] none 0 [], _, rfl, ?_, by rw [hR]; exact Vl.err, Hp.trsZ 0 0 0 [] [] H.d0⟩
      rw [hR]; exact ⟨hg.ends, .inl rfl⟩
  rw [hd1 h40] at hR
  replace hR : R = (stepP (curK ts == s_minus) ts).bind fun _ ts1 => if curK ts = s_minus ∧ curK ts1 = k_number then (stepP false ts1).bind fun _ ts2 => .ok (.mk 0 0 (curT ts1).n [] [] []) ts2 else (F.unary (d + 1) ts1).bind fun e ts2 => .ok (.mk (if curK ts = s_bang then 3 else 2) 0 0 [] [] [e]) ts2 := hR
  obtain ⟨t0, u0, r0, rfl⟩ := Way.ne ⟨hg.ends, (chk_ok hg.ok).2.1⟩ hend
  have hun := fun (s : RS) w => unaryR Y C (stepP false (t0 :: u0 :: r0)) (d + 1) s w (by omega)
  rw [← hwd] at hun
  by_cases hm : curK (t0 :: u0 :: r0) = s_minus
  · have hb : ¬ curK (t0 :: u0 :: r0) = s_bang := by rw [hm]; decide
    rw [beq_iff_eq.2 hm] at hR
    rw [if_neg hb] at hR
    rw [beq_iff_eq.2 hm, beq_eq_false_iff_ne.2 hb]
    repeat' ((conv => whnf); first | (((with_reducible show Gd ..); first | (with_reducible first | refine Gd.t ?_ | refine Gd.f ?_ | (first | apply Gd.dec | apply Gd.beq | apply Gd.bne) <;> intro _ | refine Gd.not ?_) | refine Gd.t ?_ | refine Gd.f ?_ | apply Gd.var <;> intro _) <;> try (exfalso; omega)) | with_reducible refine Sq.mk ?_ | ((with_reducible show Ld1 ..); first | refine Ld1.h H ?_ | refine Ld1.rF ?_ | refine Ld1.r ?_) | ((with_reducible show Ld ..); first | refine Ld.h H ?_ | refine Ld.r ?_) | ((with_reducible show Ix ..); first | refine Ix.h ?_ | refine Ix.ha ?_) | (refine St.h H ?_; clear H; intro _ H))
    ((conv => whnf); refine Cl.mk (deeper_r X d ⟨t0 :: u0 :: r0, none⟩ _ (by omega) (H.base2 HB) (H.atC 1 rfl) hts) ?_)
    rintro _ w3 ⟨rfl, H'⟩
    rw [if_pos h40] at H'
    rw [decide_eq_true h40]
    replace H := H.upd (c := rq ws A cw pr ⟨t0 :: u0 :: r0, none⟩) H' rfl (.inl rfl)
    clear H'
    repeat' ((conv => whnf); first | (((with_reducible show Gd ..); first | (with_reducible first | refine Gd.t ?_ | refine Gd.f ?_ | (first | apply Gd.dec | apply Gd.beq | apply Gd.bne) <;> intro _ | refine Gd.not ?_) | refine Gd.t ?_ | refine Gd.f ?_ | apply Gd.var <;> intro _) <;> try (exfalso; omega)) | with_reducible refine Sq.mk ?_ | ((with_reducible show Ld1 ..); first | refine Ld1.h H ?_ | refine Ld1.rF ?_ | refine Ld1.r ?_) | ((with_reducible show Ld ..); first | refine Ld.h H ?_ | refine Ld.r ?_) | ((with_reducible show Ix ..); first | refine Ix.h ?_ | refine Ix.ha ?_) | (refine St.h H ?_; clear H; intro _ H))
    (obtain ⟨j, hj1, hj2, hb0⟩ := H.atC (c := rq ws A cw pr (⟨t0 :: u0 :: r0, none⟩)) 1 rfl; have hjl := X.lt hj1 (by first | exact List.cons_ne_nil _ _ | assumption); replace H := Hp.ofQ H hb0; clear hb0)
    repeat' ((conv => whnf); first | (((with_reducible show Gd ..); first | (with_reducible first | refine Gd.t ?_ | refine Gd.f ?_ | (first | apply Gd.dec | apply Gd.beq | apply Gd.bne) <;> intro _ | refine Gd.not ?_) | refine Gd.t ?_ | refine Gd.f ?_ | apply Gd.var <;> intro _) <;> try (exfalso; omega)) | with_reducible refine Sq.mk ?_ | ((with_reducible show Ld1 ..); first | refine Ld1.h H ?_ | refine Ld1.rF ?_ | refine Ld1.r ?_) | ((with_reducible show Ld ..); first | refine Ld.h H ?_ | refine Ld.r ?_) | ((with_reducible show Ix ..); first | refine Ix.h ?_ | refine Ix.ha ?_) | (refine St.h H ?_; clear H; intro _ H))
    (have hwj : IntKind.i64.wrap ((j : Int) + 1) = ((j + 1 : Nat) : Int) := w64 rfl (by omega) (by omega); rw [hwj] at H; replace H := Hp.toQ (pr := pr) (s := ⟨u0 :: r0, none⟩) (k := j + 1) H (List.tail_drop.symm.trans (congrArg List.tail hj1)) (fun e p h => by cases h); clear hwj hj1 hj2 hjl)
    (((conv => whnf); refine Cl.mk (next_r X ⟨u0 :: r0, none⟩ _ (H.base2 HB) (H.atC 1 rfl) (List.cons_ne_nil _ _)) ?_); rintro _ _ ⟨rfl, hx⟩; replace H := H.ext hx; clear hx)
    have hue : Go.Tx.Ends (u0 :: r0) := hg.ends
    by_cases hnum : u0.kind = k_number ∧ u0.err = 0
    · obtain ⟨hn1, hn2⟩ := hnum
      obtain ⟨n1, n2, n3, n4⟩ := Y.num u0 (hmem u0 (by simp)) hn1 hn2
      have hst1 : stepP true (t0 :: u0 :: r0) = .ok () (u0 :: r0) := by
        simp only [stepP]
        rw [if_neg (fun h => h hn2), if_neg (by simp)]
      rw [hst1] at hR
      replace hR : R = if curK (t0 :: u0 :: r0) = s_minus ∧ u0.kind = k_number then (stepP false (u0 :: r0)).bind fun _ ts2 => .ok (.mk 0 0 u0.n [] [] []) ts2 else (F.unary (d + 1) (u0 :: r0)).bind fun e ts2 => .ok (.mk 2 0 0 [] [] [e]) ts2 := hR
      rw [if_pos ⟨hm, hn1⟩] at hR
      have hstu := step_at' hue hn2 (by rw [hn1]; decide)
      have hval := fun w => value_r u0.text w n1 n3 n4
      have htx : rText src u0 = u0.text := by unfold rText; rw [if_neg (by rw [hn2]; decide)]
      rw [← htx] at hval
      have hK : IntKind.i64.wrap (0 - IntKind.i64.wrap (val (rText src u0) : Int)) = u0.n := by
        rw [htx]
        by_cases hv : val u0.text = 9223372036854775808
        · rw [n2, hv]; decide
        · rw [w64 (m := (val u0.text : Int)) rfl (by omega) (by omega)]
          exact w64 (by omega) (by omega) (by omega)
      have hH : ∀ p8 w', Hp (· = pr) w w' [bk p8 99 (rwE src u0), bk p4 74 (ET.enc (.mk 0 0 u0.n [] [] none 0 [])), rq ws A cw pr ⟨r0, none⟩] → OkRE ws A cw pr id R w (ET.v (.mk 0 0 u0.n [] [] none 0 [])) w' := fun p8 w' H => by
        refine ⟨.mk 0 0 u0.n [] [] none 0 [], ⟨r0, none⟩, rfl, ?_, ?_, Hp.trsZ 0 0 u0.n [] [] H.d0.d0⟩
        · rw [hR]; exact hstu.map (fun _ => Ex.mk 0 0 u0.n [] [] [])
        · rw [hR]; exact Vl.map (g := fun _ => Ex.mk 0 0 u0.n [] [] []) (fun _ _ _ => rfl)
      by_cases hls : u0.n = -9223372036854775808
      · have hk1 : rKind u0 = k_least := by unfold rKind; rw [if_neg (fun h => h hn2), if_pos ⟨hn1, hls⟩]
        have hk2 : ¬ rKind u0 = k_number := by rw [hk1]; decide
        have hk3 : ¬ rKind (curT (u0 :: r0)) = k_number := hk2
        have hk4 : rKind (curT (u0 :: r0)) = k_least := hk1
        repeat' ((conv => whnf); first | ((with_reducible show Gd (bs _ == _) _ _); first | refine Gd.sY (by assumption) ?_ | refine Gd.sk (by assumption) ?_ | refine Gd.sN (by assumption) ?_) | ((conv => whnf); first | (((with_reducible show Gd ..); first | (with_reducible first | refine Gd.t ?_ | refine Gd.f ?_ | (first | apply Gd.dec | apply Gd.beq | apply Gd.bne) <;> intro _ | refine Gd.not ?_) | refine Gd.t ?_ | refine Gd.f ?_ | apply Gd.var <;> intro _) <;> try (exfalso; omega)) | with_reducible refine Sq.mk ?_ | ((with_reducible show Ld1 ..); first | refine Ld1.h H ?_ | refine Ld1.rF ?_ | refine Ld1.r ?_) | ((with_reducible show Ld ..); first | refine Ld.h H ?_ | refine Ld.r ?_) | ((with_reducible show Ix ..); first | refine Ix.h ?_ | refine Ix.ha ?_) | (refine St.h H ?_; clear H; intro _ H)) | refine Sm.strix T.ok ?_)
        (((conv => whnf); refine Cl.mk (next_r X ⟨u0 :: r0, none⟩ _ (H.base2 HB) (H.atC 1 rfl) (List.cons_ne_nil _ _)) ?_); rintro _ _ ⟨rfl, hx⟩; replace H := H.ext hx; clear hx)
        repeat' ((conv => whnf); first | ((with_reducible show Gd (bs _ == _) _ _); first | refine Gd.sY (by assumption) ?_ | refine Gd.sk (by assumption) ?_ | refine Gd.sN (by assumption) ?_) | ((conv => whnf); first | (((with_reducible show Gd ..); first | (with_reducible first | refine Gd.t ?_ | refine Gd.f ?_ | (first | apply Gd.dec | apply Gd.beq | apply Gd.bne) <;> intro _ | refine Gd.not ?_) | refine Gd.t ?_ | refine Gd.f ?_ | apply Gd.var <;> intro _) <;> try (exfalso; omega)) | with_reducible refine Sq.mk ?_ | ((with_reducible show Ld1 ..); first | refine Ld1.h H ?_ | refine Ld1.rF ?_ | refine Ld1.r ?_) | ((with_reducible show Ld ..); first | refine Ld.h H ?_ | refine Ld.r ?_) | ((with_reducible show Ix ..); first | refine Ix.h ?_ | refine Ix.ha ?_) | (refine St.h H ?_; clear H; intro _ H)) | refine Sm.strix T.ok ?_)
        (((conv => whnf); refine Cl.mk (next_r X ⟨u0 :: r0, none⟩ _ (H.base2 HB) (H.atC 1 rfl) (List.cons_ne_nil _ _)) ?_); rintro _ _ ⟨rfl, hx⟩; replace H := H.ext hx; clear hx)
        ((conv => whnf); refine Al.hp H ?_; clear H; intro p8 _ H _)
        repeat' ((conv => whnf); first | ((with_reducible show Gd (bs _ == _) _ _); first | refine Gd.sY (by assumption) ?_ | refine Gd.sk (by assumption) ?_ | refine Gd.sN (by assumption) ?_) | ((conv => whnf); first | (((with_reducible show Gd ..); first | (with_reducible first | refine Gd.t ?_ | refine Gd.f ?_ | (first | apply Gd.dec | apply Gd.beq | apply Gd.bne) <;> intro _ | refine Gd.not ?_) | refine Gd.t ?_ | refine Gd.f ?_ | apply Gd.var <;> intro _) <;> try (exfalso; omega)) | with_reducible refine Sq.mk ?_ | ((with_reducible show Ld1 ..); first | refine Ld1.h H ?_ | refine Ld1.rF ?_ | refine Ld1.r ?_) | ((with_reducible show Ld ..); first | refine Ld.h H ?_ | refine Ld.r ?_) | ((with_reducible show Ix ..); first | refine Ix.h ?_ | refine Ix.ha ?_) | (refine St.h H ?_; clear H; intro _ H)) | refine Sm.strix T.ok ?_)
        (obtain ⟨j, hj1, hj2, hb0⟩ := H.atC (c := rq ws A cw pr (⟨u0 :: r0, none⟩)) 2 rfl; have hjl := X.lt hj1 (by first | exact List.cons_ne_nil _ _ | assumption); replace H := Hp.ofQ H hb0; clear hb0)
        repeat' ((conv => whnf); first | ((with_reducible show Gd (bs _ == _) _ _); first | refine Gd.sY (by assumption) ?_ | refine Gd.sk (by assumption) ?_ | refine Gd.sN (by assumption) ?_) | ((conv => whnf); first | (((with_reducible show Gd ..); first | (with_reducible first | refine Gd.t ?_ | refine Gd.f ?_ | (first | apply Gd.dec | apply Gd.beq | apply Gd.bne) <;> intro _ | refine Gd.not ?_) | refine Gd.t ?_ | refine Gd.f ?_ | apply Gd.var <;> intro _) <;> try (exfalso; omega)) | with_reducible refine Sq.mk ?_ | ((with_reducible show Ld1 ..); first | refine Ld1.h H ?_ | refine Ld1.rF ?_ | refine Ld1.r ?_) | ((with_reducible show Ld ..); first | refine Ld.h H ?_ | refine Ld.r ?_) | ((with_reducible show Ix ..); first | refine Ix.h ?_ | refine Ix.ha ?_) | (refine St.h H ?_; clear H; intro _ H)) | refine Sm.strix T.ok ?_)
        (have hwj : IntKind.i64.wrap ((j : Int) + 1) = ((j + 1 : Nat) : Int) := w64 rfl (by omega) (by omega); rw [hwj] at H; replace H := Hp.toQ (pr := pr) (s := ⟨r0, none⟩) (k := j + 1) H (List.tail_drop.symm.trans (congrArg List.tail hj1)) (fun e p h => by cases h); clear hwj hj1 hj2 hjl)
        (((conv => whnf); refine Cl.mk (hval _) ?_); rintro _ _ ⟨rfl, hx⟩; replace H := H.ext hx; clear hx)
        repeat' ((conv => whnf); first | ((with_reducible show Gd (bs _ == _) _ _); first | refine Gd.sY (by assumption) ?_ | refine Gd.sk (by assumption) ?_ | refine Gd.sN (by assumption) ?_) | ((conv => whnf); first | (((with_reducible show Gd ..); first | (with_reducible first | refine Gd.t ?_ | refine Gd.f ?_ | (first | apply Gd.dec | apply Gd.beq | apply Gd.bne) <;> intro _ | refine Gd.not ?_) | refine Gd.t ?_ | refine Gd.f ?_ | apply Gd.var <;> intro _) <;> try (exfalso; omega)) | with_reducible refine Sq.mk ?_ | ((with_reducible show Ld1 ..); first | refine Ld1.h H ?_ | refine Ld1.rF ?_ | refine Ld1.r ?_) | ((with_reducible show Ld ..); first | refine Ld.h H ?_ | refine Ld.r ?_) | ((with_reducible show Ix ..); first | refine Ix.h ?_ | refine Ix.ha ?_) | (refine St.h H ?_; clear H; intro _ H)) | refine Sm.strix T.ok ?_)
        rw [hK] at H ⊢
        exact hH _ _ H
      · have hk1 : rKind u0 = k_number := by unfold rKind; rw [if_neg (fun h => h hn2), if_neg (fun h => hls h.2)]; exact hn1
        have hk4 : rKind (curT (u0 :: r0)) = k_number := hk1
        repeat' ((conv => whnf); first | ((with_reducible show Gd (bs _ == _) _ _); first | refine Gd.sY (by assumption) ?_ | refine Gd.sk (by assumption) ?_ | refine Gd.sN (by assumption) ?_) | ((conv => whnf); first | (((with_reducible show Gd ..); first | (with_reducible first | refine Gd.t ?_ | refine Gd.f ?_ | (first | apply Gd.dec | apply Gd.beq | apply Gd.bne) <;> intro _ | refine Gd.not ?_) | refine Gd.t ?_ | refine Gd.f ?_ | apply Gd.var <;> intro _) <;> try (exfalso; omega)) | with_reducible refine Sq.mk ?_ | ((with_reducible show Ld1 ..); first | refine Ld1.h H ?_ | refine Ld1.rF ?_ | refine Ld1.r ?_) | ((with_reducible show Ld ..); first | refine Ld.h H ?_ | refine Ld.r ?_) | ((with_reducible show Ix ..); first | refine Ix.h ?_ | refine Ix.ha ?_) | (refine St.h H ?_; clear H; intro _ H)) | refine Sm.strix T.ok ?_)
        ((((conv => whnf); refine Cl.mk (next_r X ⟨u0 :: r0, none⟩ _ (H.base2 HB) (H.atC 1 rfl) (List.cons_ne_nil _ _)) ?_); rintro _ _ ⟨rfl, hx⟩; replace H := H.ext hx; clear hx); ((conv => whnf); refine Al.hp H ?_; clear H; intro p8 _ H _); (repeat' ((conv => whnf); first | ((with_reducible show Gd (bs _ == _) _ _); first | refine Gd.sY (by assumption) ?_ | refine Gd.sk (by assumption) ?_ | refine Gd.sN (by assumption) ?_) | ((conv => whnf); first | (((with_reducible show Gd ..); first | (with_reducible first | refine Gd.t ?_ | refine Gd.f ?_ | (first | apply Gd.dec | apply Gd.beq | apply Gd.bne) <;> intro _ | refine Gd.not ?_) | refine Gd.t ?_ | refine Gd.f ?_ | apply Gd.var <;> intro _) <;> try (exfalso; omega)) | with_reducible refine Sq.mk ?_ | ((with_reducible show Ld1 ..); first | refine Ld1.h H ?_ | refine Ld1.rF ?_ | refine Ld1.r ?_) | ((with_reducible show Ld ..); first | refine Ld.h H ?_ | refine Ld.r ?_) | ((with_reducible show Ix ..); first | refine Ix.h ?_ | refine Ix.ha ?_) | (refine St.h H ?_; clear H; intro _ H)) | refine Sm.strix T.ok ?_)); (obtain ⟨j, hj1, hj2, hb0⟩ := H.atC (c := rq ws A cw pr (⟨u0 :: r0, none⟩)) 2 rfl; have hjl := X.lt hj1 (by first | exact List.cons_ne_nil _ _ | assumption); replace H := Hp.ofQ H hb0; clear hb0); (repeat' ((conv => whnf); first | ((with_reducible show Gd (bs _ == _) _ _); first | refine Gd.sY (by assumption) ?_ | refine Gd.sk (by assumption) ?_ | refine Gd.sN (by assumption) ?_) | ((conv => whnf); first | (((with_reducible show Gd ..); first | (with_reducible first | refine Gd.t ?_ | refine Gd.f ?_ | (first | apply Gd.dec | apply Gd.beq | apply Gd.bne) <;> intro _ | refine Gd.not ?_) | refine Gd.t ?_ | refine Gd.f ?_ | apply Gd.var <;> intro _) <;> try (exfalso; omega)) | with_reducible refine Sq.mk ?_ | ((with_reducible show Ld1 ..); first | refine Ld1.h H ?_ | refine Ld1.rF ?_ | refine Ld1.r ?_) | ((with_reducible show Ld ..); first | refine Ld.h H ?_ | refine Ld.r ?_) | ((with_reducible show Ix ..); first | refine Ix.h ?_ | refine Ix.ha ?_) | (refine St.h H ?_; clear H; intro _ H)) | refine Sm.strix T.ok ?_)); (have hwj : IntKind.i64.wrap ((j : Int) + 1) = ((j + 1 : Nat) : Int) := w64 rfl (by omega) (by omega); rw [hwj] at H; replace H := Hp.toQ (pr := pr) (s := ⟨r0, none⟩) (k := j + 1) H (List.tail_drop.symm.trans (congrArg List.tail hj1)) (fun e p h => by cases h); clear hwj hj1 hj2 hjl); (((conv => whnf); refine Cl.mk (hval _) ?_); rintro _ _ ⟨rfl, hx⟩; replace H := H.ext hx; clear hx); (repeat' ((conv => whnf); first | ((with_reducible show Gd (bs _ == _) _ _); first | refine Gd.sY (by assumption) ?_ | refine Gd.sk (by assumption) ?_ | refine Gd.sN (by assumption) ?_) | ((conv => whnf); first | (((with_reducible show Gd ..); first | (with_reducible first | refine Gd.t ?_ | refine Gd.f ?_ | (first | apply Gd.dec | apply Gd.beq | apply Gd.bne) <;> intro _ | refine Gd.not ?_) | refine Gd.t ?_ | refine Gd.f ?_ | apply Gd.var <;> intro _) <;> try (exfalso; omega)) | with_reducible refine Sq.mk ?_ | ((with_reducible show Ld1 ..); first | refine Ld1.h H ?_ | refine Ld1.rF ?_ | refine Ld1.r ?_) | ((with_reducible show Ld ..); first | refine Ld.h H ?_ | refine Ld.r ?_) | ((with_reducible show Ix ..); first | refine Ix.h ?_ | refine Ix.ha ?_) | (refine St.h H ?_; clear H; intro _ H)) | refine Sm.strix T.ok ?_)); rw [hK] at H ⊢; exact hH _ _ H)
    · have hst1 : stepP true (t0 :: u0 :: r0) = stepP false (t0 :: u0 :: r0) := by
        simp only [stepP]
        by_cases he : u0.err = 0
        · rw [if_neg (fun h => h he), if_neg (by simp), if_neg (fun h => h he), if_neg (fun h => hnum ⟨h.1, he⟩)]
        · rw [if_pos he, if_pos he]
      rw [hst1] at hR
      have hk2 : ¬ rKind (curT (u0 :: r0)) = k_number := fun h => by
        have h : rKind u0 = k_number := h
        unfold rKind at h
        split at h
        · revert h; decide
        · rename_i he
          split at h
          · revert h; decide
          · exact hnum ⟨h, Classical.not_not.1 he⟩
      have hk3 : ¬ rKind (curT (u0 :: r0)) = k_least := fun h => by
        have h : rKind u0 = k_least := h
        unfold rKind at h
        split at h
        · revert h; decide
        · rename_i he
          split at h
          · rename_i h2
            exact hnum ⟨h2.1, Classical.not_not.1 he⟩
          · exact (hpl u0 (by simp)).1 h
      replace hR : R = ((stepP false (t0 :: u0 :: r0)).and fun _ ts => F.unary (d + 1) ts).map (fun p => .mk 2 0 0 [] [] [p.2]) := by
        rw [hR, Res.map, Res.and_bind]
        cases hx : stepP false (t0 :: u0 :: r0) with
        | out => rfl
        | err e p => rfl
        | ok a ts1 =>
          have : ts1 = u0 :: r0 := by
            rw [step_chk] at hx
            simp only [chk] at hx
            split at hx
            · simp at hx
            · split at hx
              · simp at hx
              · simp only [Res.ok.injEq] at hx
                exact hx.2.symm
          subst this
          show (if _ ∧ curK (u0 :: r0) = k_number then _ else _) = _
          rw [if_neg]
          · rfl
          · rintro ⟨_, h⟩
            have h : u0.kind = k_number := h
            apply hnum
            refine ⟨h, Classical.byContradiction fun he => ?_⟩
            rw [step_chk] at hx
            simp only [chk] at hx
            rw [if_pos he] at hx
            simp at hx
      repeat' ((conv => whnf); first | ((with_reducible show Gd (bs _ == _) _ _); first | refine Gd.sY (by assumption) ?_ | refine Gd.sk (by assumption) ?_ | refine Gd.sN (by assumption) ?_) | ((conv => whnf); first | (((with_reducible show Gd ..); first | (with_reducible first | refine Gd.t ?_ | refine Gd.f ?_ | (first | apply Gd.dec | apply Gd.beq | apply Gd.bne) <;> intro _ | refine Gd.not ?_) | refine Gd.t ?_ | refine Gd.f ?_ | apply Gd.var <;> intro _) <;> try (exfalso; omega)) | with_reducible refine Sq.mk ?_ | ((with_reducible show Ld1 ..); first | refine Ld1.h H ?_ | refine Ld1.rF ?_ | refine Ld1.r ?_) | ((with_reducible show Ld ..); first | refine Ld.h H ?_ | refine Ld.r ?_) | ((with_reducible show Ix ..); first | refine Ix.h ?_ | refine Ix.ha ?_) | (refine St.h H ?_; clear H; intro _ H)) | refine Sm.strix T.ok ?_)
      (((conv => whnf); refine Cl.mk (next_r X ⟨u0 :: r0, none⟩ _ (H.base2 HB) (H.atC 1 rfl) (List.cons_ne_nil _ _)) ?_); rintro _ _ ⟨rfl, hx⟩; replace H := H.ext hx; clear hx)
      repeat' ((conv => whnf); first | ((with_reducible show Gd (bs _ == _) _ _); first | refine Gd.sY (by assumption) ?_ | refine Gd.sk (by assumption) ?_ | refine Gd.sN (by assumption) ?_) | ((conv => whnf); first | (((with_reducible show Gd ..); first | (with_reducible first | refine Gd.t ?_ | refine Gd.f ?_ | (first | apply Gd.dec | apply Gd.beq | apply Gd.bne) <;> intro _ | refine Gd.not ?_) | refine Gd.t ?_ | refine Gd.f ?_ | apply Gd.var <;> intro _) <;> try (exfalso; omega)) | with_reducible refine Sq.mk ?_ | ((with_reducible show Ld1 ..); first | refine Ld1.h H ?_ | refine Ld1.rF ?_ | refine Ld1.r ?_) | ((with_reducible show Ld ..); first | refine Ld.h H ?_ | refine Ld.r ?_) | ((with_reducible show Ix ..); first | refine Ix.h ?_ | refine Ix.ha ?_) | (refine St.h H ?_; clear H; intro _ H)) | refine Sm.strix T.ok ?_)
      (((conv => whnf); refine Cl.mk (hun ⟨u0 :: r0, none⟩ _ (H.base2 HB) (H.atC 1 rfl) hst (Res.map_out (by rw [← hR]; exact hne))) ?_); rintro _ w4 ⟨⟨kd, o, n, nm, cb, B, c, l⟩, s', rfl, ha', hv', H'⟩; replace H := H.updn (c := rq ws A cw pr ⟨u0 :: r0, none⟩) (Hp.swap H') rfl (.inl rfl) (.inl rfl); clear H'; ((conv => whnf); refine Al.hp H ?_; clear H; intro p9 _ H _); (repeat' ((conv => whnf); first | (((with_reducible show Gd ..); first | (with_reducible first | refine Gd.t ?_ | refine Gd.f ?_ | (first | apply Gd.dec | apply Gd.beq | apply Gd.bne) <;> intro _ | refine Gd.not ?_) | refine Gd.t ?_ | refine Gd.f ?_ | apply Gd.var <;> intro _) <;> try (exfalso; omega)) | with_reducible refine Sq.mk ?_ | ((with_reducible show Ld1 ..); first | refine Ld1.h H ?_ | refine Ld1.rF ?_ | refine Ld1.r ?_) | ((with_reducible show Ld ..); first | refine Ld.h H ?_ | refine Ld.r ?_) | ((with_reducible show Ix ..); first | refine Ix.h ?_ | refine Ix.ha ?_) | (refine St.h H ?_; clear H; intro _ H))); refine Sm.lith (cs := ET.enc (.mk kd o n nm cb B c l)) H T.ok (fun p10 w5 H _ => ?_); (repeat' ((conv => whnf); first | (((with_reducible show Gd ..); first | (with_reducible first | refine Gd.t ?_ | refine Gd.f ?_ | (first | apply Gd.dec | apply Gd.beq | apply Gd.bne) <;> intro _ | refine Gd.not ?_) | refine Gd.t ?_ | refine Gd.f ?_ | apply Gd.var <;> intro _) <;> try (exfalso; omega)) | with_reducible refine Sq.mk ?_ | ((with_reducible show Ld1 ..); first | refine Ld1.h H ?_ | refine Ld1.rF ?_ | refine Ld1.r ?_) | ((with_reducible show Ld ..); first | refine Ld.h H ?_ | refine Ld.r ?_) | ((with_reducible show Ix ..); first | refine Ix.h ?_ | refine Ix.ha ?_) | (refine St.h H ?_; clear H; intro _ H))); refine ⟨.mk 2 0 0 [] [] (some ⟨p10, 0, none⟩) 1 [.mk kd o n nm cb B c l], s', rfl, by rw [hR]; exact ha'.map _, by rw [hR]; exact Vl.map (hv'.mono fun p hp => by simp only [ET.e, ET.es, id]; rw [← hp]; rfl), hfin _ p10 2 (.mk kd o n nm cb B c l) s' (H.sel [0, 1, 2] rfl)⟩)
  · have hb : curK (t0 :: u0 :: r0) = s_bang := Classical.byContradiction fun hb => hs ⟨hm, hb⟩
    rw [beq_eq_false_iff_ne.2 hm] at hR
    rw [if_pos hb] at hR
    rw [beq_eq_false_iff_ne.2 hm, beq_iff_eq.2 hb]
    replace hR : R = ((stepP false (t0 :: u0 :: r0)).and fun _ ts => F.unary (d + 1) ts).map (fun p => .mk 3 0 0 [] [] [p.2]) := by
      rw [hR, Res.map, Res.and_bind]
      cases hx : stepP false (t0 :: u0 :: r0) with
      | out => rfl
      | err e p => rfl
      | ok a ts1 =>
        show (if _ ∧ _ then _ else _) = _
        rw [if_neg (fun h => hm h.1)]
        rfl
    repeat' ((conv => whnf); first | (((with_reducible show Gd ..); first | (with_reducible first | refine Gd.t ?_ | refine Gd.f ?_ | (first | apply Gd.dec | apply Gd.beq | apply Gd.bne) <;> intro _ | refine Gd.not ?_) | refine Gd.t ?_ | refine Gd.f ?_ | apply Gd.var <;> intro _) <;> try (exfalso; omega)) | with_reducible refine Sq.mk ?_ | ((with_reducible show Ld1 ..); first | refine Ld1.h H ?_ | refine Ld1.rF ?_ | refine Ld1.r ?_) | ((with_reducible show Ld ..); first | refine Ld.h H ?_ | refine Ld.r ?_) | ((with_reducible show Ix ..); first | refine Ix.h ?_ | refine Ix.ha ?_) | (refine St.h H ?_; clear H; intro _ H))
    ((conv => whnf); refine Cl.mk (deeper_r X d ⟨t0 :: u0 :: r0, none⟩ _ (by omega) (H.base2 HB) (H.atC 1 rfl) hts) ?_)
    rintro _ w3 ⟨rfl, H'⟩
    rw [if_pos h40] at H'
    rw [decide_eq_true h40]
    replace H := H.upd (c := rq ws A cw pr ⟨t0 :: u0 :: r0, none⟩) H' rfl (.inl rfl)
    clear H'
    repeat' ((conv => whnf); first | (((with_reducible show Gd ..); first | (with_reducible first | refine Gd.t ?_ | refine Gd.f ?_ | (first | apply Gd.dec | apply Gd.beq | apply Gd.bne) <;> intro _ | refine Gd.not ?_) | refine Gd.t ?_ | refine Gd.f ?_ | apply Gd.var <;> intro _) <;> try (exfalso; omega)) | with_reducible refine Sq.mk ?_ | ((with_reducible show Ld1 ..); first | refine Ld1.h H ?_ | refine Ld1.rF ?_ | refine Ld1.r ?_) | ((with_reducible show Ld ..); first | refine Ld.h H ?_ | refine Ld.r ?_) | ((with_reducible show Ix ..); first | refine Ix.h ?_ | refine Ix.ha ?_) | (refine St.h H ?_; clear H; intro _ H))
    (obtain ⟨j, hj1, hj2, hb0⟩ := H.atC (c := rq ws A cw pr (⟨t0 :: u0 :: r0, none⟩)) 1 rfl; have hjl := X.lt hj1 (by first | exact List.cons_ne_nil _ _ | assumption); replace H := Hp.ofQ H hb0; clear hb0)
    repeat' ((conv => whnf); first | (((with_reducible show Gd ..); first | (with_reducible first | refine Gd.t ?_ | refine Gd.f ?_ | (first | apply Gd.dec | apply Gd.beq | apply Gd.bne) <;> intro _ | refine Gd.not ?_) | refine Gd.t ?_ | refine Gd.f ?_ | apply Gd.var <;> intro _) <;> try (exfalso; omega)) | with_reducible refine Sq.mk ?_ | ((with_reducible show Ld1 ..); first | refine Ld1.h H ?_ | refine Ld1.rF ?_ | refine Ld1.r ?_) | ((with_reducible show Ld ..); first | refine Ld.h H ?_ | refine Ld.r ?_) | ((with_reducible show Ix ..); first | refine Ix.h ?_ | refine Ix.ha ?_) | (refine St.h H ?_; clear H; intro _ H))
    (have hwj : IntKind.i64.wrap ((j : Int) + 1) = ((j + 1 : Nat) : Int) := w64 rfl (by omega) (by omega); rw [hwj] at H; replace H := Hp.toQ (pr := pr) (s := ⟨u0 :: r0, none⟩) (k := j + 1) H (List.tail_drop.symm.trans (congrArg List.tail hj1)) (fun e p h => by cases h); clear hwj hj1 hj2 hjl)
    (((conv => whnf); refine Cl.mk (hun ⟨u0 :: r0, none⟩ _ (H.base2 HB) (H.atC 1 rfl) hst (Res.map_out (by rw [← hR]; exact hne))) ?_); rintro _ w4 ⟨⟨kd, o, n, nm, cb, B, c, l⟩, s', rfl, ha', hv', H'⟩; replace H := H.updn (c := rq ws A cw pr ⟨u0 :: r0, none⟩) (Hp.swap H') rfl (.inl rfl) (.inl rfl); clear H'; ((conv => whnf); refine Al.hp H ?_; clear H; intro p9 _ H _); (repeat' ((conv => whnf); first | (((with_reducible show Gd ..); first | (with_reducible first | refine Gd.t ?_ | refine Gd.f ?_ | (first | apply Gd.dec | apply Gd.beq | apply Gd.bne) <;> intro _ | refine Gd.not ?_) | refine Gd.t ?_ | refine Gd.f ?_ | apply Gd.var <;> intro _) <;> try (exfalso; omega)) | with_reducible refine Sq.mk ?_ | ((with_reducible show Ld1 ..); first | refine Ld1.h H ?_ | refine Ld1.rF ?_ | refine Ld1.r ?_) | ((with_reducible show Ld ..); first | refine Ld.h H ?_ | refine Ld.r ?_) | ((with_reducible show Ix ..); first | refine Ix.h ?_ | refine Ix.ha ?_) | (refine St.h H ?_; clear H; intro _ H))); refine Sm.lith (cs := ET.enc (.mk kd o n nm cb B c l)) H T.ok (fun p10 w5 H _ => ?_); (repeat' ((conv => whnf); first | (((with_reducible show Gd ..); first | (with_reducible first | refine Gd.t ?_ | refine Gd.f ?_ | (first | apply Gd.dec | apply Gd.beq | apply Gd.bne) <;> intro _ | refine Gd.not ?_) | refine Gd.t ?_ | refine Gd.f ?_ | apply Gd.var <;> intro _) <;> try (exfalso; omega)) | with_reducible refine Sq.mk ?_ | ((with_reducible show Ld1 ..); first | refine Ld1.h H ?_ | refine Ld1.rF ?_ | refine Ld1.r ?_) | ((with_reducible show Ld ..); first | refine Ld.h H ?_ | refine Ld.r ?_) | ((with_reducible show Ix ..); first | refine Ix.h ?_ | refine Ix.ha ?_) | (refine St.h H ?_; clear H; intro _ H))); refine ⟨.mk 3 0 0 [] [] (some ⟨p10, 0, none⟩) 1 [.mk kd o n nm cb B c l], s', rfl, by rw [hR]; exact ha'.map _, by rw [hR]; exact Vl.map (hv'.mono fun p hp => by simp only [ET.e, ET.es, id]; rw [← hp]; rfl), hfin _ p10 3 (.mk kd o n nm cb B c l) s' (H.sel [0, 1, 2] rfl)⟩)
end
end Go.Proofs.YtfnjodpehomgfaaGreatDoor
namespace Go.Sh
open Go.RowKit
section
variable {P : Program} {T : Tab} {n : Nat} {ops : Array Oper}
def keepE (ops : Array Oper) : Env → Env
  | [] => []
  | (t, v) :: r => match (ops.toList.any fun o => match o.dst with | some d => Nat.beq d t | none => false) with
    | true => keepE ops r
    | false => (t, v) :: keepE ops r
theorem look_keepE {ops : Array Oper} : ∀ {E : Env} {t : Nat} {u : Value}, look (keepE ops E) t = some u → look E t = some u ∧ ∀ o ∈ ops.toList, o.dst ≠ some t
  | [], t, u, h => by simp [keepE, look] at h
  | (d, v) :: r, t, u, h => by
    unfold keepE at h
    split at h
    · rename_i hany
      obtain ⟨h1, h2⟩ := look_keepE h
      refine ⟨?_, h2⟩
      unfold look
      split
      · rename_i hb
        have hd := Nat.eq_of_beq_eq_true hb
        subst hd
        obtain ⟨o, ho, hb2⟩ := List.any_eq_true.1 hany
        split at hb2
        · rename_i d2 hd2
          have := Nat.eq_of_beq_eq_true hb2
          subst this
          exact absurd hd2 (h2 o ho)
        · simp at hb2
      · exact h1
    · rename_i hany
      unfold look at h ⊢
      split at h
      · rename_i hb
        refine ⟨h, fun o ho hd => ?_⟩
        have hdt := Nat.eq_of_beq_eq_true hb
        subst hdt
        have : (ops.toList.any fun o => match o.dst with | some d2 => Nat.beq d2 d | none => false) = true := List.any_eq_true.2 ⟨o, ho, by rw [hd]; simp⟩
        rw [this] at hany
        simp at hany
      · rename_i hb
        obtain ⟨h1, h2⟩ := look_keepE h
        exact ⟨h1, h2⟩
theorem keepE_dst {ops : Array Oper} {t : Nat} (h : ∀ o ∈ ops.toList, o.dst ≠ some t) (i : Nat) : dstOf ops i ≠ some t := by
  unfold dstOf
  intro e
  cases ho : ops[i]? with
  | none => rw [ho] at e; simp at e
  | some o =>
    rw [ho] at e
    exact h o (Array.mem_toList_iff.2 (Array.mem_of_getElem? ho)) (by simpa using e)
def stepChX (P : Program) (T : Tab) (n : Nat) (W : World → Prop) (Xc : List PanicEntry → World → Prop) (o : Oper) (_r : List Oper) (ih : Fr → World → (Fr → World → Prop) → Prop) (F : Fr) (w : World) (k : Fr → World → Prop) : Prop :=
  W w ∧ match dstOk n o.dst with
    | false => False
    | true => match o.guard with
      | some _ => False
      | none => exOp P T (evR o F) o w (fun v w' => ih (F.put o.dst v) w' k) Xc
def chOpsX (P : Program) (T : Tab) (n : Nat) (W : World → Prop) (Xc : List PanicEntry → World → Prop) (l : List Oper) : Fr → World → (Fr → World → Prop) → Prop :=
  List.rec (motive := fun _ => Fr → World → (Fr → World → Prop) → Prop) (fun F w k => k F w) (stepChX P T n W Xc) l
theorem Dr.chXk (hT : TabOk P T) (hm : P.follows .mixedOrders = true) (qis cs : List Nat) {id : Nat} {F : Fr} {w : World} {K : Exit → Fr → World → Prop} {ql cl : List Oper}
    (hB : chB ops qis cs = true) (hql : pickO ops qis = some ql) (hcl : pickO ops cs = some cl) (W : World → Prop) (Xc : List PanicEntry → World → Prop)
    (hX : ∀ ch w', Xc ch w' → K (.panic ch) ⟨keepE ops F.env, F.ds⟩ w')
    (h : ∀ w1, Ext w w1 → w1.heap.size = w.heap.size → quOps P T n W (fun a b => b = a) ops.toList ql F (fun F' => chOpsX P T n W Xc cl F' w1 (fun F w => K .normal F w))) : Dr P n id ops F w K := by
  obtain ⟨hac0, hcov, hqc, hclt, hqs, hcs, hcan, hlc, hlast0, huq0, hrq, hrc⟩ := chB_spec hB
  have hac : ∀ i, i < ops.size → ∀ j ∈ afterOf ops i, j < i := fun i hi => hac0 i (List.mem_range.2 hi)
  have hlast : ∀ j, j < ops.size - 1 → j ∈ ancF ops ops.size (ops.size - 1) := fun j hj => hlast0 j (List.mem_range.2 hj)
  have huq : ∀ i, i < ops.size → ∀ j, j < ops.size → i ≠ j → ∀ t, dstOf ops i = some t → dstOf ops j ≠ some t := fun i hi j hj hne t ht => by
    have := huq0 i (List.mem_range.2 hi) j (List.mem_range.2 hj) hne (by rw [ht]; simp)
    rwa [ht] at this
  have e1 : Ext w { w with drawn := w.drawn + 1 } := ⟨rfl, rfl, rfl, Nat.le_refl _, fun _ _ => rfl⟩
  obtain ⟨vals, F', hY, hlook, hds, hfin⟩ := quOps_trace hT ql F _ (h { w with drawn := w.drawn + 1 } e1 rfl)
  have hN : ops.size - 1 < ops.size := hclt _ hlc
  have hqget : ∀ m : Nat, (ql[m]?).bind (·.dst) = (qis[m]?).bind (dstOf ops) := fun m => by
    rw [pickO_get hql m]
    cases qis[m]? <;> rfl
  have hqpos : ∀ i, i ∈ qis → ∃ m, qis[m]? = some i := fun i hi => List.getElem?_of_mem hi
  have hqlt : ∀ (m m' i i' : Nat), qis[m]? = some i → qis[m']? = some i' → m < m' → i < i' := fun m m' i i' h1 h2 hlt => by
    obtain ⟨a1, a2⟩ := List.getElem?_eq_some_iff.1 h1
    obtain ⟨b1, b2⟩ := List.getElem?_eq_some_iff.1 h2
    have := List.pairwise_iff_getElem.1 hqs m m' a1 b1 hlt
    omega
  have hqinj : ∀ (m m' i : Nat), qis[m]? = some i → qis[m']? = some i → m = m' := fun m m' i h1 h2 => by
    rcases Nat.lt_trichotomy m m' with e | e | e
    · have := hqlt m m' i i h1 h2 e; omega
    · exact e
    · have := hqlt m' m i i h2 h1 e; omega
  refine ⟨fun a0 ha0 => ?_⟩
  refine wp_region_any hm ?_
  have main : ∀ (fuel : Nat) (listed : Array Bool) (a : Act) (w' : World) (j : Nat) (Fj : Fr), listed.size = ops.size → Closed ops listed → cnt listed ops.size ≤ fuel → ¬ Lst listed (ops.size - 1) →
      a.tmps.size = n → a.defers = F.ds → Fj.ds = F.ds → chOpsX P T n W Xc (cl.drop j) Fj w' (fun F w => K .normal F w) →
      (∀ m i, cs[m]? = some i → (Lst listed i ↔ m < j)) →
      (∀ m i, qis[m]? = some i → Lst listed i → ∀ d, dstOf ops i = some d → a.tmps[d]? = some (vals m)) →
      (∀ t u, look F.env t = some u → (∀ i, i < ops.size → Lst listed i → dstOf ops i ≠ some t) → a.tmps[t]? = some u) →
      (∀ t u, look Fj.env t = some u → (∃ i, i ∈ qis ∧ ¬ Lst listed i ∧ dstOf ops i = some t) ∨ a.tmps[t]? = some u) →
      (∀ t, (∀ i, i ∈ cs → dstOf ops i ≠ some t) → look Fj.env t = look F'.env t) →
      wpAny P .any ops (Lift n K) fuel listed a w' := by
    intro fuel
    induction fuel with
    | zero => intro listed a w' j Fj _ _ hc hnl; exact absurd (cnt_pos listed _ hnl ops.size hN) (by omega)
    | succ fuel ih =>
      intro listed a w' j Fj hs hcl' hc hnl hsz hdf hdj hch hcj hA hB' hG hFj
      refine ⟨fun hr => ?_, fun i hi => ?_⟩
      · exfalso
        have : ∃ i, i < ops.size ∧ ¬ Lst listed i ∧ ∀ j, j < i → Lst listed j := by
          have : ∀ m, m ≤ ops.size - 1 → (∀ j, j < m → Lst listed j) ∨ ∃ i, i < ops.size ∧ ¬ Lst listed i ∧ ∀ j, j < i → Lst listed j := by
            intro m
            induction m with
            | zero => intro _; exact .inl fun j hj => by omega
            | succ m ihm =>
              intro hm
              rcases ihm (by omega) with h1 | h1
              · by_cases hl : Lst listed m
                · exact .inl fun j hj => (Nat.lt_or_ge j m).elim (h1 j) fun h2 => (show j = m by omega) ▸ hl
                · exact .inr ⟨m, by omega, hl, h1⟩
              · exact .inr h1
          rcases this (ops.size - 1) (Nat.le_refl _) with h1 | h1
          · exact ⟨ops.size - 1, hN, hnl, h1⟩
          · exact h1
        obtain ⟨i, h1, h2, h3⟩ := this
        have := (mem_ready hs hac).2 ⟨h1, h2, fun j hj => h3 j (hac i h1 j hj)⟩
        rw [hr] at this
        exact absurd this (by simp)
      · obtain ⟨hi1, hi2, hi3⟩ := (mem_ready hs hac).1 hi
        have hs' : (listed.setIfInBounds i true).size = ops.size := by simpa using hs
        have hLs : ∀ j, Lst (listed.setIfInBounds i true) j ↔ j = i ∨ Lst listed j := fun j => by
          unfold Lst; rw [getD_set _ _ _ (by omega)]; by_cases e : j = i <;> simp [e]
        have hcl'' : Closed ops (listed.setIfInBounds i true) := fun m hm hl j hj => by
          rw [hLs] at hl ⊢
          rcases hl with rfl | hl
          · exact .inr (hi3 j hj)
          · exact .inr (hcl' m hm hl j hj)
        have hc' : cnt (listed.setIfInBounds i true) ops.size ≤ fuel := by
          have := cnt_set listed i (by omega) hi2 ops.size
          rw [if_pos hi1] at this; omega
        have hanc : ∀ j, j ∈ ancF ops ops.size i → Lst listed j := fun j hj => by
          have := closed_anc hcl'' hac ops.size i j hi1 ((hLs i).2 (.inl rfl)) hj
          rcases (hLs j).1 this with rfl | h1
          · exfalso
            have lt : ∀ (f m j : Nat), m < ops.size → j ∈ ancF ops f m → j < m := by
              intro f
              induction f with
              | zero => intro m j _ h; simp [ancF] at h
              | succ f ihf =>
                intro m j hm h
                simp only [ancF, List.mem_flatMap, List.mem_cons] at h
                obtain ⟨q, hq, h⟩ := h
                have hqm := hac m hm q hq
                rcases h with rfl | h
                · exact hqm
                · have := ihf q j (by omega) h; omega
            have := lt _ _ _ hi1 hj; omega
          · exact h1
        obtain ⟨o, ho⟩ : ∃ o, ops[i]? = some o := ⟨ops[i], Array.getElem?_eq_getElem hi1⟩
        have hdi : dstOf ops i = o.dst := by simp [dstOf, ho]
        have hrdi : rdOf ops i = tmpsOf o ++ gdOf ops o := by unfold rdOf; simp only [ho]
        have hjlt : j < cs.length := by
          obtain ⟨m, hm⟩ := List.getElem?_of_mem hlc
          have h1 := (List.getElem?_eq_some_iff.1 hm).1
          have h2 := hcj m _ hm
          exact Nat.lt_of_not_le fun h3 => hnl (h2.2 (by omega))
        obtain ⟨ci, hci⟩ : ∃ c, cs[j]? = some c := ⟨cs[j], List.getElem?_eq_getElem hjlt⟩
        obtain ⟨oc, hoc⟩ : ∃ o, ops[ci]? = some o := ⟨_, Array.getElem?_eq_getElem (hclt ci (List.mem_of_getElem? hci))⟩
        have hclj : cl[j]? = some oc := by rw [pickO_get hcl j, hci]; exact hoc
        have hdrop : cl.drop j = oc :: cl.drop (j + 1) := by
          obtain ⟨h1, h2⟩ := List.getElem?_eq_some_iff.1 hclj
          rw [List.drop_eq_getElem_cons h1, h2]
        rw [hdrop] at hch
        have hch' : stepChX P T n W Xc oc (cl.drop (j + 1)) (chOpsX P T n W Xc (cl.drop (j + 1))) Fj w' (fun F w => K .normal F w) := hch
        obtain ⟨hWw, hrest⟩ := hch'
        unfold wpOp
        simp only [ho]
        by_cases hic : i ∈ cs
        · -- the chain's next
          have hii : i = ci := by
            obtain ⟨m, hm⟩ := List.getElem?_of_mem hic
            have hmj : ¬ m < j := fun e => hi2 ((hcj m i hm).2 e)
            rcases Nat.lt_or_ge j m with e | e
            · exfalso
              have h1 := (List.getElem?_eq_some_iff.1 hm)
              have h2 := (List.getElem?_eq_some_iff.1 hci)
              obtain ⟨h1a, h1b⟩ := h1
              obtain ⟨h2a, h2b⟩ := h2
              have hlt := List.pairwise_iff_getElem.1 hcs j m h2a h1a e
              rw [h1b, h2b] at hlt
              have := hanc ci (hcan ci (List.mem_of_getElem? hci) i hic hlt)
              have := (hcj j ci hci).1 this
              omega
            · have : m = j := by omega
              subst this
              rw [hci] at hm; simpa using hm.symm
          subst hii
          rw [ho] at hoc
          obtain rfl : o = oc := by simpa using hoc
          split at hrest
          · exact hrest.elim
          rename_i hdo
          split at hrest
          · exact hrest.elim
          rename_i hgn
          rw [if_pos (wanted_none hgn)]
          refine .inl ?_
          have hev : ∀ x u, evR o Fj x = some u → a.eval x = u := ev_of_phi (Φ := look Fj.env) (fun t => rfl) fun t ht u hu => by
            rcases hG t u hu with ⟨q, hq1, hq2, hq3⟩ | hu'
            · exfalso
              have hqi : q ≠ i := fun e => (hqc q hq1).1 (e ▸ hic)
              exact hq2 (hanc q (hrc i hic q (List.mem_range.2 (hqc q hq1).2) hqi t (by rw [hrdi]; exact List.mem_append_left _ ht) hq3))
            · exact hu'
          refine exOp_sound hT hev hrest (fun v w2 hnx => ?_) (fun ch w2 q => ⟨⟨keepE ops F.env, F.ds⟩, ⟨hsz, hdf, fun t v h => hB' t v (look_keepE h).1 fun i hi _ => keepE_dst (look_keepE h).2 i⟩, hX _ _ q⟩)
          have hG2 : ∀ t u, look (Fj.put o.dst v).env t = some u → (∃ q, q ∈ qis ∧ ¬ Lst (listed.setIfInBounds i true) q ∧ dstOf ops q = some t) ∨ (a.put o.dst v).tmps[t]? = some u := fun t u ht => by
            by_cases hd : o.dst = some t
            · rw [hd] at ht hdo ⊢
              rw [look_put_eq] at ht
              simp at ht; subst ht
              exact .inr (act_put_eq (by rw [hsz]; exact hdo))
            · rw [act_put_ne hd]
              have ht' : look Fj.env t = some u := by rw [look_put_ne hd] at ht; exact ht
              rcases hG t u ht' with ⟨q, hq1, hq2, hq3⟩ | hu
              · refine .inl ⟨q, hq1, fun e => ?_, hq3⟩
                rcases (hLs q).1 e with e | e
                · exact (hqc q hq1).1 (e ▸ hic)
                · exact hq2 e
              · exact .inr hu
          have hds2 : (Fj.put o.dst v).ds = F.ds := by cases o.dst <;> exact hdj
          by_cases hl' : i = ops.size - 1
          · -- the last
            have hall : ∀ q, q < ops.size → Lst (listed.setIfInBounds i true) q := fun q hq => by
              rw [hLs]
              by_cases e : q = i
              · exact .inl e
              · exact .inr (hanc q (by rw [hl']; exact hlast q (by omega)))
            have hready : Region.ready .any ops (listed.setIfInBounds i true) = [] := by
              rw [List.eq_nil_iff_forall_not_mem]
              intro q hq
              obtain ⟨h1, h2, _⟩ := (mem_ready hs' hac).1 hq
              exact h2 (hall q h1)
            have hagr : Agr n (Fj.put o.dst v) (a.put o.dst v) := ⟨by rw [act_put_size, hsz], by rw [act_put_defers, hds2, hdf], fun t u ht => by
              rcases hG2 t u ht with ⟨q, hq1, hq2, hq3⟩ | hu
              · exact absurd (hall q (hqc q hq1).2) hq2
              · exact hu⟩
            have hend : cl.drop (j + 1) = [] := by
              refine List.drop_eq_nil_of_le ?_
              rw [pickO_len hcl]
              refine Nat.le_of_not_lt fun hlt => ?_
              obtain ⟨c2, hc2⟩ : ∃ c, cs[j + 1]? = some c := ⟨cs[j + 1], List.getElem?_eq_getElem hlt⟩
              obtain ⟨h1a, h1b⟩ := List.getElem?_eq_some_iff.1 hc2
              obtain ⟨h2a, h2b⟩ := List.getElem?_eq_some_iff.1 hci
              have h3 := List.pairwise_iff_getElem.1 hcs j (j + 1) h2a h1a (by omega)
              rw [h1b, h2b] at h3
              have := hclt c2 (List.mem_of_getElem? hc2)
              omega
            rw [hend] at hnx
            have q : Lift n K .normal (a.put o.dst v) w2 := ⟨_, hagr, hnx⟩
            cases fuel with
            | zero => exact ⟨hready, q⟩
            | succ f => exact ⟨fun _ => q, fun j hj => by rw [hready] at hj; exact absurd hj (by simp)⟩
          · refine ih _ _ _ (j + 1) (Fj.put o.dst v) hs' hcl'' hc' (fun e => ?_) (by rw [act_put_size, hsz]) (by rw [act_put_defers, hdf]) hds2 hnx (fun m q hq => ?_) (fun m q hq hl d hd => ?_) (fun t u ht hno => ?_) hG2 (fun t ht => ?_)
            · rcases (hLs _).1 e with e | e
              · exact hl' e.symm
              · exact hnl e
            · rw [hLs, hcj m q hq]
              constructor
              · rintro (e | e)
                · subst e
                  have hmj : m = j := by
                    rcases Nat.lt_trichotomy m j with e | e | e
                    · exact absurd ((hcj m _ hq).2 e) hi2
                    · exact e
                    · obtain ⟨h1a, h1b⟩ := List.getElem?_eq_some_iff.1 hq
                      obtain ⟨h2a, h2b⟩ := List.getElem?_eq_some_iff.1 hci
                      have h3 := List.pairwise_iff_getElem.1 hcs j m h2a h1a e
                      omega
                  omega
                · omega
              · intro e
                by_cases hmj : m = j
                · subst hmj; rw [hci] at hq; simp at hq; exact .inl hq.symm
                · exact .inr (by omega)
            · have hqm := List.mem_of_getElem? hq
              have hqi : q ≠ i := fun e => (hqc q hqm).1 (e ▸ hic)
              rw [act_put_ne (fun e => huq q (hqc q hqm).2 i hi1 hqi d hd (by rw [hdi, e]))]
              exact hA m q hq (((hLs q).1 hl).resolve_left hqi) d hd
            · rw [act_put_ne (fun e => hno i hi1 ((hLs i).2 (.inl rfl)) (by rw [hdi, e]))]
              exact hB' t u ht fun q hq hl => hno q hq ((hLs q).2 (.inr hl))
            · rw [← hFj t ht, look_put_ne (fun e => ht i hic (by rw [hdi, e]))]
        · -- a quiet one
          have hiq : i ∈ qis := (hcov i (List.mem_range.2 hi1)).resolve_right hic
          obtain ⟨m, hmi⟩ := hqpos i hiq
          obtain ⟨hdo, hy⟩ := hY m o (by rw [pickO_get hql m, hmi]; exact ho)
          have hreads : ∀ t ∈ tmpsOf o ++ gdOf ops o, ∀ u, PhiF F ql vals m t = some u → a.tmps[t]? = some u := by
            intro t ht u hu
            rw [← hrdi] at ht
            rcases PhiF_cases m hu with ⟨k, hk, hkd, rfl⟩ | ⟨hno, hu'⟩
            · rw [hqget] at hkd
              cases hqk : qis[k]? with
              | none => rw [hqk] at hkd; simp at hkd
              | some q =>
                rw [hqk] at hkd
                have hqlt' := hqlt k m q i hqk hmi hk
                have hqm := List.mem_of_getElem? hqk
                rcases (hrq i hiq q (List.mem_range.2 (hqc q hqm).2) (by omega) t ht hkd).2 with ⟨_, h2⟩ | ⟨h2, _⟩
                · exact hA k q hqk (hanc q h2) t hkd
                · omega
            · refine hB' t u hu' fun q hq hl hd => ?_
              by_cases hqi : q = i
              · subst hqi; exact hi2 hl
              obtain ⟨h1, h2⟩ := hrq i hiq q (List.mem_range.2 hq) hqi t ht hd
              obtain ⟨k, hk⟩ := hqpos q h1
              rcases h2 with ⟨h2, h3⟩ | ⟨h2, h3⟩
              · have hkm : k < m := by
                  rcases Nat.lt_trichotomy k m with e | e | e
                  · exact e
                  · subst e; rw [hmi] at hk; simp at hk; omega
                  · have := hqlt m k i q hmi hk e; omega
                exact hno k hkm (by rw [hqget, hk]; exact hd)
              · exact hi2 (closed_anc hcl' hac ops.size q i hq hl h3)
          have hnext : wpAny P .any ops (Lift n K) fuel (listed.setIfInBounds i true) (a.put o.dst (vals m)) w' := by
            refine ih _ _ _ j Fj hs' hcl'' hc' (fun e => ?_) (by rw [act_put_size, hsz]) (by rw [act_put_defers, hdf]) hdj (by rw [hdrop]; exact hch) (fun k q hq => ?_) (fun k q hq hl d hd => ?_) (fun t u ht hno => ?_) (fun t u ht => ?_) hFj
            · rcases (hLs _).1 e with e | e
              · exact hic (e ▸ hlc)
              · exact hnl e
            · rw [hLs, ← hcj k q hq]
              exact ⟨fun e => e.resolve_left (fun e => hic (e ▸ List.mem_of_getElem? hq)), .inr⟩
            · by_cases e : q = i
              · subst e
                have := hqinj k m q hq hmi
                subst this
                rw [hdi] at hd
                rw [hd] at hdo ⊢
                exact act_put_eq (by rw [hsz]; exact hdo)
              · have hqm := List.mem_of_getElem? hq
                rw [act_put_ne (fun e' => huq q (hqc q hqm).2 i hi1 e d hd (by rw [hdi, e']))]
                exact hA k q hq (((hLs q).1 hl).resolve_left e) d hd
            · rw [act_put_ne (fun e => hno i hi1 ((hLs i).2 (.inl rfl)) (by rw [hdi, e]))]
              exact hB' t u ht fun q hq hl => hno q hq ((hLs q).2 (.inr hl))
            · by_cases hd : o.dst = some t
              · refine .inr ?_
                have hF' : look F'.env t = some u := by
                  rw [← hFj t (fun q hq e => huq i hi1 q (hclt q hq) (fun e' => hic (e' ▸ hq)) t (by rw [hdi, hd]) e)]
                  exact ht
                rw [hlook] at hF'
                rcases PhiF_cases _ hF' with ⟨k, hk, hkd, rfl⟩ | ⟨hno, _⟩
                · rw [hqget] at hkd
                  cases hqk : qis[k]? with
                  | none => rw [hqk] at hkd; simp at hkd
                  | some q =>
                    rw [hqk] at hkd
                    have hqm := List.mem_of_getElem? hqk
                    have hqi : q = i := Classical.byContradiction fun e => huq i hi1 q (hqc q hqm).2 (fun e' => e e'.symm) t (by rw [hdi, hd]) hkd
                    subst hqi
                    have := hqinj k m q hqk hmi
                    subst this
                    rw [hd] at hdo ⊢
                    exact act_put_eq (by rw [hsz]; exact hdo)
                · exact absurd (by rw [hqget, hmi]; show dstOf ops i = some t; rw [hdi, hd]) (hno m (by rw [pickO_len hql]; exact (List.getElem?_eq_some_iff.1 hmi).1))
              · rw [act_put_ne hd]
                rcases hG t u ht with ⟨q, hq1, hq2, hq3⟩ | hu
                · refine .inl ⟨q, hq1, fun e => ?_, hq3⟩
                  rcases (hLs q).1 e with e | e
                  · exact hd (by rw [← hdi, ← e]; exact hq3)
                  · exact hq2 e
                · exact .inr hu
          rcases hy a hreads with ⟨hno, hv⟩ | ⟨hyes, hrun⟩
          · rw [if_neg (by rw [hno]; simp)]
            rw [← hv]
            exact hnext
          · rw [if_pos hyes]
            refine .inl ?_
            unfold Oper.wp
            rcases hrun w' hWw with e | ⟨f, args, e, hcl2⟩
            · exact upon_val e hnext
            · rw [e]
              refine Calls.mono hcl2.out fun en w'' q => ?_
              cases en with
              | returned u => obtain ⟨q1, q2⟩ := q; subst q1; subst q2; exact hnext
              | panicked ch => exact q.elim
              | outgrown => exact q.elim
  have hf : ∀ i, i < ops.size → ¬ Lst (Array.replicate ops.size false) i := fun i hi hl => absurd hl (by unfold Lst; simp [Array.getD_eq_getD_getElem?, hi])
  refine main ops.size _ a0 _ 0 F' (by simp) (fun i hi hl => absurd hl (hf i hi)) ?_ (hf _ hN) ha0.1 ha0.2.1 hds (by rw [List.drop_zero]; exact hfin) (fun m i hi => ⟨fun hl => absurd hl (hf i (hclt i (List.mem_of_getElem? hi))), fun e => by omega⟩)
    (fun m i hi hl => absurd hl (hf i (hqc i (List.mem_of_getElem? hi)).2)) (fun t u ht _ => ha0.2.2 t u ht) (fun t u ht => ?_) (fun _ _ => rfl)
  · have : ∀ m, m ≤ ops.size → cnt (Array.replicate ops.size false) m ≤ m := by
      intro m
      induction m with
      | zero => intro _; simp [cnt]
      | succ m ihm => intro h; have := ihm (by omega); simp only [cnt]; split <;> omega
    exact this _ (Nat.le_refl _)
  · rw [hlook] at ht
    rcases PhiF_cases _ ht with ⟨k, hk, hkd, rfl⟩ | ⟨_, hu⟩
    · rw [hqget] at hkd
      cases hqk : qis[k]? with
      | none => rw [hqk] at hkd; simp at hkd
      | some q =>
        rw [hqk] at hkd
        have hqm := List.mem_of_getElem? hqk
        exact .inl ⟨q, hqm, hf q (hqc q hqm).2, hkd⟩
    · exact .inr (ha0.2.2 t u hu)
theorem Dr.chX (hT : TabOk P T) (hm : P.follows .mixedOrders = true) (qis cs : List Nat) {id : Nat} {F : Fr} {w : World} {K : Exit → Fr → World → Prop} {ql cl : List Oper}
    (hB : chB ops qis cs = true) (hql : pickO ops qis = some ql) (hcl : pickO ops cs = some cl) (W : World → Prop) (Xc : List PanicEntry → World → Prop)
    (hX : ∀ ch F' w', F'.ds = F.ds → Xc ch w' → K (.panic ch) F' w')
    (h : ∀ w1, Ext w w1 → w1.heap.size = w.heap.size → quOps P T n W (fun a b => b = a) ops.toList ql F (fun F' => chOpsX P T n W Xc cl F' w1 (fun F w => K .normal F w))) : Dr P n id ops F w K :=
  Dr.chXk hT hm qis cs hB hql hcl W Xc (fun ch w' q => hX ch _ w' rfl q) h
end
end Go.Sh
namespace Go.Proofs.YtfnjodpehomgfaaGreatDoor
open Go Go.Sh Go.Tx
attribute [local irreducible] Blk Ext RdS
theorem argsR_s (F : PF) (d n : Nat) (l : List Ex) (ts : List Tk) : argsR F d (n + 1) l ts = (if curK ts = s_comma then (stepP false ts).bind fun _ ts1 => (F.expr 0 d ts1).bind fun e ts2 => argsR F d n (l ++ [e]) ts2 else (takeP s_rp ts).bind fun _ ts1 => .ok l ts1) := rfl
section
variable {src : Bs} {ws : List Tk} {A : Option Addr} {cw pr : Nat} {wb : World}
theorem RdQ.small (X : RX src ws A cw pr wb) {s : RS} {w : World} (h : RdQ ws A cw pr s w) : s.ts.length ≤ 20000 := by
  obtain ⟨k, h1, _⟩ := h
  have := X.len
  rw [← h1, List.length_drop]; omega
variable (Y : RY src ws A cw pr wb) {F : PF} (C : RCon src ws A cw pr wb F)
include Y C
theorem takeRR {α : Type} (k : Bs) (R0 : Res α) (s : RS) (w : World) (hwb : Ext wb w) (h : RdQ ws A cw pr s w) (ha : AtR R0 s) (hk : k ≠ k_end) (h1 : k ≠ k_bad) (h2 : k ≠ k_least) :
    Cl Tryz.prog 53 #[.pointer (some ⟨pr, 0, none⟩), .string (bs k)] w (fun v w' => ∃ kd p tx e s', v = .agg #[.string (bs kd), .int .i64 p, .string (bs tx), .int .i64 e] ∧ AtR (R0.and fun _ ts => takeP k ts) s' ∧ Vl (R0.and fun _ ts => takeP k ts) (fun a => tx = a.2.text) ∧ Hp (· = pr) w w' [rq ws A cw pr s']) (fun _ _ => False) := by
  have X := Y.x
  refine Cl.mkX (take_r X k s w hwb h (ends_ne ha.ends)) (fun v w' q => ?_) (fun _ _ h => h)
  obtain ⟨rfl, H⟩ := q
  have hat := take_at ha (h.pls X) hk h1 h2
  have hv : ∀ a ts, (R0.and fun _ ts => takeP k ts) = .ok a ts → a.2 = curT s.ts ∧ s.sp = none ∧ rKind (curT s.ts) = k ∧ (curT s.ts).err = 0 := fun a ts e => by
    cases R0 with
    | out => simp [Res.and, Res.bind] at e
    | err e' p => simp [Res.and, Res.bind] at e
    | ok a0 ts0 =>
      cases ht : takeP k ts0 with
      | out => simp [Res.and, Res.bind, ht] at e
      | err e' p => simp [Res.and, Res.bind, ht] at e
      | ok t ts1 =>
        simp only [Res.and, Res.bind, ht, Res.ok.injEq] at e
        rw [← e.1]
        exact take_val ha ht
  obtain ⟨ts, sp⟩ := s
  cases sp with
  | some x =>
    refine ⟨[], 0, [], 0, _, rfl, hat.and_of, fun a ts' e => ?_, H⟩
    obtain ⟨_, g, _⟩ := hv a ts' e
    cases g
  | none =>
    by_cases hc : rKind (curT ts) = k
    · have hV : takeV src k ⟨ts, none⟩ = .agg (rwE src (curT ts)).toArray := by unfold takeV; simp only; rw [if_pos hc]
      rw [hV]
      refine ⟨rKind (curT ts), (curT ts).at_, rText src (curT ts), (curT ts).err, _, rfl, hat.and_of, fun a ts' e => ?_, H⟩
      obtain ⟨g1, _, _, g4⟩ := hv a ts' e
      rw [g1]
      unfold rText
      rw [if_neg (by simp only at g4 ⊢; rw [g4]; decide)]
    · have hV : takeV src k ⟨ts, none⟩ = noW := by unfold takeV; simp only; rw [if_neg hc]
      rw [hV]
      refine ⟨[], 0, [], 0, _, rfl, hat.and_of, fun a ts' e => ?_, H⟩
      obtain ⟨_, _, g, _⟩ := hv a ts' e
      exact absurd g hc
set_option maxHeartbeats 4000000 in
theorem args_r {α : Type} (R0 : Res α) (d : Nat) (s : RS) (w : World) (hd : d ≤ 41) (hwb : Ext wb w) (h : RdQ ws A cw pr s w) (ha : AtR R0 s) (hne : (R0.and fun _ ts => argsP F d (ts.length + 1) [] ts) ≠ .out) :
    Cl Tryz.prog 129 #[.pointer (some ⟨pr, 0, none⟩), .int .i64 (d : Int)] w (OkRL ws A cw pr Prod.snd (R0.and fun _ ts => argsP F d (ts.length + 1) [] ts) w) (fun _ _ => False) := by
  have X := Y.x
  have HB := X.ok hwb
  have hts := ends_ne ha.ends
  have hsm := h.small X
  obtain ⟨R, hR⟩ : ∃ R, R = R0.and fun _ ts => argsP F d (ts.length + 1) [] ts := ⟨_, rfl⟩
  rw [← hR] at hne ⊢
  refine calls_ex (args := [.pointer (some ⟨pr, 0, none⟩), .int .i64 (d : Int)]) T.ok Tryz.func129 rfl rfl rfl rfl ?_
  have H := Hp.start (S := (· = pr)) (rq_ok h) (fun k hk => hk)
  clear h
  replace H := Hp.nil (Hp.trs0 H) ET.enc 6 74
  repeat' ((conv => whnf); first | (((with_reducible show Gd ..); first | (with_reducible first | refine Gd.t ?_ | refine Gd.f ?_ | (first | apply Gd.dec | apply Gd.beq | apply Gd.bne) <;> intro _ | refine Gd.not ?_) | refine Gd.t ?_ | refine Gd.f ?_ | apply Gd.var <;> intro _) <;> try (exfalso; omega)) | with_reducible refine Sq.mk ?_ | ((with_reducible show Ld1 ..); first | refine Ld1.h H ?_ | refine Ld1.rF ?_ | refine Ld1.r ?_) | ((with_reducible show Ld ..); first | refine Ld.h H ?_ | refine Ld.r ?_) | ((with_reducible show Ix ..); first | refine Ix.h ?_ | refine Ix.ha ?_) | (refine St.h H ?_; clear H; intro _ H))
  (((conv => whnf); refine Cl.mk (is_r X s_rp s _ (H.base2 HB) (H.atC 2 rfl) hts) ?_); rintro _ _ ⟨rfl, hx⟩; replace H := H.ext hx; clear hx)
  by_cases hrp : isR s_rp s = true
  · rw [hrp]
    obtain ⟨a, ts, rfl⟩ : ∃ a ts, R0 = .ok a ts := by
      cases R0 with
      | out => exact absurd hR hne
      | err e p => rw [is_err ha (by decide) (by decide)] at hrp; cases hrp
      | ok a ts => exact ⟨a, ts, rfl⟩
    obtain ⟨rfl, hg⟩ := ha.gd
    rw [is_ok ha] at hrp
    have hk : curK ts = s_rp := by simpa using hrp
    have hst := step_at hg.ends hg.ok (by rw [hk]; decide)
    obtain ⟨t0, r0, rfl⟩ : ∃ t0 r0, ts = t0 :: r0 := by
      cases ts with
      | nil => exact absurd rfl hts
      | cons t0 r0 => exact ⟨t0, r0, rfl⟩
    replace hR : R = (stepP false (t0 :: r0)).map (fun _ => (a, [])) := by
      rw [hR]
      show ((argsP F d (_ + 1) [] (t0 :: r0)).bind _) = _
      unfold argsP
      rw [if_pos hk]
      unfold takeP
      rw [if_neg (fun e => e hk)]
      cases stepP false (t0 :: r0) <;> rfl
    repeat' ((conv => whnf); first | (((with_reducible show Gd ..); first | (with_reducible first | refine Gd.t ?_ | refine Gd.f ?_ | (first | apply Gd.dec | apply Gd.beq | apply Gd.bne) <;> intro _ | refine Gd.not ?_) | refine Gd.t ?_ | refine Gd.f ?_ | apply Gd.var <;> intro _) <;> try (exfalso; omega)) | with_reducible refine Sq.mk ?_ | ((with_reducible show Ld1 ..); first | refine Ld1.h H ?_ | refine Ld1.rF ?_ | refine Ld1.r ?_) | ((with_reducible show Ld ..); first | refine Ld.h H ?_ | refine Ld.r ?_) | ((with_reducible show Ix ..); first | refine Ix.h ?_ | refine Ix.ha ?_) | (refine St.h H ?_; clear H; intro _ H))
    (obtain ⟨j, hj1, hj2, hb0⟩ := H.atC (c := rq ws A cw pr (⟨t0 :: r0, none⟩)) 2 rfl; have hjl := X.lt hj1 (by first | exact List.cons_ne_nil _ _ | assumption); replace H := Hp.ofQ H hb0; clear hb0)
    repeat' ((conv => whnf); first | (((with_reducible show Gd ..); first | (with_reducible first | refine Gd.t ?_ | refine Gd.f ?_ | (first | apply Gd.dec | apply Gd.beq | apply Gd.bne) <;> intro _ | refine Gd.not ?_) | refine Gd.t ?_ | refine Gd.f ?_ | apply Gd.var <;> intro _) <;> try (exfalso; omega)) | with_reducible refine Sq.mk ?_ | ((with_reducible show Ld1 ..); first | refine Ld1.h H ?_ | refine Ld1.rF ?_ | refine Ld1.r ?_) | ((with_reducible show Ld ..); first | refine Ld.h H ?_ | refine Ld.r ?_) | ((with_reducible show Ix ..); first | refine Ix.h ?_ | refine Ix.ha ?_) | (refine St.h H ?_; clear H; intro _ H))
    (have hwj : IntKind.i64.wrap ((j : Int) + 1) = ((j + 1 : Nat) : Int) := w64 rfl (by omega) (by omega); rw [hwj] at H; replace H := Hp.toQ (pr := pr) (s := ⟨r0, none⟩) (k := j + 1) H (List.tail_drop.symm.trans (congrArg List.tail hj1)) (fun e p h => by cases h); clear hwj hj1 hj2 hjl)
    refine ⟨none, 0, [], _, rfl, by rw [hR]; exact hst.map _, by rw [hR]; exact Vl.map (g := fun _ => (a, [])) (fun _ _ _ => rfl), by simp, H⟩
  rw [Bool.eq_false_iff.2 hrp]
  have hR1 : ∃ n, n ≤ 20001 ∧ R = ((R0.and fun _ ts => F.expr 0 d ts).map (fun p => (p.1, [p.2]))).bind fun q ts => (argsR F d n q.2 ts).bind fun l ts3 => .ok (q.1, l) ts3 := by
    cases R0 with
    | out => exact absurd hR hne
    | err e p => exact ⟨0, by omega, hR⟩
    | ok a ts =>
      obtain ⟨rfl, hg⟩ := ha.gd
      rw [is_ok ha] at hrp
      have hk : ¬ curK ts = s_rp := by simpa using hrp
      refine ⟨ts.length, by simp only at hsm; omega, ?_⟩
      rw [hR, Res.map_bind, Res.and_bind]
      show ((argsP F d (ts.length + 1) [] ts).bind _) = (F.expr 0 d ts).bind _
      unfold argsP
      rw [if_neg hk, if_neg (by simp)]
      show ((F.expr 0 d ts).bind _).bind _ = _
      rw [Res.bind_assoc]
      congr 1
      funext e ts2
      rw [List.nil_append, args_R F d ts.length [e] ts2 (by simp)]
  obtain ⟨n0, hn0, hR1⟩ := hR1
  repeat' ((conv => whnf); first | (((with_reducible show Gd ..); first | (with_reducible first | refine Gd.t ?_ | refine Gd.f ?_ | (first | apply Gd.dec | apply Gd.beq | apply Gd.bne) <;> intro _ | refine Gd.not ?_) | refine Gd.t ?_ | refine Gd.f ?_ | apply Gd.var <;> intro _) <;> try (exfalso; omega)) | with_reducible refine Sq.mk ?_ | ((with_reducible show Ld1 ..); first | refine Ld1.h H ?_ | refine Ld1.rF ?_ | refine Ld1.r ?_) | ((with_reducible show Ld ..); first | refine Ld.h H ?_ | refine Ld.r ?_) | ((with_reducible show Ix ..); first | refine Ix.h ?_ | refine Ix.ha ?_) | (refine St.h H ?_; clear H; intro _ H))
  ((conv => whnf); refine Cl.mk (exprR Y C R0 0 d s _ (by omega) hd (H.base2 HB) (H.atC 2 rfl) ha (Res.map_out (g := fun p => (p.1, [p.2])) (Res.bind_out (by rw [← hR1]; exact hne)))) ?_)
  rintro _ w3 ⟨⟨kd, o, n, nm, cb, B, c, l⟩, s2, rfl, ha2, hv2, H'⟩
  replace H := H.updn (c := rq ws A cw pr s) (Hp.swap H') rfl (.inl rfl) (.inl rfl)
  clear H'
  ((conv => whnf); refine Al.hp H ?_; clear H; intro p6 _ H _)
  repeat' ((conv => whnf); first | (((with_reducible show Gd ..); first | (with_reducible first | refine Gd.t ?_ | refine Gd.f ?_ | (first | apply Gd.dec | apply Gd.beq | apply Gd.bne) <;> intro _ | refine Gd.not ?_) | refine Gd.t ?_ | refine Gd.f ?_ | apply Gd.var <;> intro _) <;> try (exfalso; omega)) | with_reducible refine Sq.mk ?_ | ((with_reducible show Ld1 ..); first | refine Ld1.h H ?_ | refine Ld1.rF ?_ | refine Ld1.r ?_) | ((with_reducible show Ld ..); first | refine Ld.h H ?_ | refine Ld.r ?_) | ((with_reducible show Ix ..); first | refine Ix.h ?_ | refine Ix.ha ?_) | (refine St.h H ?_; clear H; intro _ H))
  refine Sm.lith (cs := ET.enc (.mk kd o n nm cb B c l)) H T.ok (fun p5 w4 H _ => ?_)
  refine Sm.ap1 (enc := ET.enc) (.mk kd o n nm cb B c l) H T.ok ?_ ?_ (fun A' c' w6 H => ?_)
  · show (0 + 1) * 80 ≤ _; omega
  · show 0 + 1 ≤ _; omega
  simp only [List.cons_append, List.nil_append] at H
  repeat' ((conv => whnf); first | (((with_reducible show Gd ..); first | (with_reducible first | refine Gd.t ?_ | refine Gd.f ?_ | (first | apply Gd.dec | apply Gd.beq | apply Gd.bne) <;> intro _ | refine Gd.not ?_) | refine Gd.t ?_ | refine Gd.f ?_ | apply Gd.var <;> intro _) <;> try (exfalso; omega)) | with_reducible refine Sq.mk ?_ | ((with_reducible show Ld1 ..); first | refine Ld1.h H ?_ | refine Ld1.rF ?_ | refine Ld1.r ?_) | ((with_reducible show Ld ..); first | refine Ld.h H ?_ | refine Ld.r ?_) | ((with_reducible show Ix ..); first | refine Ix.h ?_ | refine Ix.ha ?_) | (refine St.h H ?_; clear H; intro _ H))
  replace H := Hp.swap (Hp.trsS (l := []) (H.sel [1, 2, 0, 0, 0] rfl))
  have hv3 : Vl ((R0.and fun _ ts => F.expr 0 d ts).map (fun p => (p.1, [p.2]))) (fun q => ET.es [.mk kd o n nm cb B c l] = q.2) := Vl.map (hv2.mono fun p hp => by simp only [ET.es]; rw [hp])
  refine Lp.g0 T.ok (σ := Res (α × List Ex) × Nat × Option Addr × Nat × List ET × ET × RS) (fun q => [(5, .slice q.2.2.1 q.2.2.2.2.1.length q.2.2.2.1), (6, .pointer (some ⟨p6, 0, none⟩)), (0, .pointer (some ⟨pr, 0, none⟩)), (1, .int .i64 (d : Int))])
    (fun q w' => R = q.1.bind (fun a ts => (argsR F d q.2.1 a.2 ts).bind fun l ts3 => .ok (a.1, l) ts3) ∧ AtR q.1 q.2.2.2.2.2.2 ∧ Vl q.1 (fun a => ET.es q.2.2.2.2.1 = a.2) ∧ q.2.1 + q.2.2.2.2.1.length ≤ 20002 ∧ Hp (· = pr) w w' [bk p6 74 (ET.enc q.2.2.2.2.2.1), qu ET.enc 6 74 q.2.2.1 q.2.2.2.1 q.2.2.2.2.1, trs q.2.2.2.2.1, rq ws A cw pr q.2.2.2.2.2.2]) (fun q _ => q.2.1)
    ((R0.and fun _ ts => F.expr 0 d ts).map (fun p => (p.1, [p.2])), n0, A', c', [.mk kd o n nm cb B c l], .mk kd o n nm cb B c l, s2) rfl ⟨rfl, rfl, rfl, rfl, trivial⟩ ⟨hR1, ha2.map _, hv3, by simp only [List.length_cons, List.length_nil]; omega, H.sel [0, 1, 0, 0] rfl⟩ ?_
  clear H hR hR1 ha hv3 ha2 hv2
  rintro ⟨Rc, n, B, c, l, ⟨k9, o9, n9, nm9, cb9, B9, c9, l9⟩, s⟩ w5 ⟨hR, ha, hv, hn, H⟩
  simp only at hR ha hv hn H ⊢
  repeat' ((conv => whnf); first | (((with_reducible show Gd ..); first | (with_reducible first | refine Gd.t ?_ | refine Gd.f ?_ | (first | apply Gd.dec | apply Gd.beq | apply Gd.bne) <;> intro _ | refine Gd.not ?_) | refine Gd.t ?_ | refine Gd.f ?_ | apply Gd.var <;> intro _) <;> try (exfalso; omega)) | with_reducible refine Sq.mk ?_ | ((with_reducible show Ld1 ..); first | refine Ld1.h H ?_ | refine Ld1.rF ?_ | refine Ld1.r ?_) | ((with_reducible show Ld ..); first | refine Ld.h H ?_ | refine Ld.r ?_) | ((with_reducible show Ix ..); first | refine Ix.h ?_ | refine Ix.ha ?_) | (refine St.h H ?_; clear H; intro _ H))
  (((conv => whnf); refine Cl.mk (is_r X s_comma s _ (H.base2 HB) (H.atC 3 rfl) (ends_ne ha.ends)) ?_); rintro _ _ ⟨rfl, hx⟩; replace H := H.ext hx; clear hx)
  by_cases hcm : isR s_comma s = true
  · rw [hcm]
    obtain ⟨a, ts, rfl⟩ : ∃ a ts, Rc = .ok a ts := by
      cases Rc with
      | out => exact absurd hR hne
      | err e p => rw [is_err ha (by decide) (by decide)] at hcm; cases hcm
      | ok a ts => exact ⟨a, ts, rfl⟩
    obtain ⟨rfl, hg⟩ := ha.gd
    rw [is_ok ha] at hcm
    have hk : curK ts = s_comma := by simpa using hcm
    have hst := step_at hg.ends hg.ok (by rw [hk]; decide)
    obtain ⟨t0, r0, rfl⟩ : ∃ t0 r0, ts = t0 :: r0 := by
      cases ts with
      | nil => exact absurd rfl (ends_ne ha.ends)
      | cons t0 r0 => exact ⟨t0, r0, rfl⟩
    cases n with
    | zero => exact absurd hR hne
    | succ n =>
    replace hR : R = (((stepP false (t0 :: r0)).and fun _ ts => F.expr 0 d ts).map (fun p => (a.1, a.2 ++ [p.2]))).bind fun q ts => (argsR F d n q.2 ts).bind fun l ts3 => .ok (q.1, l) ts3 := by
      rw [hR, Res.map_bind, Res.and_bind]
      show ((argsR F d (n + 1) a.2 (t0 :: r0)).bind _) = _
      rw [argsR_s, if_pos hk, Res.bind_assoc]
      congr 1
      funext _ ts1
      rw [Res.bind_assoc]
    repeat' ((conv => whnf); first | (((with_reducible show Gd ..); first | (with_reducible first | refine Gd.t ?_ | refine Gd.f ?_ | (first | apply Gd.dec | apply Gd.beq | apply Gd.bne) <;> intro _ | refine Gd.not ?_) | refine Gd.t ?_ | refine Gd.f ?_ | apply Gd.var <;> intro _) <;> try (exfalso; omega)) | with_reducible refine Sq.mk ?_ | ((with_reducible show Ld1 ..); first | refine Ld1.h H ?_ | refine Ld1.rF ?_ | refine Ld1.r ?_) | ((with_reducible show Ld ..); first | refine Ld.h H ?_ | refine Ld.r ?_) | ((with_reducible show Ix ..); first | refine Ix.h ?_ | refine Ix.ha ?_) | (refine St.h H ?_; clear H; intro _ H))
    (obtain ⟨j, hj1, hj2, hb0⟩ := H.atC (c := rq ws A cw pr (⟨t0 :: r0, none⟩)) 3 rfl; have hjl := X.lt hj1 (by first | exact List.cons_ne_nil _ _ | assumption); replace H := Hp.ofQ H hb0; clear hb0)
    repeat' ((conv => whnf); first | (((with_reducible show Gd ..); first | (with_reducible first | refine Gd.t ?_ | refine Gd.f ?_ | (first | apply Gd.dec | apply Gd.beq | apply Gd.bne) <;> intro _ | refine Gd.not ?_) | refine Gd.t ?_ | refine Gd.f ?_ | apply Gd.var <;> intro _) <;> try (exfalso; omega)) | with_reducible refine Sq.mk ?_ | ((with_reducible show Ld1 ..); first | refine Ld1.h H ?_ | refine Ld1.rF ?_ | refine Ld1.r ?_) | ((with_reducible show Ld ..); first | refine Ld.h H ?_ | refine Ld.r ?_) | ((with_reducible show Ix ..); first | refine Ix.h ?_ | refine Ix.ha ?_) | (refine St.h H ?_; clear H; intro _ H))
    (have hwj : IntKind.i64.wrap ((j : Int) + 1) = ((j + 1 : Nat) : Int) := w64 rfl (by omega) (by omega); rw [hwj] at H; replace H := Hp.toQ (pr := pr) (s := ⟨r0, none⟩) (k := j + 1) H (List.tail_drop.symm.trans (congrArg List.tail hj1)) (fun e p h => by cases h); clear hwj hj1 hj2 hjl)
    ((conv => whnf); refine Cl.mk (exprR Y C (stepP false (t0 :: r0)) 0 d ⟨r0, none⟩ _ (by omega) hd (H.base2 HB) (H.atC 3 rfl) hst (Res.map_out (g := fun p => (a.1, a.2 ++ [p.2])) (Res.bind_out (by rw [← hR]; exact hne)))) ?_)
    rintro _ w3 ⟨⟨kd, o, n2, nm, cb, B2, c2, l2⟩, s2, rfl, ha2, hv2, H'⟩
    replace H := H.updn (c := rq ws A cw pr ⟨r0, none⟩) (Hp.swap H') rfl (.inl rfl) (.inl rfl)
    clear H'
    repeat' ((conv => whnf); first | (((with_reducible show Gd ..); first | (with_reducible first | refine Gd.t ?_ | refine Gd.f ?_ | (first | apply Gd.dec | apply Gd.beq | apply Gd.bne) <;> intro _ | refine Gd.not ?_) | refine Gd.t ?_ | refine Gd.f ?_ | apply Gd.var <;> intro _) <;> try (exfalso; omega)) | with_reducible refine Sq.mk ?_ | ((with_reducible show Ld1 ..); first | refine Ld1.h H ?_ | refine Ld1.rF ?_ | refine Ld1.r ?_) | ((with_reducible show Ld ..); first | refine Ld.h H ?_ | refine Ld.r ?_) | ((with_reducible show Ix ..); first | refine Ix.h ?_ | refine Ix.ha ?_) | (refine St.h H ?_; clear H; intro _ H))
    refine Sm.lith (cs := ET.enc (.mk kd o n2 nm cb B2 c2 l2)) H T.ok (fun p5 w4 H _ => ?_)
    refine Sm.ap1 (enc := ET.enc) (.mk kd o n2 nm cb B2 c2 l2) H T.ok ?_ ?_ (fun A' c' w6 H => ?_)
    · show (l.length + 1) * 80 ≤ _; omega
    · omega
    simp only [List.cons_append, List.nil_append] at H
    repeat' ((conv => whnf); first | (((with_reducible show Gd ..); first | (with_reducible first | refine Gd.t ?_ | refine Gd.f ?_ | (first | apply Gd.dec | apply Gd.beq | apply Gd.bne) <;> intro _ | refine Gd.not ?_) | refine Gd.t ?_ | refine Gd.f ?_ | apply Gd.var <;> intro _) <;> try (exfalso; omega)) | with_reducible refine Sq.mk ?_ | ((with_reducible show Ld1 ..); first | refine Ld1.h H ?_ | refine Ld1.rF ?_ | refine Ld1.r ?_) | ((with_reducible show Ld ..); first | refine Ld.h H ?_ | refine Ld.r ?_) | ((with_reducible show Ix ..); first | refine Ix.h ?_ | refine Ix.ha ?_) | (refine St.h H ?_; clear H; intro _ H))
    replace H := Hp.trsS (H.sel [0, 2, 0, 0, 0] rfl)
    clear hst
    have hle : ET.es l = a.2 := hv a _ rfl
    refine ⟨(((stepP false (t0 :: r0)).and fun _ ts => F.expr 0 d ts).map (fun p => (a.1, a.2 ++ [p.2])), n, A', c', l ++ [.mk kd o n2 nm cb B2 c2 l2], .mk kd o n2 nm cb B2 c2 l2, s2), ⟨at_val rfl (by simp), rfl, rfl, rfl, trivial⟩, rfl, ⟨hR, ha2.map _, ?_, ?_, H.sel [1, 1, 0, 0] rfl⟩, Nat.lt_succ_self n⟩
    · refine Vl.map (hv2.mono fun p hp => ?_)
      rw [ET.es_app, hle]
      simp only [ET.es]
      rw [hp]
    · simp only [List.length_append, List.length_cons, List.length_nil]; omega
  · rw [Bool.eq_false_iff.2 hcm]
    replace hR : R = (Rc.and fun _ ts => takeP s_rp ts).map (fun p => p.1) := by
      rw [hR]
      cases Rc with
      | out => exact absurd hR hne
      | err e p => rfl
      | ok a ts =>
        cases n with
        | zero => exact absurd hR hne
        | succ n =>
          rw [is_ok ha] at hcm
          have hk : ¬ curK ts = s_comma := by simpa using hcm
          show ((argsR F d (n + 1) a.2 ts).bind _) = ((takeP s_rp ts).bind _).bind _
          unfold argsR
          rw [if_neg hk]
          cases takeP s_rp ts <;> rfl
    repeat' ((conv => whnf); first | (((with_reducible show Gd ..); first | (with_reducible first | refine Gd.t ?_ | refine Gd.f ?_ | (first | apply Gd.dec | apply Gd.beq | apply Gd.bne) <;> intro _ | refine Gd.not ?_) | refine Gd.t ?_ | refine Gd.f ?_ | apply Gd.var <;> intro _) <;> try (exfalso; omega)) | with_reducible refine Sq.mk ?_ | ((with_reducible show Ld1 ..); first | refine Ld1.h H ?_ | refine Ld1.rF ?_ | refine Ld1.r ?_) | ((with_reducible show Ld ..); first | refine Ld.h H ?_ | refine Ld.r ?_) | ((with_reducible show Ix ..); first | refine Ix.h ?_ | refine Ix.ha ?_) | (refine St.h H ?_; clear H; intro _ H))
    ((conv => whnf); refine Cl.mk (takeRR Y C s_rp Rc s _ (H.base2 HB) (H.atC 3 rfl) ha (by decide) (by decide) (by decide)) ?_)
    rintro _ w3 ⟨k1, p1, x1, e1, s2, rfl, ha2, _, H'⟩
    replace H := H.upd (c := rq ws A cw pr s) H' rfl (.inl rfl)
    clear H'
    repeat' ((conv => whnf); first | (((with_reducible show Gd ..); first | (with_reducible first | refine Gd.t ?_ | refine Gd.f ?_ | (first | apply Gd.dec | apply Gd.beq | apply Gd.bne) <;> intro _ | refine Gd.not ?_) | refine Gd.t ?_ | refine Gd.f ?_ | apply Gd.var <;> intro _) <;> try (exfalso; omega)) | with_reducible refine Sq.mk ?_ | ((with_reducible show Ld1 ..); first | refine Ld1.h H ?_ | refine Ld1.rF ?_ | refine Ld1.r ?_) | ((with_reducible show Ld ..); first | refine Ld.h H ?_ | refine Ld.r ?_) | ((with_reducible show Ix ..); first | refine Ix.h ?_ | refine Ix.ha ?_) | (refine St.h H ?_; clear H; intro _ H))
    refine ⟨B, c, l, s2, rfl, by rw [hR]; exact ha2.map _, by rw [hR]; exact Vl.map (g := fun p : (α × List Ex) × Tk => p.1) (Vl.fst hv), by omega, H.d0⟩
end
end Go.Proofs.YtfnjodpehomgfaaGreatDoor
namespace Go.Proofs.YtfnjodpehomgfaaGreatDoor
open Go Go.Sh Go.Tx
attribute [local irreducible] Blk Ext RdS
theorem kidsP_s (F : PF) (d n m : Nat) (l : List Ex) (ts : List Tk) : kidsP F d n (m + 1) l ts = ((if m + 1 < n then (takeP s_comma ts).bind fun _ ts1 => .ok () ts1 else .ok () ts : Res Unit).bind fun _ ts1 => (F.expr 0 d ts1).bind fun e ts2 => kidsP F d n m (l ++ [e]) ts2) := rfl
section
variable {src : Bs} {ws : List Tk} {A : Option Addr} {cw pr : Nat} {wb : World}
variable (Y : RY src ws A cw pr wb) {F : PF} (C : RCon src ws A cw pr wb F)
include Y C
set_option maxHeartbeats 4000000 in
theorem listed_r {α : Type} (R0 : Res α) (n d : Nat) (s : RS) (w : World) (hn3 : n ≤ 3) (hd : d ≤ 41) (hwb : Ext wb w) (h : RdQ ws A cw pr s w) (ha : AtR R0 s) (hne : (R0.and fun _ ts => kidsP F d n n [] ts) ≠ .out) :
    Cl Tryz.prog 155 #[.pointer (some ⟨pr, 0, none⟩), .int .i64 (n : Int), .int .i64 (d : Int)] w (OkRL ws A cw pr Prod.snd (R0.and fun _ ts => kidsP F d n n [] ts) w) (fun _ _ => False) := by
  have X := Y.x
  have HB := X.ok hwb
  obtain ⟨R, hR⟩ : ∃ R, R = R0.and fun _ ts => kidsP F d n n [] ts := ⟨_, rfl⟩
  rw [← hR] at hne ⊢
  refine calls_ex (args := [.pointer (some ⟨pr, 0, none⟩), .int .i64 (n : Int), .int .i64 (d : Int)]) T.ok Tryz.func155 rfl rfl rfl rfl ?_
  have H := Hp.start (S := (· = pr)) (rq_ok h) (fun k hk => hk)
  clear h
  replace H := Hp.nil (Hp.trs0 H) ET.enc 6 74
  repeat' ((conv => whnf); first | (((with_reducible show Gd ..); first | (with_reducible first | refine Gd.t ?_ | refine Gd.f ?_ | (first | apply Gd.dec | apply Gd.beq | apply Gd.bne) <;> intro _ | refine Gd.not ?_) | refine Gd.t ?_ | refine Gd.f ?_ | apply Gd.var <;> intro _) <;> try (exfalso; omega)) | with_reducible refine Sq.mk ?_ | ((with_reducible show Ld1 ..); first | refine Ld1.h H ?_ | refine Ld1.rF ?_ | refine Ld1.r ?_) | ((with_reducible show Ld ..); first | refine Ld.h H ?_ | refine Ld.r ?_) | ((with_reducible show Ix ..); first | refine Ix.h ?_ | refine Ix.ha ?_) | (refine St.h H ?_; clear H; intro _ H))
  have hR1 : R = (R0.map (fun a => (a, ([] : List Ex)))).bind (fun a ts => (kidsP F d n (n - 0) a.2 ts).bind fun l ts3 => .ok (a.1, l) ts3) := by
    rw [hR, Res.map_bind]; rfl
  refine Lp.g0 T.ok (σ := Res (α × List Ex) × Nat × Option Addr × Nat × List ET × RS) (fun q => [(7, .slice q.2.2.1 q.2.2.2.2.1.length q.2.2.2.1), (8, .int .i64 (q.2.1 : Int)), (0, .pointer (some ⟨pr, 0, none⟩)), (1, .int .i64 (n : Int)), (2, .int .i64 (d : Int))])
    (fun q w' => R = q.1.bind (fun a ts => (kidsP F d n (n - q.2.1) a.2 ts).bind fun l ts3 => .ok (a.1, l) ts3) ∧ AtR q.1 q.2.2.2.2.2 ∧ Vl q.1 (fun a => ET.es q.2.2.2.2.1 = a.2) ∧ q.2.1 ≤ n ∧ q.2.2.2.2.1.length = q.2.1 ∧ Hp (· = pr) w w' [qu ET.enc 6 74 q.2.2.1 q.2.2.2.1 q.2.2.2.2.1, trs q.2.2.2.2.1, rq ws A cw pr q.2.2.2.2.2]) (fun q _ => n - q.2.1)
    (R0.map (fun a => (a, [])), 0, none, 0, [], s) rfl ⟨rfl, rfl, rfl, rfl, rfl, trivial⟩ ⟨hR1, ha.map _, Vl.map (g := fun a => (a, ([] : List Ex))) (fun _ _ _ => rfl), Nat.zero_le _, rfl, H⟩ ?_
  clear H hR hR1 ha
  rintro ⟨Rc, i, B, c, l, s⟩ w5 ⟨hR, ha, hv, hi, hll, H⟩
  simp only at hR ha hv hi hll H ⊢
  by_cases hlt : i < n
  case neg =>
    obtain rfl : i = n := by omega
    rw [Nat.sub_self] at hR
    replace hR : R = (Rc.and fun _ ts => takeP s_rp ts).map (fun p => p.1) := by
      rw [hR]
      cases Rc with
      | out => rfl
      | err e p => rfl
      | ok a ts =>
        show ((takeP s_rp ts).bind _).bind _ = ((takeP s_rp ts).bind _).bind _
        cases takeP s_rp ts <;> rfl
    repeat' ((conv => whnf); first | (((with_reducible show Gd ..); first | (with_reducible first | refine Gd.t ?_ | refine Gd.f ?_ | (first | apply Gd.dec | apply Gd.beq | apply Gd.bne) <;> intro _ | refine Gd.not ?_) | refine Gd.t ?_ | refine Gd.f ?_ | apply Gd.var <;> intro _) <;> try (exfalso; omega)) | with_reducible refine Sq.mk ?_ | ((with_reducible show Ld1 ..); first | refine Ld1.h H ?_ | refine Ld1.rF ?_ | refine Ld1.r ?_) | ((with_reducible show Ld ..); first | refine Ld.h H ?_ | refine Ld.r ?_) | ((with_reducible show Ix ..); first | refine Ix.h ?_ | refine Ix.ha ?_) | (refine St.h H ?_; clear H; intro _ H))
    all_goals first | (exfalso; omega) | skip
    ((conv => whnf); refine Cl.mk (takeRR Y C s_rp Rc s _ (H.base2 HB) (H.atC 2 rfl) ha (by decide) (by decide) (by decide)) ?_)
    rintro _ w3 ⟨k1, p1, x1, e1, s2, rfl, ha2, _, H'⟩
    replace H := H.upd (c := rq ws A cw pr s) H' rfl (.inl rfl)
    clear H'
    repeat' ((conv => whnf); first | (((with_reducible show Gd ..); first | (with_reducible first | refine Gd.t ?_ | refine Gd.f ?_ | (first | apply Gd.dec | apply Gd.beq | apply Gd.bne) <;> intro _ | refine Gd.not ?_) | refine Gd.t ?_ | refine Gd.f ?_ | apply Gd.var <;> intro _) <;> try (exfalso; omega)) | with_reducible refine Sq.mk ?_ | ((with_reducible show Ld1 ..); first | refine Ld1.h H ?_ | refine Ld1.rF ?_ | refine Ld1.r ?_) | ((with_reducible show Ld ..); first | refine Ld.h H ?_ | refine Ld.r ?_) | ((with_reducible show Ix ..); first | refine Ix.h ?_ | refine Ix.ha ?_) | (refine St.h H ?_; clear H; intro _ H))
    exact ⟨B, c, l, s2, rfl, by rw [hR]; exact ha2.map _, by rw [hR]; exact Vl.map (g := fun p : (α × List Ex) × Tk => p.1) (Vl.fst hv), by omega, H⟩
  rw [show n - i = (n - i - 1) + 1 by omega] at hR
  have hKF : ∀ (β : Type) (R1 : Res β) (g : β → α × List Ex) (s1 : RS), R = (R1.map g).bind (fun a ts => (F.expr 0 d ts).bind fun e ts2 => (kidsP F d n (n - i - 1) (a.2 ++ [e]) ts2).bind fun l ts3 => .ok (a.1, l) ts3) → (R1.and fun _ ts => F.expr 0 d ts) ≠ .out ∧ R = ((R1.and fun _ ts => F.expr 0 d ts).map (fun p => ((g p.1).1, (g p.1).2 ++ [p.2]))).bind (fun a ts => (kidsP F d n (n - (i + 1)) a.2 ts).bind fun l ts3 => .ok (a.1, l) ts3) := fun β R1 g s1 h => by
    have h2 : R = ((R1.and fun _ ts => F.expr 0 d ts).map (fun p => ((g p.1).1, (g p.1).2 ++ [p.2]))).bind (fun a ts => (kidsP F d n (n - (i + 1)) a.2 ts).bind fun l ts3 => .ok (a.1, l) ts3) := by
      rw [h, Res.map_bind, Res.map_bind, Res.and_bind, show n - (i + 1) = n - i - 1 by omega]
    exact ⟨Res.map_out (g := fun p => ((g p.1).1, (g p.1).2 ++ [p.2])) (Res.bind_out (by rw [← h2]; exact hne)), h2⟩
  by_cases hi0 : i = 0
  · obtain ⟨hx1, hx2⟩ := hKF _ Rc id s (by
      rw [hR]
      cases Rc with
      | out => rfl
      | err e p => rfl
      | ok a ts =>
        show ((kidsP F d n (n - i - 1 + 1) a.2 ts).bind _) = (F.expr 0 d ts).bind _
        rw [kidsP_s, if_neg (by omega)]
        show ((F.expr 0 d ts).bind _).bind _ = _
        rw [Res.bind_assoc]; rfl)
    repeat' ((conv => whnf); first | (((with_reducible show Gd ..); first | (with_reducible first | refine Gd.t ?_ | refine Gd.f ?_ | (first | apply Gd.dec | apply Gd.beq | apply Gd.bne) <;> intro _ | refine Gd.not ?_) | refine Gd.t ?_ | refine Gd.f ?_ | apply Gd.var <;> intro _) <;> try (exfalso; omega)) | with_reducible refine Sq.mk ?_ | ((with_reducible show Ld1 ..); first | refine Ld1.h H ?_ | refine Ld1.rF ?_ | refine Ld1.r ?_) | ((with_reducible show Ld ..); first | refine Ld.h H ?_ | refine Ld.r ?_) | ((with_reducible show Ix ..); first | refine Ix.h ?_ | refine Ix.ha ?_) | (refine St.h H ?_; clear H; intro _ H))
    all_goals first | (exfalso; omega) | skip
    ((conv => whnf); refine Cl.mk (exprR Y C Rc 0 d s _ (by omega) hd (H.base2 HB) (H.atC 2 rfl) ha hx1) ?_)
    rintro _ w3 ⟨⟨kd, o, n2, nm, cb, B2, c2, l2⟩, s2, rfl, ha2, hv2, H'⟩
    replace H := H.updn (c := rq ws A cw pr s) (Hp.swap H') rfl (.inl rfl) (.inl rfl)
    clear H'
    ((conv => whnf); refine Al.hp H ?_; clear H; intro p9 _ H _)
    repeat' ((conv => whnf); first | (((with_reducible show Gd ..); first | (with_reducible first | refine Gd.t ?_ | refine Gd.f ?_ | (first | apply Gd.dec | apply Gd.beq | apply Gd.bne) <;> intro _ | refine Gd.not ?_) | refine Gd.t ?_ | refine Gd.f ?_ | apply Gd.var <;> intro _) <;> try (exfalso; omega)) | with_reducible refine Sq.mk ?_ | ((with_reducible show Ld1 ..); first | refine Ld1.h H ?_ | refine Ld1.rF ?_ | refine Ld1.r ?_) | ((with_reducible show Ld ..); first | refine Ld.h H ?_ | refine Ld.r ?_) | ((with_reducible show Ix ..); first | refine Ix.h ?_ | refine Ix.ha ?_) | (refine St.h H ?_; clear H; intro _ H))
    (refine Sm.lith (cs := ET.enc (.mk kd o n2 nm cb B2 c2 l2)) H T.ok (fun p5 w4 H _ => ?_); refine Sm.ap1 (enc := ET.enc) (.mk kd o n2 nm cb B2 c2 l2) H T.ok ?_ ?_ (fun A' c' w6 H => ?_); (focus (show (l.length + 1) * 80 ≤ _; omega)); (focus omega); simp only [List.cons_append, List.nil_append] at H; (repeat' ((conv => whnf); first | (((with_reducible show Gd ..); first | (with_reducible first | refine Gd.t ?_ | refine Gd.f ?_ | (first | apply Gd.dec | apply Gd.beq | apply Gd.bne) <;> intro _ | refine Gd.not ?_) | refine Gd.t ?_ | refine Gd.f ?_ | apply Gd.var <;> intro _) <;> try (exfalso; omega)) | with_reducible refine Sq.mk ?_ | ((with_reducible show Ld1 ..); first | refine Ld1.h H ?_ | refine Ld1.rF ?_ | refine Ld1.r ?_) | ((with_reducible show Ld ..); first | refine Ld.h H ?_ | refine Ld.r ?_) | ((with_reducible show Ix ..); first | refine Ix.h ?_ | refine Ix.ha ?_) | (refine St.h H ?_; clear H; intro _ H))); replace H := Hp.trsS (H.sel [1, 2, 1, 1] rfl); refine ⟨(((Rc.and fun _ ts => F.expr 0 d ts).map (fun p => ((id p.1).1, (id p.1).2 ++ [p.2]))), i + 1, A', c', l ++ [.mk kd o n2 nm cb B2 c2 l2], s2), ⟨at_val rfl (by simp), at_int (m := ((i + 1 : Nat) : Int)) rfl (w64 (by simp) (by omega) (by omega)), rfl, rfl, rfl, trivial⟩, rfl, ⟨hx2, ha2.map _, Vl.map (Vl.mono2 hv2 (Vl.fst hv) fun p hp hl => by simp only [ET.es_app, ET.es, id]; rw [hp, hl]; try rfl), (show i + 1 ≤ n by omega), (show (l ++ [(ET.mk kd o n2 nm cb B2 c2 l2)]).length = i + 1 by simp only [List.length_append, List.length_cons, List.length_nil]; omega), Hp.swap H⟩, (show n - (i + 1) < n - i by omega)⟩)
  · have hi1 : n - i - 1 + 1 < n := by omega
    obtain ⟨hx1, hx2⟩ := hKF _ (Rc.and fun _ ts => takeP s_comma ts) (fun p => p.1) s (by
      rw [hR, Res.map_bind, Res.and_bind]
      congr 1
      funext a ts
      rw [kidsP_s, if_pos hi1]
      cases takeP s_comma ts with
      | out => rfl
      | err e p => rfl
      | ok t ts1 =>
        show ((F.expr 0 d ts1).bind _).bind _ = (F.expr 0 d ts1).bind _
        rw [Res.bind_assoc])
    repeat' ((conv => whnf); first | (((with_reducible show Gd ..); first | (with_reducible first | refine Gd.t ?_ | refine Gd.f ?_ | (first | apply Gd.dec | apply Gd.beq | apply Gd.bne) <;> intro _ | refine Gd.not ?_) | refine Gd.t ?_ | refine Gd.f ?_ | apply Gd.var <;> intro _) <;> try (exfalso; omega)) | with_reducible refine Sq.mk ?_ | ((with_reducible show Ld1 ..); first | refine Ld1.h H ?_ | refine Ld1.rF ?_ | refine Ld1.r ?_) | ((with_reducible show Ld ..); first | refine Ld.h H ?_ | refine Ld.r ?_) | ((with_reducible show Ix ..); first | refine Ix.h ?_ | refine Ix.ha ?_) | (refine St.h H ?_; clear H; intro _ H))
    all_goals first | (exfalso; omega) | skip
    ((conv => whnf); refine Cl.mk (takeRR Y C s_comma Rc s _ (H.base2 HB) (H.atC 2 rfl) ha (by decide) (by decide) (by decide)) ?_)
    rintro _ w3 ⟨k1, p1, x1, e1, s1, rfl, ha1, _, H'⟩
    replace H := H.upd (c := rq ws A cw pr s) H' rfl (.inl rfl)
    clear H'
    repeat' ((conv => whnf); first | (((with_reducible show Gd ..); first | (with_reducible first | refine Gd.t ?_ | refine Gd.f ?_ | (first | apply Gd.dec | apply Gd.beq | apply Gd.bne) <;> intro _ | refine Gd.not ?_) | refine Gd.t ?_ | refine Gd.f ?_ | apply Gd.var <;> intro _) <;> try (exfalso; omega)) | with_reducible refine Sq.mk ?_ | ((with_reducible show Ld1 ..); first | refine Ld1.h H ?_ | refine Ld1.rF ?_ | refine Ld1.r ?_) | ((with_reducible show Ld ..); first | refine Ld.h H ?_ | refine Ld.r ?_) | ((with_reducible show Ix ..); first | refine Ix.h ?_ | refine Ix.ha ?_) | (refine St.h H ?_; clear H; intro _ H))
    ((conv => whnf); refine Cl.mk (exprR Y C (Rc.and fun _ ts => takeP s_comma ts) 0 d s1 _ (by omega) hd (H.base2 HB) (H.atC 2 rfl) ha1 hx1) ?_)
    rintro _ w3 ⟨⟨kd, o, n2, nm, cb, B2, c2, l2⟩, s2, rfl, ha2, hv2, H'⟩
    replace H := H.updn (c := rq ws A cw pr s1) (Hp.swap H') rfl (.inl rfl) (.inl rfl)
    clear H'
    replace hv : Vl (Rc.and fun _ ts => takeP s_comma ts) (fun a => ET.es l = a.1.2) := Vl.fst hv
    ((conv => whnf); refine Al.hp H ?_; clear H; intro p9 _ H _)
    repeat' ((conv => whnf); first | (((with_reducible show Gd ..); first | (with_reducible first | refine Gd.t ?_ | refine Gd.f ?_ | (first | apply Gd.dec | apply Gd.beq | apply Gd.bne) <;> intro _ | refine Gd.not ?_) | refine Gd.t ?_ | refine Gd.f ?_ | apply Gd.var <;> intro _) <;> try (exfalso; omega)) | with_reducible refine Sq.mk ?_ | ((with_reducible show Ld1 ..); first | refine Ld1.h H ?_ | refine Ld1.rF ?_ | refine Ld1.r ?_) | ((with_reducible show Ld ..); first | refine Ld.h H ?_ | refine Ld.r ?_) | ((with_reducible show Ix ..); first | refine Ix.h ?_ | refine Ix.ha ?_) | (refine St.h H ?_; clear H; intro _ H))
    (refine Sm.lith (cs := ET.enc (.mk kd o n2 nm cb B2 c2 l2)) H T.ok (fun p5 w4 H _ => ?_); refine Sm.ap1 (enc := ET.enc) (.mk kd o n2 nm cb B2 c2 l2) H T.ok ?_ ?_ (fun A' c' w6 H => ?_); (focus (show (l.length + 1) * 80 ≤ _; omega)); (focus omega); simp only [List.cons_append, List.nil_append] at H; (repeat' ((conv => whnf); first | (((with_reducible show Gd ..); first | (with_reducible first | refine Gd.t ?_ | refine Gd.f ?_ | (first | apply Gd.dec | apply Gd.beq | apply Gd.bne) <;> intro _ | refine Gd.not ?_) | refine Gd.t ?_ | refine Gd.f ?_ | apply Gd.var <;> intro _) <;> try (exfalso; omega)) | with_reducible refine Sq.mk ?_ | ((with_reducible show Ld1 ..); first | refine Ld1.h H ?_ | refine Ld1.rF ?_ | refine Ld1.r ?_) | ((with_reducible show Ld ..); first | refine Ld.h H ?_ | refine Ld.r ?_) | ((with_reducible show Ix ..); first | refine Ix.h ?_ | refine Ix.ha ?_) | (refine St.h H ?_; clear H; intro _ H))); replace H := Hp.trsS (H.sel [1, 2, 1, 1] rfl); refine ⟨((((Rc.and fun _ ts => takeP s_comma ts).and fun _ ts => F.expr 0 d ts).map (fun p => (p.1.1.1, p.1.1.2 ++ [p.2]))), i + 1, A', c', l ++ [.mk kd o n2 nm cb B2 c2 l2], s2), ⟨at_val rfl (by simp), at_int (m := ((i + 1 : Nat) : Int)) rfl (w64 (by simp) (by omega) (by omega)), rfl, rfl, rfl, trivial⟩, rfl, ⟨hx2, ha2.map _, Vl.map (Vl.mono2 hv2 (Vl.fst hv) fun p hp hl => by simp only [ET.es_app, ET.es, id]; rw [hp, hl]; try rfl), (show i + 1 ≤ n by omega), (show (l ++ [(ET.mk kd o n2 nm cb B2 c2 l2)]).length = i + 1 by simp only [List.length_append, List.length_cons, List.length_nil]; omega), Hp.swap H⟩, (show n - (i + 1) < n - i by omega)⟩)
end
end Go.Proofs.YtfnjodpehomgfaaGreatDoor
namespace Go.Proofs.YtfnjodpehomgfaaGreatDoor
open Go Go.Sh Go.Tx
attribute [local irreducible] Blk Ext RdS
section
variable {src : Bs} {ws : List Tk} {A : Option Addr} {cw pr : Nat} {wb : World}
variable (Y : RY src ws A cw pr wb) {F : PF} (C : RCon src ws A cw pr wb F)
include Y C
set_option maxHeartbeats 4000000 in
theorem special_r (d : Nat) (t0 : Tk) (r0 : List Tk) (w : World) (hd : d ≤ 41) (hwb : Ext wb w) (h : RdQ ws A cw pr ⟨t0 :: r0, none⟩ w) (hg : Gdw (t0 :: r0)) (hk : t0.kind = k_min ∨ t0.kind = k_max ∨ t0.kind = k_reduce ∨ t0.kind = k_each)
    (hne : ((deepP (d + 1) (t0 :: r0)).bind fun _ ts => (stepP false ts).bind fun _ ts1 => (takeP s_lp ts1).bind fun _ ts2 => formP F (curK ts) (d + 1) ts2) ≠ .out) :
    Cl Tryz.prog 149 #[.pointer (some ⟨pr, 0, none⟩), .int .i64 (d : Int)] w (OkRE ws A cw pr id ((deepP (d + 1) (t0 :: r0)).bind fun _ ts => (stepP false ts).bind fun _ ts1 => (takeP s_lp ts1).bind fun _ ts2 => formP F (curK ts) (d + 1) ts2) w) (fun _ _ => False) := by
  have X := Y.x
  have HB := X.ok hwb
  have hpl := h.pls X
  have hwd : IntKind.i64.wrap ((d : Int) + 1) = ((d + 1 : Nat) : Int) := w64 rfl (by omega) (by omega)
  obtain ⟨R, hR⟩ : ∃ R, R = (deepP (d + 1) (t0 :: r0)).bind fun _ ts => (stepP false ts).bind fun _ ts1 => (takeP s_lp ts1).bind fun _ ts2 => formP F (curK ts) (d + 1) ts2 := ⟨_, rfl⟩
  rw [← hR] at hne ⊢
  obtain ⟨hd1, hd2⟩ := deep_at Y C (d := d) hg hpl
  have hend : curK (t0 :: r0) ≠ k_end := by show t0.kind ≠ k_end; rcases hk with h | h | h | h <;> rw [h] <;> decide
  have hst := step_at hg.ends hg.ok hend
  have hrk : rKind t0 = t0.kind := (chk_ok hg.ok).1
  refine calls_ex (args := [.pointer (some ⟨pr, 0, none⟩), .int .i64 (d : Int)]) T.ok Tryz.func149 rfl rfl rfl rfl ?_
  have H := Hp.start (S := (· = pr)) (rq_ok h) (fun k hk => hk)
  clear h
  refine Sq.mk ?_
  ((conv => whnf); refine Al.hp H ?_; clear H; intro p4 _ H _)
  repeat' ((conv => whnf); first | (((with_reducible show Gd ..); first | (with_reducible first | refine Gd.t ?_ | refine Gd.f ?_ | (first | apply Gd.dec | apply Gd.beq | apply Gd.bne) <;> intro _ | refine Gd.not ?_) | refine Gd.t ?_ | refine Gd.f ?_ | apply Gd.var <;> intro _) <;> try (exfalso; omega)) | with_reducible refine Sq.mk ?_ | ((with_reducible show Ld1 ..); first | refine Ld1.h H ?_ | refine Ld1.rF ?_ | refine Ld1.r ?_) | ((with_reducible show Ld ..); first | refine Ld.h H ?_ | refine Ld.r ?_) | ((with_reducible show Ix ..); first | refine Ix.h ?_ | refine Ix.ha ?_) | (refine St.h H ?_; clear H; intro _ H))
  (((conv => whnf); refine Cl.mk (deeper_r X d ⟨t0 :: r0, none⟩ _ (by omega) (H.base2 HB) (H.atC 1 rfl) (List.cons_ne_nil _ _)) ?_); rintro _ w3 ⟨rfl, H'⟩)
  by_cases h40 : d + 1 ≤ 40
  case neg =>
    obtain ⟨h1, h2⟩ := hd2 h40
    rw [h1] at hR
    replace hR : R = .err 144 (curT (t0 :: r0)).at_ := hR
    rw [if_neg h40, h2] at H'
    rw [decide_eq_false h40]
    replace H := H.upd (c := rq ws A cw pr ⟨t0 :: r0, none⟩) H' rfl (.inl rfl)
    clear H'
    repeat' ((conv => whnf); first | (((with_reducible show Gd ..); first | (with_reducible first | refine Gd.t ?_ | refine Gd.f ?_ | (first | apply Gd.dec | apply Gd.beq | apply Gd.bne) <;> intro _ | refine Gd.not ?_) | refine Gd.t ?_ | refine Gd.f ?_ | apply Gd.var <;> intro _) <;> try (exfalso; omega)) | with_reducible refine Sq.mk ?_ | ((with_reducible show Ld1 ..); first | refine Ld1.h H ?_ | refine Ld1.rF ?_ | refine Ld1.r ?_) | ((with_reducible show Ld ..); first | refine Ld.h H ?_ | refine Ld.r ?_) | ((with_reducible show Ix ..); first | refine Ix.h ?_ | refine Ix.ha ?_) | (refine St.h H ?_; clear H; intro _ H))
    refine ⟨.mk 0 0 0 [] [] none 0 [], _, rfl, ?_, by rw [hR]; exact Vl.err, Hp.trsZ 0 0 0 [] [] H.d0⟩
    rw [hR]; exact ⟨hg.ends, .inl rfl⟩
  rw [hd1 h40] at hR
  replace hR : R = ((stepP false (t0 :: r0)).and fun _ ts => takeP s_lp ts).bind fun _ ts2 => formP F t0.kind (d + 1) ts2 := by rw [hR, Res.and_bind]; rfl
  rw [if_pos h40] at H'
  rw [decide_eq_true h40]
  replace H := H.upd (c := rq ws A cw pr ⟨t0 :: r0, none⟩) H' rfl (.inl rfl)
  clear H'
  repeat' ((conv => whnf); first | (((with_reducible show Gd ..); first | (with_reducible first | refine Gd.t ?_ | refine Gd.f ?_ | (first | apply Gd.dec | apply Gd.beq | apply Gd.bne) <;> intro _ | refine Gd.not ?_) | refine Gd.t ?_ | refine Gd.f ?_ | apply Gd.var <;> intro _) <;> try (exfalso; omega)) | with_reducible refine Sq.mk ?_ | ((with_reducible show Ld1 ..); first | refine Ld1.h H ?_ | refine Ld1.rF ?_ | refine Ld1.r ?_) | ((with_reducible show Ld ..); first | refine Ld.h H ?_ | refine Ld.r ?_) | ((with_reducible show Ix ..); first | refine Ix.h ?_ | refine Ix.ha ?_) | (refine St.h H ?_; clear H; intro _ H))
  (((conv => whnf); refine Cl.mk (next_r X ⟨t0 :: r0, none⟩ _ (H.base2 HB) (H.atC 1 rfl) (List.cons_ne_nil _ _)) ?_); rintro _ _ ⟨rfl, hx⟩; replace H := H.ext hx; clear hx)
  ((conv => whnf); refine Al.hp H ?_; clear H; intro p6 _ H _)
  repeat' ((conv => whnf); first | (((with_reducible show Gd ..); first | (with_reducible first | refine Gd.t ?_ | refine Gd.f ?_ | (first | apply Gd.dec | apply Gd.beq | apply Gd.bne) <;> intro _ | refine Gd.not ?_) | refine Gd.t ?_ | refine Gd.f ?_ | apply Gd.var <;> intro _) <;> try (exfalso; omega)) | with_reducible refine Sq.mk ?_ | ((with_reducible show Ld1 ..); first | refine Ld1.h H ?_ | refine Ld1.rF ?_ | refine Ld1.r ?_) | ((with_reducible show Ld ..); first | refine Ld.h H ?_ | refine Ld.r ?_) | ((with_reducible show Ix ..); first | refine Ix.h ?_ | refine Ix.ha ?_) | (refine St.h H ?_; clear H; intro _ H))
  (obtain ⟨j, hj1, hj2, hb0⟩ := H.atC (c := rq ws A cw pr (⟨t0 :: r0, none⟩)) 2 rfl; have hjl := X.lt hj1 (by first | exact List.cons_ne_nil _ _ | assumption); replace H := Hp.ofQ H hb0; clear hb0)
  repeat' ((conv => whnf); first | (((with_reducible show Gd ..); first | (with_reducible first | refine Gd.t ?_ | refine Gd.f ?_ | (first | apply Gd.dec | apply Gd.beq | apply Gd.bne) <;> intro _ | refine Gd.not ?_) | refine Gd.t ?_ | refine Gd.f ?_ | apply Gd.var <;> intro _) <;> try (exfalso; omega)) | with_reducible refine Sq.mk ?_ | ((with_reducible show Ld1 ..); first | refine Ld1.h H ?_ | refine Ld1.rF ?_ | refine Ld1.r ?_) | ((with_reducible show Ld ..); first | refine Ld.h H ?_ | refine Ld.r ?_) | ((with_reducible show Ix ..); first | refine Ix.h ?_ | refine Ix.ha ?_) | (refine St.h H ?_; clear H; intro _ H))
  (have hwj : IntKind.i64.wrap ((j : Int) + 1) = ((j + 1 : Nat) : Int) := w64 rfl (by omega) (by omega); rw [hwj] at H; replace H := Hp.toQ (pr := pr) (s := ⟨r0, none⟩) (k := j + 1) H (List.tail_drop.symm.trans (congrArg List.tail hj1)) (fun e p h => by cases h); clear hwj hj1 hj2 hjl)
  (((conv => whnf); refine Cl.mk (takeRR Y C s_lp (stepP false (t0 :: r0)) ⟨r0, none⟩ _ (H.base2 HB) (H.atC 2 rfl) hst (by decide) (by decide) (by decide)) ?_); rintro _ w3 ⟨kd_, pp_, tx0, ee_, s1, rfl, ha1, hv1, H'⟩; replace H := H.upd (c := rq ws A cw pr ⟨r0, none⟩) H' rfl (.inl rfl); clear H')
  by_cases hrd : t0.kind = k_reduce
  · have hrd2 : rKind (curT (⟨t0 :: r0, none⟩ : RS).ts) = k_reduce := hrk.trans hrd
    repeat' ((conv => whnf); first | ((with_reducible show Gd (bs _ == _) _ _); first | refine Gd.sY (by assumption) ?_ | refine Gd.sk (by assumption) ?_ | refine Gd.sN (by assumption) ?_) | ((conv => whnf); first | (((with_reducible show Gd ..); first | (with_reducible first | refine Gd.t ?_ | refine Gd.f ?_ | (first | apply Gd.dec | apply Gd.beq | apply Gd.bne) <;> intro _ | refine Gd.not ?_) | refine Gd.t ?_ | refine Gd.f ?_ | apply Gd.var <;> intro _) <;> try (exfalso; omega)) | with_reducible refine Sq.mk ?_ | ((with_reducible show Ld1 ..); first | refine Ld1.h H ?_ | refine Ld1.rF ?_ | refine Ld1.r ?_) | ((with_reducible show Ld ..); first | refine Ld.h H ?_ | refine Ld.r ?_) | ((with_reducible show Ix ..); first | refine Ix.h ?_ | refine Ix.ha ?_) | (refine St.h H ?_; clear H; intro _ H)) | refine Sm.strix T.ok ?_)
    generalize hR1 : ((stepP false (t0 :: r0)).and fun _ ts => takeP s_lp ts) = R1 at ha1 hv1 hR
    (((conv => whnf); refine Cl.mk (takeRR Y C k_name (R1) s1 _ (H.base2 HB) (H.atC 2 rfl) ha1 (by decide) (by decide) (by decide)) ?_); rintro _ w3 ⟨kd_, pp_, tx1, ee_, s2, rfl, ha2, hv2, H'⟩; replace H := H.upd (c := rq ws A cw pr s1) H' rfl (.inl rfl); clear H')
    ((conv => whnf); refine Al.hp H ?_; clear H; intro p7 _ H _)
    repeat' ((conv => whnf); first | ((with_reducible show Gd (bs _ == _) _ _); first | refine Gd.sY (by assumption) ?_ | refine Gd.sk (by assumption) ?_ | refine Gd.sN (by assumption) ?_) | ((conv => whnf); first | (((with_reducible show Gd ..); first | (with_reducible first | refine Gd.t ?_ | refine Gd.f ?_ | (first | apply Gd.dec | apply Gd.beq | apply Gd.bne) <;> intro _ | refine Gd.not ?_) | refine Gd.t ?_ | refine Gd.f ?_ | apply Gd.var <;> intro _) <;> try (exfalso; omega)) | with_reducible refine Sq.mk ?_ | ((with_reducible show Ld1 ..); first | refine Ld1.h H ?_ | refine Ld1.rF ?_ | refine Ld1.r ?_) | ((with_reducible show Ld ..); first | refine Ld.h H ?_ | refine Ld.r ?_) | ((with_reducible show Ix ..); first | refine Ix.h ?_ | refine Ix.ha ?_) | (refine St.h H ?_; clear H; intro _ H)) | refine Sm.strix T.ok ?_)
    generalize hR2 : (R1.and fun _ ts => takeP k_name ts) = R2 at ha2 hv2
    (((conv => whnf); refine Cl.mk (takeRR Y C s_comma (R2) s2 _ (H.base2 HB) (H.atC 3 rfl) ha2 (by decide) (by decide) (by decide)) ?_); rintro _ w3 ⟨kd_, pp_, tx2, ee_, s3, rfl, ha3, hv3, H'⟩; replace H := H.upd (c := rq ws A cw pr s2) H' rfl (.inl rfl); clear H')
    repeat' ((conv => whnf); first | ((with_reducible show Gd (bs _ == _) _ _); first | refine Gd.sY (by assumption) ?_ | refine Gd.sk (by assumption) ?_ | refine Gd.sN (by assumption) ?_) | ((conv => whnf); first | (((with_reducible show Gd ..); first | (with_reducible first | refine Gd.t ?_ | refine Gd.f ?_ | (first | apply Gd.dec | apply Gd.beq | apply Gd.bne) <;> intro _ | refine Gd.not ?_) | refine Gd.t ?_ | refine Gd.f ?_ | apply Gd.var <;> intro _) <;> try (exfalso; omega)) | with_reducible refine Sq.mk ?_ | ((with_reducible show Ld1 ..); first | refine Ld1.h H ?_ | refine Ld1.rF ?_ | refine Ld1.r ?_) | ((with_reducible show Ld ..); first | refine Ld.h H ?_ | refine Ld.r ?_) | ((with_reducible show Ix ..); first | refine Ix.h ?_ | refine Ix.ha ?_) | (refine St.h H ?_; clear H; intro _ H)) | refine Sm.strix T.ok ?_)
    generalize hR3 : (R2.and fun _ ts => takeP s_comma ts) = R3 at ha3 hv3
    (((conv => whnf); refine Cl.mk (takeRR Y C k_name (R3) s3 _ (H.base2 HB) (H.atC 3 rfl) ha3 (by decide) (by decide) (by decide)) ?_); rintro _ w3 ⟨kd_, pp_, tx4, ee_, s4, rfl, ha4, hv4, H'⟩; replace H := H.upd (c := rq ws A cw pr s3) H' rfl (.inl rfl); clear H')
    ((conv => whnf); refine Al.hp H ?_; clear H; intro p8 _ H _)
    repeat' ((conv => whnf); first | ((with_reducible show Gd (bs _ == _) _ _); first | refine Gd.sY (by assumption) ?_ | refine Gd.sk (by assumption) ?_ | refine Gd.sN (by assumption) ?_) | ((conv => whnf); first | (((with_reducible show Gd ..); first | (with_reducible first | refine Gd.t ?_ | refine Gd.f ?_ | (first | apply Gd.dec | apply Gd.beq | apply Gd.bne) <;> intro _ | refine Gd.not ?_) | refine Gd.t ?_ | refine Gd.f ?_ | apply Gd.var <;> intro _) <;> try (exfalso; omega)) | with_reducible refine Sq.mk ?_ | ((with_reducible show Ld1 ..); first | refine Ld1.h H ?_ | refine Ld1.rF ?_ | refine Ld1.r ?_) | ((with_reducible show Ld ..); first | refine Ld.h H ?_ | refine Ld.r ?_) | ((with_reducible show Ix ..); first | refine Ix.h ?_ | refine Ix.ha ?_) | (refine St.h H ?_; clear H; intro _ H)) | refine Sm.strix T.ok ?_)
    generalize hR4 : (R3.and fun _ ts => takeP k_name ts) = R4 at ha4 hv4
    (((conv => whnf); refine Cl.mk (takeRR Y C s_comma (R4) s4 _ (H.base2 HB) (H.atC 4 rfl) ha4 (by decide) (by decide) (by decide)) ?_); rintro _ w3 ⟨kd_, pp_, tx5, ee_, s5, rfl, ha5, hv5, H'⟩; replace H := H.upd (c := rq ws A cw pr s4) H' rfl (.inl rfl); clear H')
    repeat' ((conv => whnf); first | ((with_reducible show Gd (bs _ == _) _ _); first | refine Gd.sY (by assumption) ?_ | refine Gd.sk (by assumption) ?_ | refine Gd.sN (by assumption) ?_) | ((conv => whnf); first | (((with_reducible show Gd ..); first | (with_reducible first | refine Gd.t ?_ | refine Gd.f ?_ | (first | apply Gd.dec | apply Gd.beq | apply Gd.bne) <;> intro _ | refine Gd.not ?_) | refine Gd.t ?_ | refine Gd.f ?_ | apply Gd.var <;> intro _) <;> try (exfalso; omega)) | with_reducible refine Sq.mk ?_ | ((with_reducible show Ld1 ..); first | refine Ld1.h H ?_ | refine Ld1.rF ?_ | refine Ld1.r ?_) | ((with_reducible show Ld ..); first | refine Ld.h H ?_ | refine Ld.r ?_) | ((with_reducible show Ix ..); first | refine Ix.h ?_ | refine Ix.ha ?_) | (refine St.h H ?_; clear H; intro _ H)) | refine Sm.strix T.ok ?_)
    generalize hR5 : (R4.and fun _ ts => takeP s_comma ts) = R5 at ha5 hv5
    have hls := fun w => listed_r Y C R5 3 (d + 1) s5 w (by omega) (by omega)
    have hRf : R = (R5.and fun _ ts => kidsP F (d + 1) 3 3 [] ts).map (fun p => Ex.mk 6 0 0 p.1.1.1.1.2.text p.1.1.2.text p.2) := by
      rw [hR, ← hR5, ← hR4, ← hR3, ← hR2]
      simp only [Res.map, Res.and_bind, formP, if_pos hrd]
    rw [← hwd] at hls
    ((conv => whnf); refine Cl.mk (hls _ (H.base2 HB) (H.atC 4 rfl) ha5 (Res.map_out (by rw [← hRf]; exact hne))) ?_)
    rintro _ w4 ⟨B, c, l, s6, rfl, ha6, hv6, hlen, H'⟩
    replace H' := Hp.trsN 6 0 0 tx1 tx4 H'
    replace H := H.updn (c := rq ws A cw pr s5) (Hp.swap H') rfl (.inl rfl) (.inl rfl)
    clear H'
    repeat' ((conv => whnf); first | ((with_reducible show Gd (bs _ == _) _ _); first | refine Gd.sY (by assumption) ?_ | refine Gd.sk (by assumption) ?_ | refine Gd.sN (by assumption) ?_) | ((conv => whnf); first | (((with_reducible show Gd ..); first | (with_reducible first | refine Gd.t ?_ | refine Gd.f ?_ | (first | apply Gd.dec | apply Gd.beq | apply Gd.bne) <;> intro _ | refine Gd.not ?_) | refine Gd.t ?_ | refine Gd.f ?_ | apply Gd.var <;> intro _) <;> try (exfalso; omega)) | with_reducible refine Sq.mk ?_ | ((with_reducible show Ld1 ..); first | refine Ld1.h H ?_ | refine Ld1.rF ?_ | refine Ld1.r ?_) | ((with_reducible show Ld ..); first | refine Ld.h H ?_ | refine Ld.r ?_) | ((with_reducible show Ix ..); first | refine Ix.h ?_ | refine Ix.ha ?_) | (refine St.h H ?_; clear H; intro _ H)) | refine Sm.strix T.ok ?_)
    subst hR5 hR4 hR3 hR2
    refine ⟨.mk 6 0 0 tx1 tx4 B c l, s6, rfl, by rw [hRf]; exact ha6.map _, ?_, H.sel [0, 4] rfl⟩
    rw [hRf]
    refine Vl.map (Vl.mono2 (Vl.mono2 hv6 (Vl.fst (Vl.fst (Vl.fst (Vl.fst hv2)))) fun a h1 h2 => And.intro h1 h2) (Vl.fst (Vl.fst hv4)) fun a h1 h2 => ?_)
    simp only [ET.e, id]
    rw [h1.1, h1.2, h2]
  · have hrd2 : ¬ rKind (curT (⟨t0 :: r0, none⟩ : RS).ts) = k_reduce := fun h => hrd (hrk.symm.trans h)
    by_cases hea : t0.kind = k_each
    · have hea2 : rKind (curT (⟨t0 :: r0, none⟩ : RS).ts) = k_each := hrk.trans hea
      repeat' ((conv => whnf); first | ((with_reducible show Gd (bs _ == _) _ _); first | refine Gd.sY (by assumption) ?_ | refine Gd.sk (by assumption) ?_ | refine Gd.sN (by assumption) ?_) | ((conv => whnf); first | (((with_reducible show Gd ..); first | (with_reducible first | refine Gd.t ?_ | refine Gd.f ?_ | (first | apply Gd.dec | apply Gd.beq | apply Gd.bne) <;> intro _ | refine Gd.not ?_) | refine Gd.t ?_ | refine Gd.f ?_ | apply Gd.var <;> intro _) <;> try (exfalso; omega)) | with_reducible refine Sq.mk ?_ | ((with_reducible show Ld1 ..); first | refine Ld1.h H ?_ | refine Ld1.rF ?_ | refine Ld1.r ?_) | ((with_reducible show Ld ..); first | refine Ld.h H ?_ | refine Ld.r ?_) | ((with_reducible show Ix ..); first | refine Ix.h ?_ | refine Ix.ha ?_) | (refine St.h H ?_; clear H; intro _ H)) | refine Sm.strix T.ok ?_)
      generalize hR1 : ((stepP false (t0 :: r0)).and fun _ ts => takeP s_lp ts) = R1 at ha1 hv1 hR
      (((conv => whnf); refine Cl.mk (takeRR Y C k_name (R1) s1 _ (H.base2 HB) (H.atC 2 rfl) ha1 (by decide) (by decide) (by decide)) ?_); rintro _ w3 ⟨kd_, pp_, tx1, ee_, s2, rfl, ha2, hv2, H'⟩; replace H := H.upd (c := rq ws A cw pr s1) H' rfl (.inl rfl); clear H')
      ((conv => whnf); refine Al.hp H ?_; clear H; intro p7 _ H _)
      repeat' ((conv => whnf); first | ((with_reducible show Gd (bs _ == _) _ _); first | refine Gd.sY (by assumption) ?_ | refine Gd.sk (by assumption) ?_ | refine Gd.sN (by assumption) ?_) | ((conv => whnf); first | (((with_reducible show Gd ..); first | (with_reducible first | refine Gd.t ?_ | refine Gd.f ?_ | (first | apply Gd.dec | apply Gd.beq | apply Gd.bne) <;> intro _ | refine Gd.not ?_) | refine Gd.t ?_ | refine Gd.f ?_ | apply Gd.var <;> intro _) <;> try (exfalso; omega)) | with_reducible refine Sq.mk ?_ | ((with_reducible show Ld1 ..); first | refine Ld1.h H ?_ | refine Ld1.rF ?_ | refine Ld1.r ?_) | ((with_reducible show Ld ..); first | refine Ld.h H ?_ | refine Ld.r ?_) | ((with_reducible show Ix ..); first | refine Ix.h ?_ | refine Ix.ha ?_) | (refine St.h H ?_; clear H; intro _ H)) | refine Sm.strix T.ok ?_)
      generalize hR2 : (R1.and fun _ ts => takeP k_name ts) = R2 at ha2 hv2
      (((conv => whnf); refine Cl.mk (takeRR Y C s_comma (R2) s2 _ (H.base2 HB) (H.atC 3 rfl) ha2 (by decide) (by decide) (by decide)) ?_); rintro _ w3 ⟨kd_, pp_, tx2, ee_, s3, rfl, ha3, hv3, H'⟩; replace H := H.upd (c := rq ws A cw pr s2) H' rfl (.inl rfl); clear H')
      repeat' ((conv => whnf); first | ((with_reducible show Gd (bs _ == _) _ _); first | refine Gd.sY (by assumption) ?_ | refine Gd.sk (by assumption) ?_ | refine Gd.sN (by assumption) ?_) | ((conv => whnf); first | (((with_reducible show Gd ..); first | (with_reducible first | refine Gd.t ?_ | refine Gd.f ?_ | (first | apply Gd.dec | apply Gd.beq | apply Gd.bne) <;> intro _ | refine Gd.not ?_) | refine Gd.t ?_ | refine Gd.f ?_ | apply Gd.var <;> intro _) <;> try (exfalso; omega)) | with_reducible refine Sq.mk ?_ | ((with_reducible show Ld1 ..); first | refine Ld1.h H ?_ | refine Ld1.rF ?_ | refine Ld1.r ?_) | ((with_reducible show Ld ..); first | refine Ld.h H ?_ | refine Ld.r ?_) | ((with_reducible show Ix ..); first | refine Ix.h ?_ | refine Ix.ha ?_) | (refine St.h H ?_; clear H; intro _ H)) | refine Sm.strix T.ok ?_)
      generalize hR3 : (R2.and fun _ ts => takeP s_comma ts) = R3 at ha3 hv3
      have hls := fun w => listed_r Y C R3 2 (d + 1) s3 w (by omega) (by omega)
      have hRf : R = (R3.and fun _ ts => kidsP F (d + 1) 2 2 [] ts).map (fun p => Ex.mk 7 0 0 p.1.1.2.text [] p.2) := by
        rw [hR, ← hR3, ← hR2]
        simp only [Res.map, Res.and_bind, formP, if_neg hrd, if_pos hea]
      rw [← hwd] at hls
      ((conv => whnf); refine Cl.mk (hls _ (H.base2 HB) (H.atC 3 rfl) ha3 (Res.map_out (by rw [← hRf]; exact hne))) ?_)
      rintro _ w4 ⟨B, c, l, s6, rfl, ha6, hv6, hlen, H'⟩
      replace H' := Hp.trsN 7 0 0 tx1 [] H'
      replace H := H.updn (c := rq ws A cw pr s3) (Hp.swap H') rfl (.inl rfl) (.inl rfl)
      clear H'
      repeat' ((conv => whnf); first | ((with_reducible show Gd (bs _ == _) _ _); first | refine Gd.sY (by assumption) ?_ | refine Gd.sk (by assumption) ?_ | refine Gd.sN (by assumption) ?_) | ((conv => whnf); first | (((with_reducible show Gd ..); first | (with_reducible first | refine Gd.t ?_ | refine Gd.f ?_ | (first | apply Gd.dec | apply Gd.beq | apply Gd.bne) <;> intro _ | refine Gd.not ?_) | refine Gd.t ?_ | refine Gd.f ?_ | apply Gd.var <;> intro _) <;> try (exfalso; omega)) | with_reducible refine Sq.mk ?_ | ((with_reducible show Ld1 ..); first | refine Ld1.h H ?_ | refine Ld1.rF ?_ | refine Ld1.r ?_) | ((with_reducible show Ld ..); first | refine Ld.h H ?_ | refine Ld.r ?_) | ((with_reducible show Ix ..); first | refine Ix.h ?_ | refine Ix.ha ?_) | (refine St.h H ?_; clear H; intro _ H)) | refine Sm.strix T.ok ?_)
      subst hR3 hR2
      refine ⟨.mk 7 0 0 tx1 [] B c l, s6, rfl, by rw [hRf]; exact ha6.map _, ?_, H.sel [0, 3] rfl⟩
      rw [hRf]
      refine Vl.map (Vl.mono2 hv6 (Vl.fst (Vl.fst hv2)) fun a h1 h2 => ?_)
      simp only [ET.e, id]
      rw [h1, h2]
    · have hea2 : ¬ rKind (curT (⟨t0 :: r0, none⟩ : RS).ts) = k_each := fun h => hea (hrk.symm.trans h)
      repeat' ((conv => whnf); first | ((with_reducible show Gd (bs _ == _) _ _); first | refine Gd.sY (by assumption) ?_ | refine Gd.sk (by assumption) ?_ | refine Gd.sN (by assumption) ?_) | ((conv => whnf); first | (((with_reducible show Gd ..); first | (with_reducible first | refine Gd.t ?_ | refine Gd.f ?_ | (first | apply Gd.dec | apply Gd.beq | apply Gd.bne) <;> intro _ | refine Gd.not ?_) | refine Gd.t ?_ | refine Gd.f ?_ | apply Gd.var <;> intro _) <;> try (exfalso; omega)) | with_reducible refine Sq.mk ?_ | ((with_reducible show Ld1 ..); first | refine Ld1.h H ?_ | refine Ld1.rF ?_ | refine Ld1.r ?_) | ((with_reducible show Ld ..); first | refine Ld.h H ?_ | refine Ld.r ?_) | ((with_reducible show Ix ..); first | refine Ix.h ?_ | refine Ix.ha ?_) | (refine St.h H ?_; clear H; intro _ H)) | refine Sm.strix T.ok ?_)
      generalize hR1 : ((stepP false (t0 :: r0)).and fun _ ts => takeP s_lp ts) = R1 at ha1 hv1 hR
      have hls := fun w => listed_r Y C R1 2 (d + 1) s1 w (by omega) (by omega)
      have hRf : R = (R1.and fun _ ts => kidsP F (d + 1) 2 2 [] ts).map (fun p => Ex.mk 4 (findOp t0.kind) 0 [] [] p.2) := by
        rw [hR]
        simp only [Res.map, Res.and_bind, formP, if_neg hrd, if_neg hea]
      rw [← hwd] at hls
      ((conv => whnf); refine Cl.mk (hls _ (H.base2 HB) (H.atC 2 rfl) ha1 (Res.map_out (by rw [← hRf]; exact hne))) ?_)
      rintro _ w4 ⟨B, c, l, s6, rfl, ha6, hv6, hlen, H'⟩
      have hop : opR t0.kind = findOp t0.kind := op_known (by rcases hk with h | h | h | h; (rw [h]; decide); (rw [h]; decide); exact absurd h hrd; exact absurd h hea)
      replace H' := Hp.trsN 4 (opR t0.kind) 0 [] [] H'
      replace H := H.updn (c := rq ws A cw pr s1) (Hp.swap H') rfl (.inl rfl) (.inl rfl)
      clear H'
      repeat' ((conv => whnf); first | ((with_reducible show Gd (bs _ == _) _ _); first | refine Gd.sY (by assumption) ?_ | refine Gd.sk (by assumption) ?_ | refine Gd.sN (by assumption) ?_) | ((conv => whnf); first | (((with_reducible show Gd ..); first | (with_reducible first | refine Gd.t ?_ | refine Gd.f ?_ | (first | apply Gd.dec | apply Gd.beq | apply Gd.bne) <;> intro _ | refine Gd.not ?_) | refine Gd.t ?_ | refine Gd.f ?_ | apply Gd.var <;> intro _) <;> try (exfalso; omega)) | with_reducible refine Sq.mk ?_ | ((with_reducible show Ld1 ..); first | refine Ld1.h H ?_ | refine Ld1.rF ?_ | refine Ld1.r ?_) | ((with_reducible show Ld ..); first | refine Ld.h H ?_ | refine Ld.r ?_) | ((with_reducible show Ix ..); first | refine Ix.h ?_ | refine Ix.ha ?_) | (refine St.h H ?_; clear H; intro _ H)) | refine Sm.strix T.ok ?_)
      (((conv => whnf); refine Cl.mk (operation_r (rKind t0) _) ?_); rintro _ _ ⟨rfl, hx⟩; replace H := H.ext hx; clear hx)
      rw [hrk]
      repeat' ((conv => whnf); first | ((with_reducible show Gd (bs _ == _) _ _); first | refine Gd.sY (by assumption) ?_ | refine Gd.sk (by assumption) ?_ | refine Gd.sN (by assumption) ?_) | ((conv => whnf); first | (((with_reducible show Gd ..); first | (with_reducible first | refine Gd.t ?_ | refine Gd.f ?_ | (first | apply Gd.dec | apply Gd.beq | apply Gd.bne) <;> intro _ | refine Gd.not ?_) | refine Gd.t ?_ | refine Gd.f ?_ | apply Gd.var <;> intro _) <;> try (exfalso; omega)) | with_reducible refine Sq.mk ?_ | ((with_reducible show Ld1 ..); first | refine Ld1.h H ?_ | refine Ld1.rF ?_ | refine Ld1.r ?_) | ((with_reducible show Ld ..); first | refine Ld.h H ?_ | refine Ld.r ?_) | ((with_reducible show Ix ..); first | refine Ix.h ?_ | refine Ix.ha ?_) | (refine St.h H ?_; clear H; intro _ H)) | refine Sm.strix T.ok ?_)
      refine ⟨.mk 4 (opR t0.kind) 0 [] [] B c l, s6, rfl, by rw [hRf]; exact ha6.map _, ?_, H.sel [0, 2] rfl⟩
      rw [hRf]
      refine Vl.map (hv6.mono fun a h1 => ?_)
      simp only [ET.e, id]
      rw [h1, hop]
set_option maxHeartbeats 8000000 in
theorem primary_r (d : Nat) (ts : List Tk) (w : World) (hd : d ≤ 41) (hwb : Ext wb w) (h : RdQ ws A cw pr ⟨ts, none⟩ w) (hg : Gdw ts) (hne : primaryP F d ts ≠ .out) :
    Cl Tryz.prog 141 #[.pointer (some ⟨pr, 0, none⟩), .int .i64 (d : Int)] w (OkRE ws A cw pr id (primaryP F d ts) w) (fun _ _ => False) := by
  have X := Y.x
  have HB := X.ok hwb
  have hpl := h.pls X
  have hmem := h.mem
  have hwd : IntKind.i64.wrap ((d : Int) + 1) = ((d + 1 : Nat) : Int) := w64 rfl (by omega) (by omega)
  obtain ⟨t0, r0, rfl⟩ : ∃ t0 r0, ts = t0 :: r0 := by
    cases ts with
    | nil => exact absurd rfl (ends_ne hg.ends)
    | cons t0 r0 => exact ⟨t0, r0, rfl⟩
  obtain ⟨R, hR⟩ : ∃ R, R = primaryP F d (t0 :: r0) := ⟨_, rfl⟩
  rw [← hR] at hne ⊢
  unfold primaryP at hR
  rw [show curK (t0 :: r0) = t0.kind from rfl, show curT (t0 :: r0) = t0 from rfl] at hR
  have hrk : rKind (curT (⟨t0 :: r0, none⟩ : RS).ts) = t0.kind := (chk_ok hg.ok).1
  have herr : t0.err = 0 := (chk_ok hg.ok).2.1
  have htx : rText src t0 = t0.text := by unfold rText; rw [if_neg (by rw [herr]; decide)]
  refine calls_ex (args := [.pointer (some ⟨pr, 0, none⟩), .int .i64 (d : Int)]) T.ok Tryz.func141 rfl rfl rfl rfl ?_
  have H := Hp.start (S := (· = pr)) (rq_ok h) (fun k hk => hk)
  have h0 := h
  clear h
  refine Sq.mk ?_
  ((conv => whnf); refine Al.hp H ?_; clear H; intro p4 _ H _)
  repeat' ((conv => whnf); first | (((with_reducible show Gd ..); first | (with_reducible first | refine Gd.t ?_ | refine Gd.f ?_ | (first | apply Gd.dec | apply Gd.beq | apply Gd.bne) <;> intro _ | refine Gd.not ?_) | refine Gd.t ?_ | refine Gd.f ?_ | apply Gd.var <;> intro _) <;> try (exfalso; omega)) | with_reducible refine Sq.mk ?_ | ((with_reducible show Ld1 ..); first | refine Ld1.h H ?_ | refine Ld1.rF ?_ | refine Ld1.r ?_) | ((with_reducible show Ld ..); first | refine Ld.h H ?_ | refine Ld.r ?_) | ((with_reducible show Ix ..); first | refine Ix.h ?_ | refine Ix.ha ?_) | (refine St.h H ?_; clear H; intro _ H))
  (((conv => whnf); refine Cl.mk (fine_r X ⟨t0 :: r0, none⟩ _ (H.atC 1 rfl)) ?_); rintro _ _ ⟨rfl, hx⟩; replace H := H.ext hx; clear hx)
  repeat' ((conv => whnf); first | (((with_reducible show Gd ..); first | (with_reducible first | refine Gd.t ?_ | refine Gd.f ?_ | (first | apply Gd.dec | apply Gd.beq | apply Gd.bne) <;> intro _ | refine Gd.not ?_) | refine Gd.t ?_ | refine Gd.f ?_ | apply Gd.var <;> intro _) <;> try (exfalso; omega)) | with_reducible refine Sq.mk ?_ | ((with_reducible show Ld1 ..); first | refine Ld1.h H ?_ | refine Ld1.rF ?_ | refine Ld1.r ?_) | ((with_reducible show Ld ..); first | refine Ld.h H ?_ | refine Ld.r ?_) | ((with_reducible show Ix ..); first | refine Ix.h ?_ | refine Ix.ha ?_) | (refine St.h H ?_; clear H; intro _ H))
  (((conv => whnf); refine Cl.mk (next_r X ⟨t0 :: r0, none⟩ _ (H.base2 HB) (H.atC 1 rfl) (List.cons_ne_nil _ _)) ?_); rintro _ _ ⟨rfl, hx⟩; replace H := H.ext hx; clear hx)
  ((conv => whnf); refine Al.hp H ?_; clear H; intro p5 _ H _)
  by_cases c1 : t0.kind = k_number
  · have q1 := hrk.trans c1
    rw [if_pos c1] at hR
    have hst := step_at hg.ends hg.ok (by show t0.kind ≠ k_end; rw [c1]; decide)
    obtain ⟨n1, n2, n3, n4⟩ := Y.num t0 (hmem t0 (by simp)) c1 herr
    have hnl : ¬ t0.n = -9223372036854775808 := fun h => (chk_ok hg.ok).2.2 ⟨c1, h⟩
    have hval := fun w => value_r t0.text w n1 n3 n4
    rw [← htx] at hval
    have hK : IntKind.i64.wrap (val (rText src t0) : Int) = negW t0.n := by
      rw [htx]
      unfold negW
      rw [if_neg hnl, n2]
      exact w64 (by omega) (by omega) (by omega)
    replace hR : R = (stepP false (t0 :: r0)).map fun _ => Ex.mk 0 0 (negW t0.n) [] [] [] := hR
    repeat' ((conv => whnf); first | ((with_reducible show Gd (bs _ == _) _ _); first | refine Gd.sY (by assumption) ?_ | refine Gd.sk (by assumption) ?_ | refine Gd.sN (by assumption) ?_) | ((conv => whnf); first | (((with_reducible show Gd ..); first | (with_reducible first | refine Gd.t ?_ | refine Gd.f ?_ | (first | apply Gd.dec | apply Gd.beq | apply Gd.bne) <;> intro _ | refine Gd.not ?_) | refine Gd.t ?_ | refine Gd.f ?_ | apply Gd.var <;> intro _) <;> try (exfalso; omega)) | with_reducible refine Sq.mk ?_ | ((with_reducible show Ld1 ..); first | refine Ld1.h H ?_ | refine Ld1.rF ?_ | refine Ld1.r ?_) | ((with_reducible show Ld ..); first | refine Ld.h H ?_ | refine Ld.r ?_) | ((with_reducible show Ix ..); first | refine Ix.h ?_ | refine Ix.ha ?_) | (refine St.h H ?_; clear H; intro _ H)) | refine Sm.strix T.ok ?_)
    (obtain ⟨j, hj1, hj2, hb0⟩ := H.atC (c := rq ws A cw pr (⟨t0 :: r0, none⟩)) 2 rfl; have hjl := X.lt hj1 (by first | exact List.cons_ne_nil _ _ | assumption); replace H := Hp.ofQ H hb0; clear hb0)
    repeat' ((conv => whnf); first | ((with_reducible show Gd (bs _ == _) _ _); first | refine Gd.sY (by assumption) ?_ | refine Gd.sk (by assumption) ?_ | refine Gd.sN (by assumption) ?_) | ((conv => whnf); first | (((with_reducible show Gd ..); first | (with_reducible first | refine Gd.t ?_ | refine Gd.f ?_ | (first | apply Gd.dec | apply Gd.beq | apply Gd.bne) <;> intro _ | refine Gd.not ?_) | refine Gd.t ?_ | refine Gd.f ?_ | apply Gd.var <;> intro _) <;> try (exfalso; omega)) | with_reducible refine Sq.mk ?_ | ((with_reducible show Ld1 ..); first | refine Ld1.h H ?_ | refine Ld1.rF ?_ | refine Ld1.r ?_) | ((with_reducible show Ld ..); first | refine Ld.h H ?_ | refine Ld.r ?_) | ((with_reducible show Ix ..); first | refine Ix.h ?_ | refine Ix.ha ?_) | (refine St.h H ?_; clear H; intro _ H)) | refine Sm.strix T.ok ?_)
    (have hwj : IntKind.i64.wrap ((j : Int) + 1) = ((j + 1 : Nat) : Int) := w64 rfl (by omega) (by omega); rw [hwj] at H; replace H := Hp.toQ (pr := pr) (s := ⟨r0, none⟩) (k := j + 1) H (List.tail_drop.symm.trans (congrArg List.tail hj1)) (fun e p h => by cases h); clear hwj hj1 hj2 hjl)
    (((conv => whnf); refine Cl.mk (hval _) ?_); rintro _ _ ⟨rfl, hx⟩; replace H := H.ext hx; clear hx)
    rw [hK]
    repeat' ((conv => whnf); first | ((with_reducible show Gd (bs _ == _) _ _); first | refine Gd.sY (by assumption) ?_ | refine Gd.sk (by assumption) ?_ | refine Gd.sN (by assumption) ?_) | ((conv => whnf); first | (((with_reducible show Gd ..); first | (with_reducible first | refine Gd.t ?_ | refine Gd.f ?_ | (first | apply Gd.dec | apply Gd.beq | apply Gd.bne) <;> intro _ | refine Gd.not ?_) | refine Gd.t ?_ | refine Gd.f ?_ | apply Gd.var <;> intro _) <;> try (exfalso; omega)) | with_reducible refine Sq.mk ?_ | ((with_reducible show Ld1 ..); first | refine Ld1.h H ?_ | refine Ld1.rF ?_ | refine Ld1.r ?_) | ((with_reducible show Ld ..); first | refine Ld.h H ?_ | refine Ld.r ?_) | ((with_reducible show Ix ..); first | refine Ix.h ?_ | refine Ix.ha ?_) | (refine St.h H ?_; clear H; intro _ H)) | refine Sm.strix T.ok ?_)
    refine ⟨.mk 0 0 (negW t0.n) [] [] none 0 [], _, rfl, by rw [hR]; exact hst.map _, ?_, Hp.trsZ 0 0 (negW t0.n) [] [] H.d0.d0⟩
    rw [hR]
    exact Vl.map (g := fun _ => Ex.mk 0 0 (negW t0.n) [] [] []) (fun _ _ _ => rfl)
  have q1 : ¬ rKind (curT (⟨t0 :: r0, none⟩ : RS).ts) = k_number := fun h => c1 (hrk.symm.trans h)
  rw [if_neg c1] at hR
  by_cases c2 : t0.kind = k_name
  · have q2 := hrk.trans c2
    rw [if_pos c2] at hR
    have hst := step_at hg.ends hg.ok (by show t0.kind ≠ k_end; rw [c2]; decide)
    repeat' ((conv => whnf); first | ((with_reducible show Gd (bs _ == _) _ _); first | refine Gd.sY (by assumption) ?_ | refine Gd.sk (by assumption) ?_ | refine Gd.sN (by assumption) ?_) | ((conv => whnf); first | (((with_reducible show Gd ..); first | (with_reducible first | refine Gd.t ?_ | refine Gd.f ?_ | (first | apply Gd.dec | apply Gd.beq | apply Gd.bne) <;> intro _ | refine Gd.not ?_) | refine Gd.t ?_ | refine Gd.f ?_ | apply Gd.var <;> intro _) <;> try (exfalso; omega)) | with_reducible refine Sq.mk ?_ | ((with_reducible show Ld1 ..); first | refine Ld1.h H ?_ | refine Ld1.rF ?_ | refine Ld1.r ?_) | ((with_reducible show Ld ..); first | refine Ld.h H ?_ | refine Ld.r ?_) | ((with_reducible show Ix ..); first | refine Ix.h ?_ | refine Ix.ha ?_) | (refine St.h H ?_; clear H; intro _ H)) | refine Sm.strix T.ok ?_)
    (obtain ⟨j, hj1, hj2, hb0⟩ := H.atC (c := rq ws A cw pr (⟨t0 :: r0, none⟩)) 2 rfl; have hjl := X.lt hj1 (by first | exact List.cons_ne_nil _ _ | assumption); replace H := Hp.ofQ H hb0; clear hb0)
    repeat' ((conv => whnf); first | ((with_reducible show Gd (bs _ == _) _ _); first | refine Gd.sY (by assumption) ?_ | refine Gd.sk (by assumption) ?_ | refine Gd.sN (by assumption) ?_) | ((conv => whnf); first | (((with_reducible show Gd ..); first | (with_reducible first | refine Gd.t ?_ | refine Gd.f ?_ | (first | apply Gd.dec | apply Gd.beq | apply Gd.bne) <;> intro _ | refine Gd.not ?_) | refine Gd.t ?_ | refine Gd.f ?_ | apply Gd.var <;> intro _) <;> try (exfalso; omega)) | with_reducible refine Sq.mk ?_ | ((with_reducible show Ld1 ..); first | refine Ld1.h H ?_ | refine Ld1.rF ?_ | refine Ld1.r ?_) | ((with_reducible show Ld ..); first | refine Ld.h H ?_ | refine Ld.r ?_) | ((with_reducible show Ix ..); first | refine Ix.h ?_ | refine Ix.ha ?_) | (refine St.h H ?_; clear H; intro _ H)) | refine Sm.strix T.ok ?_)
    (have hwj : IntKind.i64.wrap ((j : Int) + 1) = ((j + 1 : Nat) : Int) := w64 rfl (by omega) (by omega); rw [hwj] at H; replace H := Hp.toQ (pr := pr) (s := ⟨r0, none⟩) (k := j + 1) H (List.tail_drop.symm.trans (congrArg List.tail hj1)) (fun e p h => by cases h); clear hwj hj1 hj2 hjl)
    have hst2 : AtR (stepP false (t0 :: r0)) ⟨r0, none⟩ := hst
    (((conv => whnf); refine Cl.mk (is_r X s_lp ⟨r0, none⟩ _ (H.base2 HB) (H.atC 2 rfl) (ends_ne hst2.ends)) ?_); rintro _ _ ⟨rfl, hx⟩; replace H := H.ext hx; clear hx)
    by_cases hlp : isR s_lp ⟨r0, none⟩ = true
    case neg =>
      rw [Bool.eq_false_iff.2 hlp]
      replace hR : R = (stepP false (t0 :: r0)).map fun _ => Ex.mk 1 0 0 t0.text [] [] := by
        rw [hR]
        cases hx : stepP false (t0 :: r0) with
        | out => rfl
        | err e p => rfl
        | ok a ts1 =>
          rw [hx] at hst2
          rw [is_ok hst2] at hlp
          have hk : curK ts1 ≠ s_lp := by simpa using hlp
          show (if curK ts1 ≠ s_lp then _ else _) = _
          rw [if_pos hk]; rfl
      repeat' ((conv => whnf); first | ((with_reducible show Gd (bs _ == _) _ _); first | refine Gd.sY (by assumption) ?_ | refine Gd.sk (by assumption) ?_ | refine Gd.sN (by assumption) ?_) | ((conv => whnf); first | (((with_reducible show Gd ..); first | (with_reducible first | refine Gd.t ?_ | refine Gd.f ?_ | (first | apply Gd.dec | apply Gd.beq | apply Gd.bne) <;> intro _ | refine Gd.not ?_) | refine Gd.t ?_ | refine Gd.f ?_ | apply Gd.var <;> intro _) <;> try (exfalso; omega)) | with_reducible refine Sq.mk ?_ | ((with_reducible show Ld1 ..); first | refine Ld1.h H ?_ | refine Ld1.rF ?_ | refine Ld1.r ?_) | ((with_reducible show Ld ..); first | refine Ld.h H ?_ | refine Ld.r ?_) | ((with_reducible show Ix ..); first | refine Ix.h ?_ | refine Ix.ha ?_) | (refine St.h H ?_; clear H; intro _ H)) | refine Sm.strix T.ok ?_)
      refine ⟨.mk 1 0 0 (rText src t0) [] none 0 [], _, rfl, by rw [hR]; exact hst2.map _, ?_, Hp.trsZ 1 0 0 (rText src t0) [] H.d0.d0⟩
      rw [hR]
      refine Vl.map (g := fun _ => Ex.mk 1 0 0 t0.text [] []) (fun _ _ _ => ?_)
      simp only [ET.e, ET.es, id]
      rw [htx]
    rw [hlp]
    obtain ⟨ts1, hx, rfl⟩ : ∃ ts1, stepP false (t0 :: r0) = .ok () ts1 ∧ ts1 = r0 := by
      cases hx : stepP false (t0 :: r0) with
      | out => rw [hx] at hR; exact absurd hR hne
      | err e p => rw [hx] at hst2; rw [is_err hst2 (by decide) (by decide)] at hlp; cases hlp
      | ok a ts1 =>
        rw [hx] at hst2
        have := hst2.gd.1
        simp only [RS.mk.injEq, and_true] at this
        exact ⟨ts1, rfl, this.symm⟩
    rw [hx] at hst2
    obtain ⟨_, hg1⟩ := hst2.gd
    rw [is_ok hst2] at hlp
    have hk1 : curK ts1 = s_lp := by simpa using hlp
    obtain ⟨t1, r1, rfl⟩ : ∃ t1 r1, ts1 = t1 :: r1 := by
      cases ts1 with
      | nil => exact absurd rfl (ends_ne hg1.ends)
      | cons t1 r1 => exact ⟨t1, r1, rfl⟩
    have hpl1 : Pls (t1 :: r1) := fun t ht => hpl t (List.mem_cons_of_mem _ ht)
    obtain ⟨hd1, hd2⟩ := deep_at Y C (d := d) hg1 hpl1
    have hst1 := step_at hg1.ends hg1.ok (by rw [hk1]; decide)
    rw [hx] at hR
    replace hR : R = (deepP (d + 1) (t1 :: r1)).bind fun _ ts1 => (stepP false ts1).bind fun _ ts2 => (argsP F (d + 1) (ts2.length + 1) [] ts2).bind fun l ts3 => .ok (.mk 5 0 0 t0.text [] l) ts3 := by
      rw [hR]
      show (if curK (t1 :: r1) ≠ s_lp then _ else _) = _
      rw [if_neg (fun h => h hk1)]
    repeat' ((conv => whnf); first | ((with_reducible show Gd (bs _ == _) _ _); first | refine Gd.sY (by assumption) ?_ | refine Gd.sk (by assumption) ?_ | refine Gd.sN (by assumption) ?_) | ((conv => whnf); first | (((with_reducible show Gd ..); first | (with_reducible first | refine Gd.t ?_ | refine Gd.f ?_ | (first | apply Gd.dec | apply Gd.beq | apply Gd.bne) <;> intro _ | refine Gd.not ?_) | refine Gd.t ?_ | refine Gd.f ?_ | apply Gd.var <;> intro _) <;> try (exfalso; omega)) | with_reducible refine Sq.mk ?_ | ((with_reducible show Ld1 ..); first | refine Ld1.h H ?_ | refine Ld1.rF ?_ | refine Ld1.r ?_) | ((with_reducible show Ld ..); first | refine Ld.h H ?_ | refine Ld.r ?_) | ((with_reducible show Ix ..); first | refine Ix.h ?_ | refine Ix.ha ?_) | (refine St.h H ?_; clear H; intro _ H)) | refine Sm.strix T.ok ?_)
    (((conv => whnf); refine Cl.mk (deeper_r X d ⟨t1 :: r1, none⟩ _ (by omega) (H.base2 HB) (H.atC 2 rfl) (List.cons_ne_nil _ _)) ?_); rintro _ w3 ⟨rfl, H'⟩)
    by_cases h40 : d + 1 ≤ 40
    case neg =>
      obtain ⟨g1, g2⟩ := hd2 h40
      rw [g1] at hR
      replace hR : R = .err 144 (curT (t1 :: r1)).at_ := hR
      rw [if_neg h40, g2] at H'
      rw [decide_eq_false h40]
      replace H := H.upd (c := rq ws A cw pr ⟨t1 :: r1, none⟩) H' rfl (.inl rfl)
      clear H'
      repeat' ((conv => whnf); first | ((with_reducible show Gd (bs _ == _) _ _); first | refine Gd.sY (by assumption) ?_ | refine Gd.sk (by assumption) ?_ | refine Gd.sN (by assumption) ?_) | ((conv => whnf); first | (((with_reducible show Gd ..); first | (with_reducible first | refine Gd.t ?_ | refine Gd.f ?_ | (first | apply Gd.dec | apply Gd.beq | apply Gd.bne) <;> intro _ | refine Gd.not ?_) | refine Gd.t ?_ | refine Gd.f ?_ | apply Gd.var <;> intro _) <;> try (exfalso; omega)) | with_reducible refine Sq.mk ?_ | ((with_reducible show Ld1 ..); first | refine Ld1.h H ?_ | refine Ld1.rF ?_ | refine Ld1.r ?_) | ((with_reducible show Ld ..); first | refine Ld.h H ?_ | refine Ld.r ?_) | ((with_reducible show Ix ..); first | refine Ix.h ?_ | refine Ix.ha ?_) | (refine St.h H ?_; clear H; intro _ H)) | refine Sm.strix T.ok ?_)
      refine ⟨.mk 0 0 0 [] [] none 0 [], _, rfl, ?_, by rw [hR]; exact Vl.err, Hp.trsZ 0 0 0 [] [] H.d0.d0⟩
      rw [hR]; exact ⟨hg1.ends, .inl rfl⟩
    rw [hd1 h40] at hR
    replace hR : R = ((stepP false (t1 :: r1)).and fun _ ts2 => argsP F (d + 1) (ts2.length + 1) [] ts2).map fun p => .mk 5 0 0 t0.text [] p.2 := by
      rw [hR, Res.map, Res.and_bind]; rfl
    rw [if_pos h40] at H'
    rw [decide_eq_true h40]
    replace H := H.upd (c := rq ws A cw pr ⟨t1 :: r1, none⟩) H' rfl (.inl rfl)
    clear H'
    repeat' ((conv => whnf); first | ((with_reducible show Gd (bs _ == _) _ _); first | refine Gd.sY (by assumption) ?_ | refine Gd.sk (by assumption) ?_ | refine Gd.sN (by assumption) ?_) | ((conv => whnf); first | (((with_reducible show Gd ..); first | (with_reducible first | refine Gd.t ?_ | refine Gd.f ?_ | (first | apply Gd.dec | apply Gd.beq | apply Gd.bne) <;> intro _ | refine Gd.not ?_) | refine Gd.t ?_ | refine Gd.f ?_ | apply Gd.var <;> intro _) <;> try (exfalso; omega)) | with_reducible refine Sq.mk ?_ | ((with_reducible show Ld1 ..); first | refine Ld1.h H ?_ | refine Ld1.rF ?_ | refine Ld1.r ?_) | ((with_reducible show Ld ..); first | refine Ld.h H ?_ | refine Ld.r ?_) | ((with_reducible show Ix ..); first | refine Ix.h ?_ | refine Ix.ha ?_) | (refine St.h H ?_; clear H; intro _ H)) | refine Sm.strix T.ok ?_)
    (obtain ⟨j, hj1, hj2, hb0⟩ := H.atC (c := rq ws A cw pr (⟨t1 :: r1, none⟩)) 2 rfl; have hjl := X.lt hj1 (by first | exact List.cons_ne_nil _ _ | assumption); replace H := Hp.ofQ H hb0; clear hb0)
    repeat' ((conv => whnf); first | ((with_reducible show Gd (bs _ == _) _ _); first | refine Gd.sY (by assumption) ?_ | refine Gd.sk (by assumption) ?_ | refine Gd.sN (by assumption) ?_) | ((conv => whnf); first | (((with_reducible show Gd ..); first | (with_reducible first | refine Gd.t ?_ | refine Gd.f ?_ | (first | apply Gd.dec | apply Gd.beq | apply Gd.bne) <;> intro _ | refine Gd.not ?_) | refine Gd.t ?_ | refine Gd.f ?_ | apply Gd.var <;> intro _) <;> try (exfalso; omega)) | with_reducible refine Sq.mk ?_ | ((with_reducible show Ld1 ..); first | refine Ld1.h H ?_ | refine Ld1.rF ?_ | refine Ld1.r ?_) | ((with_reducible show Ld ..); first | refine Ld.h H ?_ | refine Ld.r ?_) | ((with_reducible show Ix ..); first | refine Ix.h ?_ | refine Ix.ha ?_) | (refine St.h H ?_; clear H; intro _ H)) | refine Sm.strix T.ok ?_)
    (have hwj : IntKind.i64.wrap ((j : Int) + 1) = ((j + 1 : Nat) : Int) := w64 rfl (by omega) (by omega); rw [hwj] at H; replace H := Hp.toQ (pr := pr) (s := ⟨r1, none⟩) (k := j + 1) H (List.tail_drop.symm.trans (congrArg List.tail hj1)) (fun e p h => by cases h); clear hwj hj1 hj2 hjl)
    have harg := fun w => args_r Y C (stepP false (t1 :: r1)) (d + 1) ⟨r1, none⟩ w (by omega)
    rw [← hwd] at harg
    ((conv => whnf); refine Cl.mk (harg _ (H.base2 HB) (H.atC 2 rfl) hst1 (Res.map_out (by rw [← hR]; exact hne))) ?_)
    rintro _ w4 ⟨B, c, l, s6, rfl, ha6, hv6, hlen, H'⟩
    replace H' := Hp.trsN 5 0 0 (rText src t0) [] H'
    replace H := H.updn (c := rq ws A cw pr ⟨r1, none⟩) (Hp.swap H') rfl (.inl rfl) (.inl rfl)
    clear H'
    repeat' ((conv => whnf); first | ((with_reducible show Gd (bs _ == _) _ _); first | refine Gd.sY (by assumption) ?_ | refine Gd.sk (by assumption) ?_ | refine Gd.sN (by assumption) ?_) | ((conv => whnf); first | (((with_reducible show Gd ..); first | (with_reducible first | refine Gd.t ?_ | refine Gd.f ?_ | (first | apply Gd.dec | apply Gd.beq | apply Gd.bne) <;> intro _ | refine Gd.not ?_) | refine Gd.t ?_ | refine Gd.f ?_ | apply Gd.var <;> intro _) <;> try (exfalso; omega)) | with_reducible refine Sq.mk ?_ | ((with_reducible show Ld1 ..); first | refine Ld1.h H ?_ | refine Ld1.rF ?_ | refine Ld1.r ?_) | ((with_reducible show Ld ..); first | refine Ld.h H ?_ | refine Ld.r ?_) | ((with_reducible show Ix ..); first | refine Ix.h ?_ | refine Ix.ha ?_) | (refine St.h H ?_; clear H; intro _ H)) | refine Sm.strix T.ok ?_)
    refine ⟨.mk 5 0 0 (rText src t0) [] B c l, s6, rfl, by rw [hR]; exact ha6.map _, ?_, H.sel [0, 2] rfl⟩
    rw [hR]
    refine Vl.map (hv6.mono fun a h1 => ?_)
    simp only [ET.e, id]
    rw [h1, htx]
  have q2 : ¬ rKind (curT (⟨t0 :: r0, none⟩ : RS).ts) = k_name := fun h => c2 (hrk.symm.trans h)
  rw [if_neg c2] at hR
  by_cases c4 : t0.kind = k_min ∨ t0.kind = k_max ∨ t0.kind = k_reduce ∨ t0.kind = k_each
  · have c3 : ¬ t0.kind = s_lp := by rcases c4 with h | h | h | h <;> rw [h] <;> decide
    rw [if_neg c3, if_pos c4] at hR
    have hsp := fun w => special_r Y C d t0 r0 w hd
    have hsp2 : ∀ w', Ext wb w' → RdQ ws A cw pr ⟨t0 :: r0, none⟩ w' → Cl Tryz.prog 149 #[.pointer (some ⟨pr, 0, none⟩), .int .i64 (d : Int)] w' (OkRE ws A cw pr id R w') (fun _ _ => False) := fun w' e q => by
      rw [hR] at hne ⊢
      exact hsp w' e q hg c4 hne
    rcases c4 with c | c | c | c
    all_goals (have q3 := hrk.trans c; (repeat' ((conv => whnf); first | ((with_reducible show Gd (bs _ == _) _ _); first | refine Gd.sY (by assumption) ?_ | refine Gd.sk (by assumption) ?_ | refine Gd.sN (by assumption) ?_) | ((conv => whnf); first | (((with_reducible show Gd ..); first | (with_reducible first | refine Gd.t ?_ | refine Gd.f ?_ | (first | apply Gd.dec | apply Gd.beq | apply Gd.bne) <;> intro _ | refine Gd.not ?_) | refine Gd.t ?_ | refine Gd.f ?_ | apply Gd.var <;> intro _) <;> try (exfalso; omega)) | with_reducible refine Sq.mk ?_ | ((with_reducible show Ld1 ..); first | refine Ld1.h H ?_ | refine Ld1.rF ?_ | refine Ld1.r ?_) | ((with_reducible show Ld ..); first | refine Ld.h H ?_ | refine Ld.r ?_) | ((with_reducible show Ix ..); first | refine Ix.h ?_ | refine Ix.ha ?_) | (refine St.h H ?_; clear H; intro _ H)) | refine Sm.strix T.ok ?_)); ((conv => whnf); refine Cl.mk (hsp2 _ (H.base2 HB) (H.atC 2 rfl)) ?_); rintro _ w4 ⟨⟨kd, o, n, nm, cb, B, c, l⟩, s', rfl, ha', hv', H'⟩; replace H := H.updn (c := rq ws A cw pr ⟨t0 :: r0, none⟩) (Hp.swap H') rfl (.inl rfl) (.inl rfl); clear H'; (repeat' ((conv => whnf); first | ((with_reducible show Gd (bs _ == _) _ _); first | refine Gd.sY (by assumption) ?_ | refine Gd.sk (by assumption) ?_ | refine Gd.sN (by assumption) ?_) | ((conv => whnf); first | (((with_reducible show Gd ..); first | (with_reducible first | refine Gd.t ?_ | refine Gd.f ?_ | (first | apply Gd.dec | apply Gd.beq | apply Gd.bne) <;> intro _ | refine Gd.not ?_) | refine Gd.t ?_ | refine Gd.f ?_ | apply Gd.var <;> intro _) <;> try (exfalso; omega)) | with_reducible refine Sq.mk ?_ | ((with_reducible show Ld1 ..); first | refine Ld1.h H ?_ | refine Ld1.rF ?_ | refine Ld1.r ?_) | ((with_reducible show Ld ..); first | refine Ld.h H ?_ | refine Ld.r ?_) | ((with_reducible show Ix ..); first | refine Ix.h ?_ | refine Ix.ha ?_) | (refine St.h H ?_; clear H; intro _ H)) | refine Sm.strix T.ok ?_)); exact ⟨.mk kd o n nm cb B c l, s', rfl, ha', hv', H.sel [0, 2] rfl⟩)
  rw [if_neg c4] at hR
  have q4 : ¬ rKind (curT (⟨t0 :: r0, none⟩ : RS).ts) = k_min := fun h => c4 (.inl (hrk.symm.trans h))
  have q5 : ¬ rKind (curT (⟨t0 :: r0, none⟩ : RS).ts) = k_max := fun h => c4 (.inr (.inl (hrk.symm.trans h)))
  have q6 : ¬ rKind (curT (⟨t0 :: r0, none⟩ : RS).ts) = k_reduce := fun h => c4 (.inr (.inr (.inl (hrk.symm.trans h))))
  have q7 : ¬ rKind (curT (⟨t0 :: r0, none⟩ : RS).ts) = k_each := fun h => c4 (.inr (.inr (.inr (hrk.symm.trans h))))
  by_cases c3 : t0.kind = s_lp
  · have q3 := hrk.trans c3
    rw [if_pos c3] at hR
    obtain ⟨hd1, hd2⟩ := deep_at Y C (d := d) hg hpl
    have hst := step_at hg.ends hg.ok (by show t0.kind ≠ k_end; rw [c3]; decide)
    repeat' ((conv => whnf); first | ((with_reducible show Gd (bs _ == _) _ _); first | refine Gd.sY (by assumption) ?_ | refine Gd.sk (by assumption) ?_ | refine Gd.sN (by assumption) ?_) | ((conv => whnf); first | (((with_reducible show Gd ..); first | (with_reducible first | refine Gd.t ?_ | refine Gd.f ?_ | (first | apply Gd.dec | apply Gd.beq | apply Gd.bne) <;> intro _ | refine Gd.not ?_) | refine Gd.t ?_ | refine Gd.f ?_ | apply Gd.var <;> intro _) <;> try (exfalso; omega)) | with_reducible refine Sq.mk ?_ | ((with_reducible show Ld1 ..); first | refine Ld1.h H ?_ | refine Ld1.rF ?_ | refine Ld1.r ?_) | ((with_reducible show Ld ..); first | refine Ld.h H ?_ | refine Ld.r ?_) | ((with_reducible show Ix ..); first | refine Ix.h ?_ | refine Ix.ha ?_) | (refine St.h H ?_; clear H; intro _ H)) | refine Sm.strix T.ok ?_)
    (((conv => whnf); refine Cl.mk (deeper_r X d ⟨t0 :: r0, none⟩ _ (by omega) (H.base2 HB) (H.atC 2 rfl) (List.cons_ne_nil _ _)) ?_); rintro _ w3 ⟨rfl, H'⟩)
    by_cases h40 : d + 1 ≤ 40
    case neg =>
      obtain ⟨g1, g2⟩ := hd2 h40
      rw [g1] at hR
      replace hR : R = .err 144 (curT (t0 :: r0)).at_ := hR
      rw [if_neg h40, g2] at H'
      rw [decide_eq_false h40]
      replace H := H.upd (c := rq ws A cw pr ⟨t0 :: r0, none⟩) H' rfl (.inl rfl)
      clear H'
      repeat' ((conv => whnf); first | ((with_reducible show Gd (bs _ == _) _ _); first | refine Gd.sY (by assumption) ?_ | refine Gd.sk (by assumption) ?_ | refine Gd.sN (by assumption) ?_) | ((conv => whnf); first | (((with_reducible show Gd ..); first | (with_reducible first | refine Gd.t ?_ | refine Gd.f ?_ | (first | apply Gd.dec | apply Gd.beq | apply Gd.bne) <;> intro _ | refine Gd.not ?_) | refine Gd.t ?_ | refine Gd.f ?_ | apply Gd.var <;> intro _) <;> try (exfalso; omega)) | with_reducible refine Sq.mk ?_ | ((with_reducible show Ld1 ..); first | refine Ld1.h H ?_ | refine Ld1.rF ?_ | refine Ld1.r ?_) | ((with_reducible show Ld ..); first | refine Ld.h H ?_ | refine Ld.r ?_) | ((with_reducible show Ix ..); first | refine Ix.h ?_ | refine Ix.ha ?_) | (refine St.h H ?_; clear H; intro _ H)) | refine Sm.strix T.ok ?_)
      refine ⟨.mk 0 0 0 [] [] none 0 [], _, rfl, ?_, by rw [hR]; exact Vl.err, Hp.trsZ 0 0 0 [] [] H.d0.d0⟩
      rw [hR]; exact ⟨hg.ends, .inl rfl⟩
    rw [hd1 h40] at hR
    replace hR : R = (((stepP false (t0 :: r0)).and fun _ ts1 => F.expr 0 (d + 1) ts1).and fun _ ts2 => takeP s_rp ts2).map fun p => p.1.2 := by
      rw [hR]
      simp only [Res.map, Res.and_bind]
      rfl
    rw [if_pos h40] at H'
    rw [decide_eq_true h40]
    replace H := H.upd (c := rq ws A cw pr ⟨t0 :: r0, none⟩) H' rfl (.inl rfl)
    clear H'
    repeat' ((conv => whnf); first | ((with_reducible show Gd (bs _ == _) _ _); first | refine Gd.sY (by assumption) ?_ | refine Gd.sk (by assumption) ?_ | refine Gd.sN (by assumption) ?_) | ((conv => whnf); first | (((with_reducible show Gd ..); first | (with_reducible first | refine Gd.t ?_ | refine Gd.f ?_ | (first | apply Gd.dec | apply Gd.beq | apply Gd.bne) <;> intro _ | refine Gd.not ?_) | refine Gd.t ?_ | refine Gd.f ?_ | apply Gd.var <;> intro _) <;> try (exfalso; omega)) | with_reducible refine Sq.mk ?_ | ((with_reducible show Ld1 ..); first | refine Ld1.h H ?_ | refine Ld1.rF ?_ | refine Ld1.r ?_) | ((with_reducible show Ld ..); first | refine Ld.h H ?_ | refine Ld.r ?_) | ((with_reducible show Ix ..); first | refine Ix.h ?_ | refine Ix.ha ?_) | (refine St.h H ?_; clear H; intro _ H)) | refine Sm.strix T.ok ?_)
    (obtain ⟨j, hj1, hj2, hb0⟩ := H.atC (c := rq ws A cw pr (⟨t0 :: r0, none⟩)) 2 rfl; have hjl := X.lt hj1 (by first | exact List.cons_ne_nil _ _ | assumption); replace H := Hp.ofQ H hb0; clear hb0)
    repeat' ((conv => whnf); first | ((with_reducible show Gd (bs _ == _) _ _); first | refine Gd.sY (by assumption) ?_ | refine Gd.sk (by assumption) ?_ | refine Gd.sN (by assumption) ?_) | ((conv => whnf); first | (((with_reducible show Gd ..); first | (with_reducible first | refine Gd.t ?_ | refine Gd.f ?_ | (first | apply Gd.dec | apply Gd.beq | apply Gd.bne) <;> intro _ | refine Gd.not ?_) | refine Gd.t ?_ | refine Gd.f ?_ | apply Gd.var <;> intro _) <;> try (exfalso; omega)) | with_reducible refine Sq.mk ?_ | ((with_reducible show Ld1 ..); first | refine Ld1.h H ?_ | refine Ld1.rF ?_ | refine Ld1.r ?_) | ((with_reducible show Ld ..); first | refine Ld.h H ?_ | refine Ld.r ?_) | ((with_reducible show Ix ..); first | refine Ix.h ?_ | refine Ix.ha ?_) | (refine St.h H ?_; clear H; intro _ H)) | refine Sm.strix T.ok ?_)
    (have hwj : IntKind.i64.wrap ((j : Int) + 1) = ((j + 1 : Nat) : Int) := w64 rfl (by omega) (by omega); rw [hwj] at H; replace H := Hp.toQ (pr := pr) (s := ⟨r0, none⟩) (k := j + 1) H (List.tail_drop.symm.trans (congrArg List.tail hj1)) (fun e p h => by cases h); clear hwj hj1 hj2 hjl)
    have hex := fun w => exprR Y C (stepP false (t0 :: r0)) 0 (d + 1) ⟨r0, none⟩ w (by omega) (by omega)
    rw [← hwd] at hex
    ((conv => whnf); refine Cl.mk (hex _ (H.base2 HB) (H.atC 2 rfl) hst (Res.and_out (Res.map_out (by rw [← hR]; exact hne)))) ?_)
    rintro _ w4 ⟨⟨kd, o, n, nm, cb, B, c, l⟩, s', rfl, ha', hv', H'⟩
    replace H := H.updn (c := rq ws A cw pr ⟨r0, none⟩) (Hp.swap H') rfl (.inl rfl) (.inl rfl)
    clear H'
    ((conv => whnf); refine Al.hp H ?_; clear H; intro p9 _ H _)
    repeat' ((conv => whnf); first | ((with_reducible show Gd (bs _ == _) _ _); first | refine Gd.sY (by assumption) ?_ | refine Gd.sk (by assumption) ?_ | refine Gd.sN (by assumption) ?_) | ((conv => whnf); first | (((with_reducible show Gd ..); first | (with_reducible first | refine Gd.t ?_ | refine Gd.f ?_ | (first | apply Gd.dec | apply Gd.beq | apply Gd.bne) <;> intro _ | refine Gd.not ?_) | refine Gd.t ?_ | refine Gd.f ?_ | apply Gd.var <;> intro _) <;> try (exfalso; omega)) | with_reducible refine Sq.mk ?_ | ((with_reducible show Ld1 ..); first | refine Ld1.h H ?_ | refine Ld1.rF ?_ | refine Ld1.r ?_) | ((with_reducible show Ld ..); first | refine Ld.h H ?_ | refine Ld.r ?_) | ((with_reducible show Ix ..); first | refine Ix.h ?_ | refine Ix.ha ?_) | (refine St.h H ?_; clear H; intro _ H)) | refine Sm.strix T.ok ?_)
    (((conv => whnf); refine Cl.mk (takeRR Y C s_rp ((stepP false (t0 :: r0)).and fun _ ts1 => F.expr 0 (d + 1) ts1) s' _ (H.base2 HB) (H.atC 4 rfl) ha' (by decide) (by decide) (by decide)) ?_); rintro _ w3 ⟨kd_, pp_, tx1, ee_, s2, rfl, ha2, hv2, H'⟩; replace H := H.upd (c := rq ws A cw pr s') H' rfl (.inl rfl); clear H')
    repeat' ((conv => whnf); first | ((with_reducible show Gd (bs _ == _) _ _); first | refine Gd.sY (by assumption) ?_ | refine Gd.sk (by assumption) ?_ | refine Gd.sN (by assumption) ?_) | ((conv => whnf); first | (((with_reducible show Gd ..); first | (with_reducible first | refine Gd.t ?_ | refine Gd.f ?_ | (first | apply Gd.dec | apply Gd.beq | apply Gd.bne) <;> intro _ | refine Gd.not ?_) | refine Gd.t ?_ | refine Gd.f ?_ | apply Gd.var <;> intro _) <;> try (exfalso; omega)) | with_reducible refine Sq.mk ?_ | ((with_reducible show Ld1 ..); first | refine Ld1.h H ?_ | refine Ld1.rF ?_ | refine Ld1.r ?_) | ((with_reducible show Ld ..); first | refine Ld.h H ?_ | refine Ld.r ?_) | ((with_reducible show Ix ..); first | refine Ix.h ?_ | refine Ix.ha ?_) | (refine St.h H ?_; clear H; intro _ H)) | refine Sm.strix T.ok ?_)
    refine ⟨.mk kd o n nm cb B c l, s2, rfl, by rw [hR]; exact ha2.map _, ?_, H.sel [1, 3] rfl⟩
    rw [hR]
    exact Vl.map (g := fun p : (Unit × Ex) × Tk => p.1.2) (Vl.fst hv')
  have q3 : ¬ rKind (curT (⟨t0 :: r0, none⟩ : RS).ts) = s_lp := fun h => c3 (hrk.symm.trans h)
  rw [if_neg c3] at hR
  have hw : wrongR 141 ⟨t0 :: r0, none⟩ = ⟨t0 :: r0, some (141, t0.at_)⟩ := wrong_good rfl hg.ok hpl.cur.1
  repeat' ((conv => whnf); first | ((with_reducible show Gd (bs _ == _) _ _); first | refine Gd.sY (by assumption) ?_ | refine Gd.sk (by assumption) ?_ | refine Gd.sN (by assumption) ?_) | ((conv => whnf); first | (((with_reducible show Gd ..); first | (with_reducible first | refine Gd.t ?_ | refine Gd.f ?_ | (first | apply Gd.dec | apply Gd.beq | apply Gd.bne) <;> intro _ | refine Gd.not ?_) | refine Gd.t ?_ | refine Gd.f ?_ | apply Gd.var <;> intro _) <;> try (exfalso; omega)) | with_reducible refine Sq.mk ?_ | ((with_reducible show Ld1 ..); first | refine Ld1.h H ?_ | refine Ld1.rF ?_ | refine Ld1.r ?_) | ((with_reducible show Ld ..); first | refine Ld.h H ?_ | refine Ld.r ?_) | ((with_reducible show Ix ..); first | refine Ix.h ?_ | refine Ix.ha ?_) | (refine St.h H ?_; clear H; intro _ H)) | refine Sm.strix T.ok ?_)
  ((conv => whnf); refine Cl.mk (wrong_r X 141 ⟨t0 :: r0, none⟩ _ (by decide) (H.base2 HB) (H.atC 2 rfl) (List.cons_ne_nil _ _)) ?_)
  rintro _ w3 H'
  replace H := H.upd (c := rq ws A cw pr ⟨t0 :: r0, none⟩) H' rfl (.inl rfl)
  clear H'
  rw [hw] at H
  repeat' ((conv => whnf); first | ((with_reducible show Gd (bs _ == _) _ _); first | refine Gd.sY (by assumption) ?_ | refine Gd.sk (by assumption) ?_ | refine Gd.sN (by assumption) ?_) | ((conv => whnf); first | (((with_reducible show Gd ..); first | (with_reducible first | refine Gd.t ?_ | refine Gd.f ?_ | (first | apply Gd.dec | apply Gd.beq | apply Gd.bne) <;> intro _ | refine Gd.not ?_) | refine Gd.t ?_ | refine Gd.f ?_ | apply Gd.var <;> intro _) <;> try (exfalso; omega)) | with_reducible refine Sq.mk ?_ | ((with_reducible show Ld1 ..); first | refine Ld1.h H ?_ | refine Ld1.rF ?_ | refine Ld1.r ?_) | ((with_reducible show Ld ..); first | refine Ld.h H ?_ | refine Ld.r ?_) | ((with_reducible show Ix ..); first | refine Ix.h ?_ | refine Ix.ha ?_) | (refine St.h H ?_; clear H; intro _ H)) | refine Sm.strix T.ok ?_)
  refine ⟨.mk 0 0 0 [] [] none 0 [], _, rfl, ?_, by rw [hR]; exact Vl.err, Hp.trsZ 0 0 0 [] [] H.d0.d0⟩
  rw [hR]; exact ⟨hg.ends, .inl rfl⟩
end
end Go.Proofs.YtfnjodpehomgfaaGreatDoor
namespace Go.Proofs.YtfnjodpehomgfaaGreatDoor
open Go Go.Sh Go.Tx
attribute [local irreducible] Blk Ext RdS
section
variable {src : Bs} {pr : Nat} {wb : World} {F : PF} (X : Txt src pr wb) (C : Con src pr wb F)
include X C
set_option maxHeartbeats 2000000 in
theorem args_c (d : Nat) (ts : List Tk) (w : World) (hd : d ≤ 41) (hwb : Ext wb w) (h : Rdr src pr ts w) (hne : argsP F d (ts.length + 1) [] ts ≠ .out) :
    Cl Tryz.prog 133 #[.pointer (some ⟨pr, 0, none⟩), .int .i64 (d : Int)] w (OkL src pr (argsP F d (ts.length + 1) [] ts) w) (PanX (argsP F d (ts.length + 1) [] ts) pr w) := by
  have HB := X.ok hwb
  have hN := h.len
  have hsl := X.len
  obtain ⟨R, hR⟩ : ∃ R, R = argsP F d (ts.length + 1) [] ts := ⟨_, rfl⟩
  rw [← hR] at hne ⊢
  generalize hN0 : ts.length + 1 = N at hR
  have hNb : N ≤ 1000010 := by omega
  refine calls_ex (args := [.pointer (some ⟨pr, 0, none⟩), .int .i64 (d : Int)]) T.ok Tryz.func133 rfl rfl rfl rfl ?_
  have H := Hp.start (S := (· = pr)) (rdr_ok h) (fun k hk => hk)
  replace H := Hp.nil (Hp.trs0 H) ET.enc 6 74
  repeat' ((conv => whnf); first | (((with_reducible show Gd ..); first | (with_reducible first | refine Gd.t ?_ | refine Gd.f ?_ | (first | apply Gd.dec | apply Gd.beq | apply Gd.bne) <;> intro _ | refine Gd.not ?_) | refine Gd.t ?_ | refine Gd.f ?_ | apply Gd.var <;> intro _) <;> try (exfalso; omega)) | with_reducible refine Sq.mk ?_ | ((with_reducible show Ld1 ..); first | refine Ld1.h H ?_ | refine Ld1.rF ?_ | refine Ld1.r ?_) | ((with_reducible show Ld ..); first | refine Ld.h H ?_ | refine Ld.r ?_) | ((with_reducible show Ix ..); first | refine Ix.h ?_ | refine Ix.ha ?_) | (refine Al.hp H ?_; clear H; intro _ _ H _) | (refine St.h H ?_; clear H; intro _ H))
  refine Lp.g0 T.ok (σ := Nat × Option Addr × Nat × List ET × List Tk) (fun q => [(5, .slice q.2.1 q.2.2.2.1.length q.2.2.1), (4, .slice none 0 0), (0, .pointer (some ⟨pr, 0, none⟩)), (1, .int .i64 (d : Int))])
    (fun q w' => R = argsP F d q.1 (ET.es q.2.2.2.1) q.2.2.2.2 ∧ q.1 + q.2.2.2.1.length ≤ N ∧ Hp (· = pr) w w' [qu ET.enc 6 74 q.2.1 q.2.2.1 q.2.2.2.1, trs q.2.2.2.1, rdr src pr q.2.2.2.2]) (fun q _ => q.1) (N, none, 0, [], ts) rfl ⟨rfl, rfl, rfl, rfl, trivial⟩ ⟨hR, Nat.le_refl _, H⟩ ?_
  clear H hR hN0 hN h
  rintro ⟨f, A, c, l, ts⟩ w5 ⟨hR, hN, H⟩
  simp only at hR hN H ⊢
  cases f with
  | zero => exact absurd hR hne
  | succ f =>
  simp only [argsP, ET.es_len] at hR
  (obtain ⟨nx, t0, r0, rfl, hnx, hr0, hb0⟩ := H.atC (c := rdr src pr ts) 2 rfl; replace H := Hp.ofR H hb0; clear hb0)
  by_cases hk : t0.kind = s_rp
  · rw [if_pos (show curK (t0 :: r0) = s_rp from hk)] at hR
    repeat' ((conv => whnf); first | ((with_reducible show Gd (bs _ == _) _ _); first | refine Gd.sY (by assumption) ?_ | refine Gd.sk (by assumption) ?_ | refine Gd.sN (by assumption) ?_) | ((conv => whnf); first | (((with_reducible show Gd ..); first | (with_reducible first | refine Gd.t ?_ | refine Gd.f ?_ | (first | apply Gd.dec | apply Gd.beq | apply Gd.bne) <;> intro _ | refine Gd.not ?_) | refine Gd.t ?_ | refine Gd.f ?_ | apply Gd.var <;> intro _) <;> try (exfalso; omega)) | with_reducible refine Sq.mk ?_ | ((with_reducible show Ld1 ..); first | refine Ld1.h H ?_ | refine Ld1.rF ?_ | refine Ld1.r ?_) | ((with_reducible show Ld ..); first | refine Ld.h H ?_ | refine Ld.r ?_) | ((with_reducible show Ix ..); first | refine Ix.h ?_ | refine Ix.ha ?_) | (refine Al.hp H ?_; clear H; intro _ _ H _) | (refine St.h H ?_; clear H; intro _ H)) | refine Sm.strix T.ok ?_)
    (replace H := Hp.toR H hnx hr0; clear hnx hr0)
    (((conv => whnf); refine Cl.mkX (take_c s_rp src pr (t0 :: r0) wb _ (H.base2 HB) X.lo X.tb X.len (H.atC 2 rfl) (by decide)) ?_ ?_; rotate_left; (rintro ch w9 ⟨e9, p9, q9, h9, rfl, H'⟩; exact ⟨e9, p9, q9, (by rw [hR, h9]; rfl), rfl, Hp.pan H H' (.inl rfl)⟩)); rintro _ w8 ⟨t1, ts1, h1, rfl, H'⟩; replace H := H.upd (c := rdr src pr (t0 :: r0)) H' rfl (.inl rfl); clear H'; rw [h1, Res.bind_ok] at hR; clear h1)
    repeat' ((conv => whnf); first | ((with_reducible show Gd (bs _ == _) _ _); first | refine Gd.sY (by assumption) ?_ | refine Gd.sk (by assumption) ?_ | refine Gd.sN (by assumption) ?_) | ((conv => whnf); first | (((with_reducible show Gd ..); first | (with_reducible first | refine Gd.t ?_ | refine Gd.f ?_ | (first | apply Gd.dec | apply Gd.beq | apply Gd.bne) <;> intro _ | refine Gd.not ?_) | refine Gd.t ?_ | refine Gd.f ?_ | apply Gd.var <;> intro _) <;> try (exfalso; omega)) | with_reducible refine Sq.mk ?_ | ((with_reducible show Ld1 ..); first | refine Ld1.h H ?_ | refine Ld1.rF ?_ | refine Ld1.r ?_) | ((with_reducible show Ld ..); first | refine Ld.h H ?_ | refine Ld.r ?_) | ((with_reducible show Ix ..); first | refine Ix.h ?_ | refine Ix.ha ?_) | (refine Al.hp H ?_; clear H; intro _ _ H _) | (refine St.h H ?_; clear H; intro _ H)) | refine Sm.strix T.ok ?_)
    exact ⟨A, c, l, ts1, hR, rfl, by omega, H⟩
  rw [if_neg (show ¬ curK (t0 :: r0) = s_rp from hk)] at hR
  by_cases hl0 : l.length = 0
  · rw [if_neg (by omega), Res.bind_ok] at hR
    repeat' ((conv => whnf); first | ((with_reducible show Gd (bs _ == _) _ _); first | refine Gd.sY (by assumption) ?_ | refine Gd.sk (by assumption) ?_ | refine Gd.sN (by assumption) ?_) | ((conv => whnf); first | (((with_reducible show Gd ..); first | (with_reducible first | refine Gd.t ?_ | refine Gd.f ?_ | (first | apply Gd.dec | apply Gd.beq | apply Gd.bne) <;> intro _ | refine Gd.not ?_) | refine Gd.t ?_ | refine Gd.f ?_ | apply Gd.var <;> intro _) <;> try (exfalso; omega)) | with_reducible refine Sq.mk ?_ | ((with_reducible show Ld1 ..); first | refine Ld1.h H ?_ | refine Ld1.rF ?_ | refine Ld1.r ?_) | ((with_reducible show Ld ..); first | refine Ld.h H ?_ | refine Ld.r ?_) | ((with_reducible show Ix ..); first | refine Ix.h ?_ | refine Ix.ha ?_) | (refine Al.hp H ?_; clear H; intro _ _ H _) | (refine St.h H ?_; clear H; intro _ H)) | refine Sm.strix T.ok ?_)
    all_goals first | (exfalso; omega) | skip
    (replace H := Hp.toR H hnx hr0; clear hnx hr0)
    replace hR : R = (F.expr 0 d (t0 :: r0)).bind fun e ts2 => argsP F d f (ET.es l ++ [e]) ts2 := hR
    repeat' ((conv => whnf); first | ((with_reducible show Gd (bs _ == _) _ _); first | refine Gd.sY (by assumption) ?_ | refine Gd.sk (by assumption) ?_ | refine Gd.sN (by assumption) ?_) | ((conv => whnf); first | (((with_reducible show Gd ..); first | (with_reducible first | refine Gd.t ?_ | refine Gd.f ?_ | (first | apply Gd.dec | apply Gd.beq | apply Gd.bne) <;> intro _ | refine Gd.not ?_) | refine Gd.t ?_ | refine Gd.f ?_ | apply Gd.var <;> intro _) <;> try (exfalso; omega)) | with_reducible refine Sq.mk ?_ | ((with_reducible show Ld1 ..); first | refine Ld1.h H ?_ | refine Ld1.rF ?_ | refine Ld1.r ?_) | ((with_reducible show Ld ..); first | refine Ld.h H ?_ | refine Ld.r ?_) | ((with_reducible show Ix ..); first | refine Ix.h ?_ | refine Ix.ha ?_) | (refine Al.hp H ?_; clear H; intro _ _ H _) | (refine St.h H ?_; clear H; intro _ H)) | refine Sm.strix T.ok ?_)
    ((conv => whnf); refine Cl.mkX (C.expr 0 d (t0 :: r0) _ (by omega) hd (H.base2 HB) (H.atC 2 rfl) (Res.bind_out (by rw [← hR]; exact hne))) ?_ ?_; rotate_left; (rintro ch w9 ⟨e9, p9, q9, h9, rfl, H'⟩; exact ⟨e9, p9, q9, (by rw [hR, h9]; rfl), rfl, Hp.pan H H' (.inl rfl)⟩))
    rintro _ w3 ⟨⟨kd, o, n, nm, cb, A2, c2, l2⟩, ts2, h2, rfl, H'⟩
    replace H := H.updn (c := rdr src pr (t0 :: r0)) (Hp.swap H') rfl (.inl rfl) (.inl rfl)
    clear H'
    rw [h2, Res.bind_ok] at hR
    refine Sm.lith (cs := ET.enc (.mk kd o n nm cb A2 c2 l2)) H T.ok (fun p5 w4 H _ => ?_)
    refine Sm.ap1 (enc := ET.enc) (.mk kd o n nm cb A2 c2 l2) H T.ok ?_ ?_ (fun A' c' w6 H => ?_)
    · show (l.length + 1) * 80 ≤ _; omega
    · omega
    simp only [List.cons_append, List.nil_append] at H
    repeat' ((conv => whnf); first | ((with_reducible show Gd (bs _ == _) _ _); first | refine Gd.sY (by assumption) ?_ | refine Gd.sk (by assumption) ?_ | refine Gd.sN (by assumption) ?_) | ((conv => whnf); first | (((with_reducible show Gd ..); first | (with_reducible first | refine Gd.t ?_ | refine Gd.f ?_ | (first | apply Gd.dec | apply Gd.beq | apply Gd.bne) <;> intro _ | refine Gd.not ?_) | refine Gd.t ?_ | refine Gd.f ?_ | apply Gd.var <;> intro _) <;> try (exfalso; omega)) | with_reducible refine Sq.mk ?_ | ((with_reducible show Ld1 ..); first | refine Ld1.h H ?_ | refine Ld1.rF ?_ | refine Ld1.r ?_) | ((with_reducible show Ld ..); first | refine Ld.h H ?_ | refine Ld.r ?_) | ((with_reducible show Ix ..); first | refine Ix.h ?_ | refine Ix.ha ?_) | (refine Al.hp H ?_; clear H; intro _ _ H _) | (refine St.h H ?_; clear H; intro _ H)) | refine Sm.strix T.ok ?_)
    refine ⟨(f, A', c', l ++ [.mk kd o n nm cb A2 c2 l2], ts2), ⟨at_val rfl (by simp), rfl, rfl, rfl, trivial⟩, rfl, ⟨?_, ?_, ?_⟩, Nat.lt_succ_self f⟩
    · rw [hR, ET.es_app]; rfl
    · simp only [List.length_append, List.length_cons, List.length_nil]; omega
    · exact Hp.swap (Hp.trsS (H.sel [0, 1, 0, 0] rfl))
  · rw [if_pos hl0] at hR
    replace hR : R = (takeP s_comma (t0 :: r0)).bind fun _ ts1 => (F.expr 0 d ts1).bind fun e ts2 => argsP F d f (ET.es l ++ [e]) ts2 := by
      rw [hR]
      cases takeP s_comma (t0 :: r0) <;> rfl
    repeat' ((conv => whnf); first | ((with_reducible show Gd (bs _ == _) _ _); first | refine Gd.sY (by assumption) ?_ | refine Gd.sk (by assumption) ?_ | refine Gd.sN (by assumption) ?_) | ((conv => whnf); first | (((with_reducible show Gd ..); first | (with_reducible first | refine Gd.t ?_ | refine Gd.f ?_ | (first | apply Gd.dec | apply Gd.beq | apply Gd.bne) <;> intro _ | refine Gd.not ?_) | refine Gd.t ?_ | refine Gd.f ?_ | apply Gd.var <;> intro _) <;> try (exfalso; omega)) | with_reducible refine Sq.mk ?_ | ((with_reducible show Ld1 ..); first | refine Ld1.h H ?_ | refine Ld1.rF ?_ | refine Ld1.r ?_) | ((with_reducible show Ld ..); first | refine Ld.h H ?_ | refine Ld.r ?_) | ((with_reducible show Ix ..); first | refine Ix.h ?_ | refine Ix.ha ?_) | (refine Al.hp H ?_; clear H; intro _ _ H _) | (refine St.h H ?_; clear H; intro _ H)) | refine Sm.strix T.ok ?_)
    all_goals first | (exfalso; omega) | skip
    (replace H := Hp.toR H hnx hr0; clear hnx hr0)
    (((conv => whnf); refine Cl.mkX (take_c s_comma src pr (t0 :: r0) wb _ (H.base2 HB) X.lo X.tb X.len (H.atC 2 rfl) (by decide)) ?_ ?_; rotate_left; (rintro ch w9 ⟨e9, p9, q9, h9, rfl, H'⟩; exact ⟨e9, p9, q9, (by rw [hR, h9]; rfl), rfl, Hp.pan H H' (.inl rfl)⟩)); rintro _ w8 ⟨t1, ts1, h1, rfl, H'⟩; replace H := H.upd (c := rdr src pr (t0 :: r0)) H' rfl (.inl rfl); clear H'; rw [h1, Res.bind_ok] at hR; clear h1)
    replace hR : R = (F.expr 0 d ts1).bind fun e ts2 => argsP F d f (ET.es l ++ [e]) ts2 := hR
    repeat' ((conv => whnf); first | ((with_reducible show Gd (bs _ == _) _ _); first | refine Gd.sY (by assumption) ?_ | refine Gd.sk (by assumption) ?_ | refine Gd.sN (by assumption) ?_) | ((conv => whnf); first | (((with_reducible show Gd ..); first | (with_reducible first | refine Gd.t ?_ | refine Gd.f ?_ | (first | apply Gd.dec | apply Gd.beq | apply Gd.bne) <;> intro _ | refine Gd.not ?_) | refine Gd.t ?_ | refine Gd.f ?_ | apply Gd.var <;> intro _) <;> try (exfalso; omega)) | with_reducible refine Sq.mk ?_ | ((with_reducible show Ld1 ..); first | refine Ld1.h H ?_ | refine Ld1.rF ?_ | refine Ld1.r ?_) | ((with_reducible show Ld ..); first | refine Ld.h H ?_ | refine Ld.r ?_) | ((with_reducible show Ix ..); first | refine Ix.h ?_ | refine Ix.ha ?_) | (refine Al.hp H ?_; clear H; intro _ _ H _) | (refine St.h H ?_; clear H; intro _ H)) | refine Sm.strix T.ok ?_)
    ((conv => whnf); refine Cl.mkX (C.expr 0 d ts1 _ (by omega) hd (H.base2 HB) (H.atC 2 rfl) (Res.bind_out (by rw [← hR]; exact hne))) ?_ ?_; rotate_left; (rintro ch w9 ⟨e9, p9, q9, h9, rfl, H'⟩; exact ⟨e9, p9, q9, (by rw [hR, h9]; rfl), rfl, Hp.pan H H' (.inl rfl)⟩))
    rintro _ w3 ⟨⟨kd, o, n, nm, cb, A2, c2, l2⟩, ts2, h2, rfl, H'⟩
    replace H := H.updn (c := rdr src pr ts1) (Hp.swap H') rfl (.inl rfl) (.inl rfl)
    clear H'
    rw [h2, Res.bind_ok] at hR
    refine Sm.lith (cs := ET.enc (.mk kd o n nm cb A2 c2 l2)) H T.ok (fun p5 w4 H _ => ?_)
    refine Sm.ap1 (enc := ET.enc) (.mk kd o n nm cb A2 c2 l2) H T.ok ?_ ?_ (fun A' c' w6 H => ?_)
    · show (l.length + 1) * 80 ≤ _; omega
    · omega
    simp only [List.cons_append, List.nil_append] at H
    repeat' ((conv => whnf); first | ((with_reducible show Gd (bs _ == _) _ _); first | refine Gd.sY (by assumption) ?_ | refine Gd.sk (by assumption) ?_ | refine Gd.sN (by assumption) ?_) | ((conv => whnf); first | (((with_reducible show Gd ..); first | (with_reducible first | refine Gd.t ?_ | refine Gd.f ?_ | (first | apply Gd.dec | apply Gd.beq | apply Gd.bne) <;> intro _ | refine Gd.not ?_) | refine Gd.t ?_ | refine Gd.f ?_ | apply Gd.var <;> intro _) <;> try (exfalso; omega)) | with_reducible refine Sq.mk ?_ | ((with_reducible show Ld1 ..); first | refine Ld1.h H ?_ | refine Ld1.rF ?_ | refine Ld1.r ?_) | ((with_reducible show Ld ..); first | refine Ld.h H ?_ | refine Ld.r ?_) | ((with_reducible show Ix ..); first | refine Ix.h ?_ | refine Ix.ha ?_) | (refine Al.hp H ?_; clear H; intro _ _ H _) | (refine St.h H ?_; clear H; intro _ H)) | refine Sm.strix T.ok ?_)
    refine ⟨(f, A', c', l ++ [.mk kd o n nm cb A2 c2 l2], ts2), ⟨at_val rfl (by simp), rfl, rfl, rfl, trivial⟩, rfl, ⟨?_, ?_, ?_⟩, Nat.lt_succ_self f⟩
    · rw [hR, ET.es_app]; rfl
    · simp only [List.length_append, List.length_cons, List.length_nil]; omega
    · exact Hp.swap (Hp.trsS (H.sel [0, 1, 0, 0] rfl))
set_option maxHeartbeats 4000000 in
theorem form_c (k : Bs) (d : Nat) (ts : List Tk) (w : World) (hd : d ≤ 41) (hwb : Ext wb w) (h : Rdr src pr ts w) (hne : formP F k d ts ≠ .out) :
    Cl Tryz.prog 150 #[.pointer (some ⟨pr, 0, none⟩), .string (bs k), .int .i64 (d : Int)] w (OkE src pr (formP F k d ts) w) (PanX (formP F k d ts) pr w) := by
  have HB := X.ok hwb
  have hsl := X.len
  obtain ⟨R, hR⟩ : ∃ R, R = formP F k d ts := ⟨_, rfl⟩
  rw [← hR] at hne ⊢
  unfold formP at hR
  refine calls_ex (args := [.pointer (some ⟨pr, 0, none⟩), .string (bs k), .int .i64 (d : Int)]) T.ok Tryz.func150 rfl rfl rfl rfl ?_
  have H := Hp.start (S := (· = pr)) (rdr_ok h) (fun k hk => hk)
  clear h
  refine Sq.mk ?_
  ((conv => whnf); refine Al.hp H ?_; clear H; intro p6 _ H _)
  repeat' ((conv => whnf); first | (((with_reducible show Gd ..); first | (with_reducible first | refine Gd.t ?_ | refine Gd.f ?_ | (first | apply Gd.dec | apply Gd.beq | apply Gd.bne) <;> intro _ | refine Gd.not ?_) | refine Gd.t ?_ | refine Gd.f ?_ | apply Gd.var <;> intro _) <;> try (exfalso; omega)) | with_reducible refine Sq.mk ?_ | ((with_reducible show Ld1 ..); first | refine Ld1.h H ?_ | refine Ld1.rF ?_ | refine Ld1.r ?_) | ((with_reducible show Ld ..); first | refine Ld.h H ?_ | refine Ld.r ?_) | ((with_reducible show Ix ..); first | refine Ix.h ?_ | refine Ix.ha ?_) | (refine St.h H ?_; clear H; intro _ H))
  ((conv => whnf); refine Al.hp H ?_; clear H; intro p7 _ H _)
  by_cases hk1 : k = k_reduce
  · rw [if_pos hk1] at hR
    repeat' ((conv => whnf); first | ((with_reducible show Gd (bs _ == _) _ _); first | refine Gd.sY (by assumption) ?_ | refine Gd.sk (by assumption) ?_ | refine Gd.sN (by assumption) ?_) | ((conv => whnf); first | (((with_reducible show Gd ..); first | (with_reducible first | refine Gd.t ?_ | refine Gd.f ?_ | (first | apply Gd.dec | apply Gd.beq | apply Gd.bne) <;> intro _ | refine Gd.not ?_) | refine Gd.t ?_ | refine Gd.f ?_ | apply Gd.var <;> intro _) <;> try (exfalso; omega)) | with_reducible refine Sq.mk ?_ | ((with_reducible show Ld1 ..); first | refine Ld1.h H ?_ | refine Ld1.rF ?_ | refine Ld1.r ?_) | ((with_reducible show Ld ..); first | refine Ld.h H ?_ | refine Ld.r ?_) | ((with_reducible show Ix ..); first | refine Ix.h ?_ | refine Ix.ha ?_) | (refine Al.hp H ?_; clear H; intro _ _ H _) | (refine St.h H ?_; clear H; intro _ H)) | refine Sm.strix T.ok ?_)
    (((conv => whnf); refine Cl.mkX (take_c k_name src pr (ts) wb _ (H.base2 HB) X.lo X.tb X.len (H.atC 2 rfl) (by decide)) ?_ ?_; rotate_left; (rintro ch w9 ⟨e9, p9, q9, h9, rfl, H'⟩; exact ⟨e9, p9, q9, (by rw [hR, h9]; rfl), rfl, Hp.pan H H' (.inl rfl)⟩)); rintro _ w8 ⟨t1, ts1, h1, rfl, H'⟩; replace H := H.upd (c := rdr src pr (ts)) H' rfl (.inl rfl); clear H'; rw [h1, Res.bind_ok] at hR; clear h1)
    repeat' ((conv => whnf); first | ((with_reducible show Gd (bs _ == _) _ _); first | refine Gd.sY (by assumption) ?_ | refine Gd.sk (by assumption) ?_ | refine Gd.sN (by assumption) ?_) | ((conv => whnf); first | (((with_reducible show Gd ..); first | (with_reducible first | refine Gd.t ?_ | refine Gd.f ?_ | (first | apply Gd.dec | apply Gd.beq | apply Gd.bne) <;> intro _ | refine Gd.not ?_) | refine Gd.t ?_ | refine Gd.f ?_ | apply Gd.var <;> intro _) <;> try (exfalso; omega)) | with_reducible refine Sq.mk ?_ | ((with_reducible show Ld1 ..); first | refine Ld1.h H ?_ | refine Ld1.rF ?_ | refine Ld1.r ?_) | ((with_reducible show Ld ..); first | refine Ld.h H ?_ | refine Ld.r ?_) | ((with_reducible show Ix ..); first | refine Ix.h ?_ | refine Ix.ha ?_) | (refine Al.hp H ?_; clear H; intro _ _ H _) | (refine St.h H ?_; clear H; intro _ H)) | refine Sm.strix T.ok ?_)
    (((conv => whnf); refine Cl.mkX (take_c s_comma src pr (ts1) wb _ (H.base2 HB) X.lo X.tb X.len (H.atC 2 rfl) (by decide)) ?_ ?_; rotate_left; (rintro ch w9 ⟨e9, p9, q9, h9, rfl, H'⟩; exact ⟨e9, p9, q9, (by rw [hR, h9]; rfl), rfl, Hp.pan H H' (.inl rfl)⟩)); rintro _ w8 ⟨t2, ts2, h1, rfl, H'⟩; replace H := H.upd (c := rdr src pr (ts1)) H' rfl (.inl rfl); clear H'; rw [h1, Res.bind_ok] at hR; clear h1)
    repeat' ((conv => whnf); first | ((with_reducible show Gd (bs _ == _) _ _); first | refine Gd.sY (by assumption) ?_ | refine Gd.sk (by assumption) ?_ | refine Gd.sN (by assumption) ?_) | ((conv => whnf); first | (((with_reducible show Gd ..); first | (with_reducible first | refine Gd.t ?_ | refine Gd.f ?_ | (first | apply Gd.dec | apply Gd.beq | apply Gd.bne) <;> intro _ | refine Gd.not ?_) | refine Gd.t ?_ | refine Gd.f ?_ | apply Gd.var <;> intro _) <;> try (exfalso; omega)) | with_reducible refine Sq.mk ?_ | ((with_reducible show Ld1 ..); first | refine Ld1.h H ?_ | refine Ld1.rF ?_ | refine Ld1.r ?_) | ((with_reducible show Ld ..); first | refine Ld.h H ?_ | refine Ld.r ?_) | ((with_reducible show Ix ..); first | refine Ix.h ?_ | refine Ix.ha ?_) | (refine Al.hp H ?_; clear H; intro _ _ H _) | (refine St.h H ?_; clear H; intro _ H)) | refine Sm.strix T.ok ?_)
    (((conv => whnf); refine Cl.mkX (take_c k_name src pr (ts2) wb _ (H.base2 HB) X.lo X.tb X.len (H.atC 2 rfl) (by decide)) ?_ ?_; rotate_left; (rintro ch w9 ⟨e9, p9, q9, h9, rfl, H'⟩; exact ⟨e9, p9, q9, (by rw [hR, h9]; rfl), rfl, Hp.pan H H' (.inl rfl)⟩)); rintro _ w8 ⟨t3, ts3, h1, rfl, H'⟩; replace H := H.upd (c := rdr src pr (ts2)) H' rfl (.inl rfl); clear H'; rw [h1, Res.bind_ok] at hR; clear h1)
    repeat' ((conv => whnf); first | ((with_reducible show Gd (bs _ == _) _ _); first | refine Gd.sY (by assumption) ?_ | refine Gd.sk (by assumption) ?_ | refine Gd.sN (by assumption) ?_) | ((conv => whnf); first | (((with_reducible show Gd ..); first | (with_reducible first | refine Gd.t ?_ | refine Gd.f ?_ | (first | apply Gd.dec | apply Gd.beq | apply Gd.bne) <;> intro _ | refine Gd.not ?_) | refine Gd.t ?_ | refine Gd.f ?_ | apply Gd.var <;> intro _) <;> try (exfalso; omega)) | with_reducible refine Sq.mk ?_ | ((with_reducible show Ld1 ..); first | refine Ld1.h H ?_ | refine Ld1.rF ?_ | refine Ld1.r ?_) | ((with_reducible show Ld ..); first | refine Ld.h H ?_ | refine Ld.r ?_) | ((with_reducible show Ix ..); first | refine Ix.h ?_ | refine Ix.ha ?_) | (refine Al.hp H ?_; clear H; intro _ _ H _) | (refine St.h H ?_; clear H; intro _ H)) | refine Sm.strix T.ok ?_)
    (((conv => whnf); refine Cl.mkX (take_c s_comma src pr (ts3) wb _ (H.base2 HB) X.lo X.tb X.len (H.atC 2 rfl) (by decide)) ?_ ?_; rotate_left; (rintro ch w9 ⟨e9, p9, q9, h9, rfl, H'⟩; exact ⟨e9, p9, q9, (by rw [hR, h9]; rfl), rfl, Hp.pan H H' (.inl rfl)⟩)); rintro _ w8 ⟨t4, ts4, h1, rfl, H'⟩; replace H := H.upd (c := rdr src pr (ts3)) H' rfl (.inl rfl); clear H'; rw [h1, Res.bind_ok] at hR; clear h1)
    repeat' ((conv => whnf); first | ((with_reducible show Gd (bs _ == _) _ _); first | refine Gd.sY (by assumption) ?_ | refine Gd.sk (by assumption) ?_ | refine Gd.sN (by assumption) ?_) | ((conv => whnf); first | (((with_reducible show Gd ..); first | (with_reducible first | refine Gd.t ?_ | refine Gd.f ?_ | (first | apply Gd.dec | apply Gd.beq | apply Gd.bne) <;> intro _ | refine Gd.not ?_) | refine Gd.t ?_ | refine Gd.f ?_ | apply Gd.var <;> intro _) <;> try (exfalso; omega)) | with_reducible refine Sq.mk ?_ | ((with_reducible show Ld1 ..); first | refine Ld1.h H ?_ | refine Ld1.rF ?_ | refine Ld1.r ?_) | ((with_reducible show Ld ..); first | refine Ld.h H ?_ | refine Ld.r ?_) | ((with_reducible show Ix ..); first | refine Ix.h ?_ | refine Ix.ha ?_) | (refine Al.hp H ?_; clear H; intro _ _ H _) | (refine St.h H ?_; clear H; intro _ H)) | refine Sm.strix T.ok ?_)
    have hfix : ∀ w', Hp (· = pr) w w' [bk p7 74 (ET.enc (.mk (6) (0) 0 (t1.text) (t3.text) none 0 [])), bk p6 74 T.t74.zero.cells.toList, rdr src pr (ts4)] → Hp (· = pr) w w' [bk p7 74 (ET.enc (.mk (6) (0) 0 (t1.text) (t3.text) none 0 [])), bk p6 74 T.t74.zero.cells.toList, rdr src pr (ts4)] := fun _ h => h
    replace H := hfix _ H
    clear hfix
    replace H := Hp.nil (Hp.trs0 H) ET.enc 6 74
    refine Lp.g0 T.ok (σ := Nat × Option Addr × Nat × List ET × List Tk) (fun q => [(38, .int .i64 (q.1 : Int)), (37, .int .i64 (3 : Int)), (7, .pointer (some ⟨p7, 0, none⟩)), (6, .pointer (some ⟨p6, 0, none⟩)), (2, .int .i64 (d : Int)), (0, .pointer (some ⟨pr, 0, none⟩))])
      (fun q w' => R = (kidsP F d 3 (3 - q.1) (ET.es q.2.2.2.1) q.2.2.2.2).bind (fun l ts5 => .ok (.mk (6) (0) 0 (t1.text) (t3.text) l) ts5) ∧ q.1 ≤ 3 ∧ q.2.2.2.1.length = q.1 ∧ Hp (· = pr) w w' [qu ET.enc 6 74 q.2.1 q.2.2.1 q.2.2.2.1, trs q.2.2.2.1, bk p7 74 (ET.enc (.mk (6) (0) 0 (t1.text) (t3.text) q.2.1 q.2.2.1 q.2.2.2.1)), bk p6 74 T.t74.zero.cells.toList, rdr src pr q.2.2.2.2]) (fun q _ => 3 - q.1) (0, none, 0, [], ts4) rfl ⟨rfl, rfl, rfl, rfl, rfl, rfl, trivial⟩ ⟨hR, Nat.zero_le _, rfl, H⟩ ?_
    clear H hR
    rintro ⟨i, A, c, l, ts⟩ w5 ⟨hR, hi, hli, H⟩
    simp only at hR hi hli H ⊢
    by_cases hin : i < 3
    case neg =>
      have hi : i = 3 := by omega
      subst hi
      replace hR : R = ((takeP s_rp ts).bind fun _ ts1 => .ok (ET.es l) ts1).bind (fun l ts5 => .ok (.mk (6) (0) 0 (t1.text) (t3.text) l) ts5) := hR
      rw [Res.bind_assoc] at hR
      repeat' ((conv => whnf); first | ((with_reducible show Gd (bs _ == _) _ _); first | refine Gd.sY (by assumption) ?_ | refine Gd.sk (by assumption) ?_ | refine Gd.sN (by assumption) ?_) | ((conv => whnf); first | (((with_reducible show Gd ..); first | (with_reducible first | refine Gd.t ?_ | refine Gd.f ?_ | (first | apply Gd.dec | apply Gd.beq | apply Gd.bne) <;> intro _ | refine Gd.not ?_) | refine Gd.t ?_ | refine Gd.f ?_ | apply Gd.var <;> intro _) <;> try (exfalso; omega)) | with_reducible refine Sq.mk ?_ | ((with_reducible show Ld1 ..); first | refine Ld1.h H ?_ | refine Ld1.rF ?_ | refine Ld1.r ?_) | ((with_reducible show Ld ..); first | refine Ld.h H ?_ | refine Ld.r ?_) | ((with_reducible show Ix ..); first | refine Ix.h ?_ | refine Ix.ha ?_) | (refine Al.hp H ?_; clear H; intro _ _ H _) | (refine St.h H ?_; clear H; intro _ H)) | refine Sm.strix T.ok ?_)
      (((conv => whnf); refine Cl.mkX (take_c s_rp src pr (ts) wb _ (H.base2 HB) X.lo X.tb X.len (H.atC 4 rfl) (by decide)) ?_ ?_; rotate_left; (rintro ch w9 ⟨e9, p9, q9, h9, rfl, H'⟩; exact ⟨e9, p9, q9, (by rw [hR, h9]; rfl), rfl, Hp.pan H H' (.inl rfl)⟩)); rintro _ w8 ⟨t9, ts9, h1, rfl, H'⟩; replace H := H.upd (c := rdr src pr (ts)) H' rfl (.inl rfl); clear H'; rw [h1, Res.bind_ok] at hR; clear h1)
      repeat' ((conv => whnf); first | ((with_reducible show Gd (bs _ == _) _ _); first | refine Gd.sY (by assumption) ?_ | refine Gd.sk (by assumption) ?_ | refine Gd.sN (by assumption) ?_) | ((conv => whnf); first | (((with_reducible show Gd ..); first | (with_reducible first | refine Gd.t ?_ | refine Gd.f ?_ | (first | apply Gd.dec | apply Gd.beq | apply Gd.bne) <;> intro _ | refine Gd.not ?_) | refine Gd.t ?_ | refine Gd.f ?_ | apply Gd.var <;> intro _) <;> try (exfalso; omega)) | with_reducible refine Sq.mk ?_ | ((with_reducible show Ld1 ..); first | refine Ld1.h H ?_ | refine Ld1.rF ?_ | refine Ld1.r ?_) | ((with_reducible show Ld ..); first | refine Ld.h H ?_ | refine Ld.r ?_) | ((with_reducible show Ix ..); first | refine Ix.h ?_ | refine Ix.ha ?_) | (refine Al.hp H ?_; clear H; intro _ _ H _) | (refine St.h H ?_; clear H; intro _ H)) | refine Sm.strix T.ok ?_)
      exact ⟨.mk (6) (0) 0 (t1.text) (t3.text) A c l, ts9, hR, et_v rfl, Hp.trsN (6) (0) 0 (t1.text) (t3.text) (H.sel [0, 0, 2] rfl)⟩
    have hni : 3 - i = (3 - (i + 1)) + 1 := by omega
    rw [hni] at hR
    simp only [kidsP] at hR
    by_cases hi0 : i = 0
    · rw [if_neg (by omega), Res.bind_ok, Res.bind_assoc] at hR
      repeat' ((conv => whnf); first | ((with_reducible show Gd (bs _ == _) _ _); first | refine Gd.sY (by assumption) ?_ | refine Gd.sk (by assumption) ?_ | refine Gd.sN (by assumption) ?_) | ((conv => whnf); first | (((with_reducible show Gd ..); first | (with_reducible first | refine Gd.t ?_ | refine Gd.f ?_ | (first | apply Gd.dec | apply Gd.beq | apply Gd.bne) <;> intro _ | refine Gd.not ?_) | refine Gd.t ?_ | refine Gd.f ?_ | apply Gd.var <;> intro _) <;> try (exfalso; omega)) | with_reducible refine Sq.mk ?_ | ((with_reducible show Ld1 ..); first | refine Ld1.h H ?_ | refine Ld1.rF ?_ | refine Ld1.r ?_) | ((with_reducible show Ld ..); first | refine Ld.h H ?_ | refine Ld.r ?_) | ((with_reducible show Ix ..); first | refine Ix.h ?_ | refine Ix.ha ?_) | (refine Al.hp H ?_; clear H; intro _ _ H _) | (refine St.h H ?_; clear H; intro _ H)) | refine Sm.strix T.ok ?_)
      all_goals first | (exfalso; omega) | skip
      (conv => whnf)
      refine Dr.chX T.ok mixed [0, 1, 2, 3, 7] [4, 5, 6, 8] (by kernel_rfl) rfl rfl (fun w' => Blk w' p7 74 (ET.enc (.mk (6) (0) 0 (t1.text) (t3.text) A c l))) (PanX R pr w) (fun ch F' w' hds h => by (conv => whnf); rw [show F'.ds = [] from hds]; exact h) (fun w1 eT _ => ?_)
      replace H := H.ext eT
      repeat' ((conv => whnf); refine QLd1.own (fun _ hw => hw) ?_)
      (conv => whnf)
      refine ⟨H.blk 2 rfl, ?_⟩
      ((conv => whnf); refine Cl.mkX (C.expr 0 d (ts) _ (by omega) hd (H.base2 HB) (H.atC 4 rfl) (Res.bind_out (by rw [← hR]; exact hne))) ?_ ?_; rotate_left; (rintro ch w9 ⟨e9, p9, q9, h9, rfl, H'⟩; exact ⟨e9, p9, q9, (by rw [hR, h9]; rfl), rfl, Hp.pan H H' (.inl rfl)⟩))
      rintro _ w3 ⟨⟨kd, o, n, nm, cb, A2, c2, l2⟩, ts2, h2, rfl, H'⟩
      replace H := H.updn (c := rdr src pr (ts)) (Hp.swap H') rfl (.inl rfl) (.inl rfl)
      clear H'
      rw [h2, Res.bind_ok] at hR
      (conv => whnf)
      refine ⟨H.blk 3 rfl, ?_⟩
      refine Sm.lith (cs := ET.enc (.mk kd o n nm cb A2 c2 l2)) H T.ok (fun p5 w4 H _ => ?_)
      (conv => whnf)
      refine ⟨H.blk 4 rfl, ?_⟩
      refine Sm.ap1 (enc := ET.enc) (.mk kd o n nm cb A2 c2 l2) H T.ok ?_ ?_ (fun A' c' w6 H => ?_)
      · show (l.length + 1) * 80 ≤ _; omega
      · omega
      simp only [List.cons_append, List.nil_append] at H
      (conv => whnf)
      refine ⟨H.blk 3 rfl, ?_⟩
      repeat' ((conv => whnf); first | ((with_reducible show Gd (bs _ == _) _ _); first | refine Gd.sY (by assumption) ?_ | refine Gd.sk (by assumption) ?_ | refine Gd.sN (by assumption) ?_) | ((conv => whnf); first | (((with_reducible show Gd ..); first | (with_reducible first | refine Gd.t ?_ | refine Gd.f ?_ | (first | apply Gd.dec | apply Gd.beq | apply Gd.bne) <;> intro _ | refine Gd.not ?_) | refine Gd.t ?_ | refine Gd.f ?_ | apply Gd.var <;> intro _) <;> try (exfalso; omega)) | with_reducible refine Sq.mk ?_ | ((with_reducible show Ld1 ..); first | refine Ld1.h H ?_ | refine Ld1.rF ?_ | refine Ld1.r ?_) | ((with_reducible show Ld ..); first | refine Ld.h H ?_ | refine Ld.r ?_) | ((with_reducible show Ix ..); first | refine Ix.h ?_ | refine Ix.ha ?_) | (refine Al.hp H ?_; clear H; intro _ _ H _) | (refine St.h H ?_; clear H; intro _ H)) | refine Sm.strix T.ok ?_)
      refine ⟨(i + 1, A', c', l ++ [.mk kd o n nm cb A2 c2 l2], ts2), ⟨at_int (m := ((i + 1 : Nat) : Int)) rfl (w64 (by simp) (by omega) (by omega)), rfl, rfl, rfl, rfl, rfl, trivial⟩, rfl, ⟨?_, by simp only; omega, by simp only [List.length_append, List.length_cons, List.length_nil]; omega, ?_⟩, by simp only; omega⟩
      · rw [hR, ET.es_app]; rfl
      · replace H := Hp.swap (Hp.trsS (H.sel [0, 1, 0, 0, 0, 0] rfl))
        have hl1 : (l ++ [ET.mk kd o n nm cb A2 c2 l2]).length = l.length + 1 := by simp
        simp only [ET.enc, hl1]
        exact H
    · rw [if_pos (by omega)] at hR
      replace hR : R = (takeP s_comma ts).bind fun _ ts1 => (F.expr 0 d ts1).bind fun e ts2 => (kidsP F d 3 (3 - (i + 1)) (ET.es l ++ [e]) ts2).bind (fun l ts5 => .ok (.mk (6) (0) 0 (t1.text) (t3.text) l) ts5) := by
        rw [hR]
        cases takeP s_comma ts with
        | out => rfl
        | err e p => rfl
        | ok a ts1 => simp only [Res.bind_ok, Res.bind_assoc]
      repeat' ((conv => whnf); first | ((with_reducible show Gd (bs _ == _) _ _); first | refine Gd.sY (by assumption) ?_ | refine Gd.sk (by assumption) ?_ | refine Gd.sN (by assumption) ?_) | ((conv => whnf); first | (((with_reducible show Gd ..); first | (with_reducible first | refine Gd.t ?_ | refine Gd.f ?_ | (first | apply Gd.dec | apply Gd.beq | apply Gd.bne) <;> intro _ | refine Gd.not ?_) | refine Gd.t ?_ | refine Gd.f ?_ | apply Gd.var <;> intro _) <;> try (exfalso; omega)) | with_reducible refine Sq.mk ?_ | ((with_reducible show Ld1 ..); first | refine Ld1.h H ?_ | refine Ld1.rF ?_ | refine Ld1.r ?_) | ((with_reducible show Ld ..); first | refine Ld.h H ?_ | refine Ld.r ?_) | ((with_reducible show Ix ..); first | refine Ix.h ?_ | refine Ix.ha ?_) | (refine Al.hp H ?_; clear H; intro _ _ H _) | (refine St.h H ?_; clear H; intro _ H)) | refine Sm.strix T.ok ?_)
      all_goals first | (exfalso; omega) | skip
      (((conv => whnf); refine Cl.mkX (take_c s_comma src pr (ts) wb _ (H.base2 HB) X.lo X.tb X.len (H.atC 4 rfl) (by decide)) ?_ ?_; rotate_left; (rintro ch w9 ⟨e9, p9, q9, h9, rfl, H'⟩; exact ⟨e9, p9, q9, (by rw [hR, h9]; rfl), rfl, Hp.pan H H' (.inl rfl)⟩)); rintro _ w8 ⟨t9, ts9, h1, rfl, H'⟩; replace H := H.upd (c := rdr src pr (ts)) H' rfl (.inl rfl); clear H'; rw [h1, Res.bind_ok] at hR; clear h1)
      repeat' ((conv => whnf); first | ((with_reducible show Gd (bs _ == _) _ _); first | refine Gd.sY (by assumption) ?_ | refine Gd.sk (by assumption) ?_ | refine Gd.sN (by assumption) ?_) | ((conv => whnf); first | (((with_reducible show Gd ..); first | (with_reducible first | refine Gd.t ?_ | refine Gd.f ?_ | (first | apply Gd.dec | apply Gd.beq | apply Gd.bne) <;> intro _ | refine Gd.not ?_) | refine Gd.t ?_ | refine Gd.f ?_ | apply Gd.var <;> intro _) <;> try (exfalso; omega)) | with_reducible refine Sq.mk ?_ | ((with_reducible show Ld1 ..); first | refine Ld1.h H ?_ | refine Ld1.rF ?_ | refine Ld1.r ?_) | ((with_reducible show Ld ..); first | refine Ld.h H ?_ | refine Ld.r ?_) | ((with_reducible show Ix ..); first | refine Ix.h ?_ | refine Ix.ha ?_) | (refine Al.hp H ?_; clear H; intro _ _ H _) | (refine St.h H ?_; clear H; intro _ H)) | refine Sm.strix T.ok ?_)
      (conv => whnf)
      refine Dr.chX T.ok mixed [0, 1, 2, 3, 7] [4, 5, 6, 8] (by kernel_rfl) rfl rfl (fun w' => Blk w' p7 74 (ET.enc (.mk (6) (0) 0 (t1.text) (t3.text) A c l))) (PanX R pr w) (fun ch F' w' hds h => by (conv => whnf); rw [show F'.ds = [] from hds]; exact h) (fun w1 eT _ => ?_)
      replace H := H.ext eT
      repeat' ((conv => whnf); refine QLd1.own (fun _ hw => hw) ?_)
      (conv => whnf)
      refine ⟨H.blk 2 rfl, ?_⟩
      ((conv => whnf); refine Cl.mkX (C.expr 0 d (ts9) _ (by omega) hd (H.base2 HB) (H.atC 4 rfl) (Res.bind_out (by rw [← hR]; exact hne))) ?_ ?_; rotate_left; (rintro ch w9 ⟨e9, p9, q9, h9, rfl, H'⟩; exact ⟨e9, p9, q9, (by rw [hR, h9]; rfl), rfl, Hp.pan H H' (.inl rfl)⟩))
      rintro _ w3 ⟨⟨kd, o, n, nm, cb, A2, c2, l2⟩, ts2, h2, rfl, H'⟩
      replace H := H.updn (c := rdr src pr (ts9)) (Hp.swap H') rfl (.inl rfl) (.inl rfl)
      clear H'
      rw [h2, Res.bind_ok] at hR
      (conv => whnf)
      refine ⟨H.blk 3 rfl, ?_⟩
      refine Sm.lith (cs := ET.enc (.mk kd o n nm cb A2 c2 l2)) H T.ok (fun p5 w4 H _ => ?_)
      (conv => whnf)
      refine ⟨H.blk 4 rfl, ?_⟩
      refine Sm.ap1 (enc := ET.enc) (.mk kd o n nm cb A2 c2 l2) H T.ok ?_ ?_ (fun A' c' w6 H => ?_)
      · show (l.length + 1) * 80 ≤ _; omega
      · omega
      simp only [List.cons_append, List.nil_append] at H
      (conv => whnf)
      refine ⟨H.blk 3 rfl, ?_⟩
      repeat' ((conv => whnf); first | ((with_reducible show Gd (bs _ == _) _ _); first | refine Gd.sY (by assumption) ?_ | refine Gd.sk (by assumption) ?_ | refine Gd.sN (by assumption) ?_) | ((conv => whnf); first | (((with_reducible show Gd ..); first | (with_reducible first | refine Gd.t ?_ | refine Gd.f ?_ | (first | apply Gd.dec | apply Gd.beq | apply Gd.bne) <;> intro _ | refine Gd.not ?_) | refine Gd.t ?_ | refine Gd.f ?_ | apply Gd.var <;> intro _) <;> try (exfalso; omega)) | with_reducible refine Sq.mk ?_ | ((with_reducible show Ld1 ..); first | refine Ld1.h H ?_ | refine Ld1.rF ?_ | refine Ld1.r ?_) | ((with_reducible show Ld ..); first | refine Ld.h H ?_ | refine Ld.r ?_) | ((with_reducible show Ix ..); first | refine Ix.h ?_ | refine Ix.ha ?_) | (refine Al.hp H ?_; clear H; intro _ _ H _) | (refine St.h H ?_; clear H; intro _ H)) | refine Sm.strix T.ok ?_)
      refine ⟨(i + 1, A', c', l ++ [.mk kd o n nm cb A2 c2 l2], ts2), ⟨at_int (m := ((i + 1 : Nat) : Int)) rfl (w64 (by simp) (by omega) (by omega)), rfl, rfl, rfl, rfl, rfl, trivial⟩, rfl, ⟨?_, by simp only; omega, by simp only [List.length_append, List.length_cons, List.length_nil]; omega, ?_⟩, by simp only; omega⟩
      · rw [hR, ET.es_app]; rfl
      · replace H := Hp.swap (Hp.trsS (H.sel [0, 1, 0, 0, 0, 0] rfl))
        have hl1 : (l ++ [ET.mk kd o n nm cb A2 c2 l2]).length = l.length + 1 := by simp
        simp only [ET.enc, hl1]
        exact H
  · rw [if_neg hk1] at hR
    by_cases hk2 : k = k_each
    · rw [if_pos hk2] at hR
      repeat' ((conv => whnf); first | ((with_reducible show Gd (bs _ == _) _ _); first | refine Gd.sY (by assumption) ?_ | refine Gd.sk (by assumption) ?_ | refine Gd.sN (by assumption) ?_) | ((conv => whnf); first | (((with_reducible show Gd ..); first | (with_reducible first | refine Gd.t ?_ | refine Gd.f ?_ | (first | apply Gd.dec | apply Gd.beq | apply Gd.bne) <;> intro _ | refine Gd.not ?_) | refine Gd.t ?_ | refine Gd.f ?_ | apply Gd.var <;> intro _) <;> try (exfalso; omega)) | with_reducible refine Sq.mk ?_ | ((with_reducible show Ld1 ..); first | refine Ld1.h H ?_ | refine Ld1.rF ?_ | refine Ld1.r ?_) | ((with_reducible show Ld ..); first | refine Ld.h H ?_ | refine Ld.r ?_) | ((with_reducible show Ix ..); first | refine Ix.h ?_ | refine Ix.ha ?_) | (refine Al.hp H ?_; clear H; intro _ _ H _) | (refine St.h H ?_; clear H; intro _ H)) | refine Sm.strix T.ok ?_)
      (((conv => whnf); refine Cl.mkX (take_c k_name src pr (ts) wb _ (H.base2 HB) X.lo X.tb X.len (H.atC 2 rfl) (by decide)) ?_ ?_; rotate_left; (rintro ch w9 ⟨e9, p9, q9, h9, rfl, H'⟩; exact ⟨e9, p9, q9, (by rw [hR, h9]; rfl), rfl, Hp.pan H H' (.inl rfl)⟩)); rintro _ w8 ⟨t1, ts1, h1, rfl, H'⟩; replace H := H.upd (c := rdr src pr (ts)) H' rfl (.inl rfl); clear H'; rw [h1, Res.bind_ok] at hR; clear h1)
      repeat' ((conv => whnf); first | ((with_reducible show Gd (bs _ == _) _ _); first | refine Gd.sY (by assumption) ?_ | refine Gd.sk (by assumption) ?_ | refine Gd.sN (by assumption) ?_) | ((conv => whnf); first | (((with_reducible show Gd ..); first | (with_reducible first | refine Gd.t ?_ | refine Gd.f ?_ | (first | apply Gd.dec | apply Gd.beq | apply Gd.bne) <;> intro _ | refine Gd.not ?_) | refine Gd.t ?_ | refine Gd.f ?_ | apply Gd.var <;> intro _) <;> try (exfalso; omega)) | with_reducible refine Sq.mk ?_ | ((with_reducible show Ld1 ..); first | refine Ld1.h H ?_ | refine Ld1.rF ?_ | refine Ld1.r ?_) | ((with_reducible show Ld ..); first | refine Ld.h H ?_ | refine Ld.r ?_) | ((with_reducible show Ix ..); first | refine Ix.h ?_ | refine Ix.ha ?_) | (refine Al.hp H ?_; clear H; intro _ _ H _) | (refine St.h H ?_; clear H; intro _ H)) | refine Sm.strix T.ok ?_)
      (((conv => whnf); refine Cl.mkX (take_c s_comma src pr (ts1) wb _ (H.base2 HB) X.lo X.tb X.len (H.atC 2 rfl) (by decide)) ?_ ?_; rotate_left; (rintro ch w9 ⟨e9, p9, q9, h9, rfl, H'⟩; exact ⟨e9, p9, q9, (by rw [hR, h9]; rfl), rfl, Hp.pan H H' (.inl rfl)⟩)); rintro _ w8 ⟨t2, ts2, h1, rfl, H'⟩; replace H := H.upd (c := rdr src pr (ts1)) H' rfl (.inl rfl); clear H'; rw [h1, Res.bind_ok] at hR; clear h1)
      repeat' ((conv => whnf); first | ((with_reducible show Gd (bs _ == _) _ _); first | refine Gd.sY (by assumption) ?_ | refine Gd.sk (by assumption) ?_ | refine Gd.sN (by assumption) ?_) | ((conv => whnf); first | (((with_reducible show Gd ..); first | (with_reducible first | refine Gd.t ?_ | refine Gd.f ?_ | (first | apply Gd.dec | apply Gd.beq | apply Gd.bne) <;> intro _ | refine Gd.not ?_) | refine Gd.t ?_ | refine Gd.f ?_ | apply Gd.var <;> intro _) <;> try (exfalso; omega)) | with_reducible refine Sq.mk ?_ | ((with_reducible show Ld1 ..); first | refine Ld1.h H ?_ | refine Ld1.rF ?_ | refine Ld1.r ?_) | ((with_reducible show Ld ..); first | refine Ld.h H ?_ | refine Ld.r ?_) | ((with_reducible show Ix ..); first | refine Ix.h ?_ | refine Ix.ha ?_) | (refine Al.hp H ?_; clear H; intro _ _ H _) | (refine St.h H ?_; clear H; intro _ H)) | refine Sm.strix T.ok ?_)
      have hfix : ∀ w', Hp (· = pr) w w' [bk p7 74 (ET.enc (.mk (7) (0) 0 (t1.text) (([] : Bs)) none 0 [])), bk p6 74 T.t74.zero.cells.toList, rdr src pr (ts2)] → Hp (· = pr) w w' [bk p7 74 (ET.enc (.mk (7) (0) 0 (t1.text) (([] : Bs)) none 0 [])), bk p6 74 T.t74.zero.cells.toList, rdr src pr (ts2)] := fun _ h => h
      replace H := hfix _ H
      clear hfix
      replace H := Hp.nil (Hp.trs0 H) ET.enc 6 74
      refine Lp.g0 T.ok (σ := Nat × Option Addr × Nat × List ET × List Tk) (fun q => [(38, .int .i64 (q.1 : Int)), (37, .int .i64 (2 : Int)), (7, .pointer (some ⟨p7, 0, none⟩)), (6, .pointer (some ⟨p6, 0, none⟩)), (2, .int .i64 (d : Int)), (0, .pointer (some ⟨pr, 0, none⟩))])
        (fun q w' => R = (kidsP F d 2 (2 - q.1) (ET.es q.2.2.2.1) q.2.2.2.2).bind (fun l ts5 => .ok (.mk (7) (0) 0 (t1.text) (([] : Bs)) l) ts5) ∧ q.1 ≤ 2 ∧ q.2.2.2.1.length = q.1 ∧ Hp (· = pr) w w' [qu ET.enc 6 74 q.2.1 q.2.2.1 q.2.2.2.1, trs q.2.2.2.1, bk p7 74 (ET.enc (.mk (7) (0) 0 (t1.text) (([] : Bs)) q.2.1 q.2.2.1 q.2.2.2.1)), bk p6 74 T.t74.zero.cells.toList, rdr src pr q.2.2.2.2]) (fun q _ => 2 - q.1) (0, none, 0, [], ts2) rfl ⟨rfl, rfl, rfl, rfl, rfl, rfl, trivial⟩ ⟨hR, Nat.zero_le _, rfl, H⟩ ?_
      clear H hR
      rintro ⟨i, A, c, l, ts⟩ w5 ⟨hR, hi, hli, H⟩
      simp only at hR hi hli H ⊢
      by_cases hin : i < 2
      case neg =>
        have hi : i = 2 := by omega
        subst hi
        replace hR : R = ((takeP s_rp ts).bind fun _ ts1 => .ok (ET.es l) ts1).bind (fun l ts5 => .ok (.mk (7) (0) 0 (t1.text) (([] : Bs)) l) ts5) := hR
        rw [Res.bind_assoc] at hR
        repeat' ((conv => whnf); first | ((with_reducible show Gd (bs _ == _) _ _); first | refine Gd.sY (by assumption) ?_ | refine Gd.sk (by assumption) ?_ | refine Gd.sN (by assumption) ?_) | ((conv => whnf); first | (((with_reducible show Gd ..); first | (with_reducible first | refine Gd.t ?_ | refine Gd.f ?_ | (first | apply Gd.dec | apply Gd.beq | apply Gd.bne) <;> intro _ | refine Gd.not ?_) | refine Gd.t ?_ | refine Gd.f ?_ | apply Gd.var <;> intro _) <;> try (exfalso; omega)) | with_reducible refine Sq.mk ?_ | ((with_reducible show Ld1 ..); first | refine Ld1.h H ?_ | refine Ld1.rF ?_ | refine Ld1.r ?_) | ((with_reducible show Ld ..); first | refine Ld.h H ?_ | refine Ld.r ?_) | ((with_reducible show Ix ..); first | refine Ix.h ?_ | refine Ix.ha ?_) | (refine Al.hp H ?_; clear H; intro _ _ H _) | (refine St.h H ?_; clear H; intro _ H)) | refine Sm.strix T.ok ?_)
        (((conv => whnf); refine Cl.mkX (take_c s_rp src pr (ts) wb _ (H.base2 HB) X.lo X.tb X.len (H.atC 4 rfl) (by decide)) ?_ ?_; rotate_left; (rintro ch w9 ⟨e9, p9, q9, h9, rfl, H'⟩; exact ⟨e9, p9, q9, (by rw [hR, h9]; rfl), rfl, Hp.pan H H' (.inl rfl)⟩)); rintro _ w8 ⟨t9, ts9, h1, rfl, H'⟩; replace H := H.upd (c := rdr src pr (ts)) H' rfl (.inl rfl); clear H'; rw [h1, Res.bind_ok] at hR; clear h1)
        repeat' ((conv => whnf); first | ((with_reducible show Gd (bs _ == _) _ _); first | refine Gd.sY (by assumption) ?_ | refine Gd.sk (by assumption) ?_ | refine Gd.sN (by assumption) ?_) | ((conv => whnf); first | (((with_reducible show Gd ..); first | (with_reducible first | refine Gd.t ?_ | refine Gd.f ?_ | (first | apply Gd.dec | apply Gd.beq | apply Gd.bne) <;> intro _ | refine Gd.not ?_) | refine Gd.t ?_ | refine Gd.f ?_ | apply Gd.var <;> intro _) <;> try (exfalso; omega)) | with_reducible refine Sq.mk ?_ | ((with_reducible show Ld1 ..); first | refine Ld1.h H ?_ | refine Ld1.rF ?_ | refine Ld1.r ?_) | ((with_reducible show Ld ..); first | refine Ld.h H ?_ | refine Ld.r ?_) | ((with_reducible show Ix ..); first | refine Ix.h ?_ | refine Ix.ha ?_) | (refine Al.hp H ?_; clear H; intro _ _ H _) | (refine St.h H ?_; clear H; intro _ H)) | refine Sm.strix T.ok ?_)
        exact ⟨.mk (7) (0) 0 (t1.text) (([] : Bs)) A c l, ts9, hR, et_v rfl, Hp.trsN (7) (0) 0 (t1.text) (([] : Bs)) (H.sel [0, 0, 2] rfl)⟩
      have hni : 2 - i = (2 - (i + 1)) + 1 := by omega
      rw [hni] at hR
      simp only [kidsP] at hR
      by_cases hi0 : i = 0
      · rw [if_neg (by omega), Res.bind_ok, Res.bind_assoc] at hR
        repeat' ((conv => whnf); first | ((with_reducible show Gd (bs _ == _) _ _); first | refine Gd.sY (by assumption) ?_ | refine Gd.sk (by assumption) ?_ | refine Gd.sN (by assumption) ?_) | ((conv => whnf); first | (((with_reducible show Gd ..); first | (with_reducible first | refine Gd.t ?_ | refine Gd.f ?_ | (first | apply Gd.dec | apply Gd.beq | apply Gd.bne) <;> intro _ | refine Gd.not ?_) | refine Gd.t ?_ | refine Gd.f ?_ | apply Gd.var <;> intro _) <;> try (exfalso; omega)) | with_reducible refine Sq.mk ?_ | ((with_reducible show Ld1 ..); first | refine Ld1.h H ?_ | refine Ld1.rF ?_ | refine Ld1.r ?_) | ((with_reducible show Ld ..); first | refine Ld.h H ?_ | refine Ld.r ?_) | ((with_reducible show Ix ..); first | refine Ix.h ?_ | refine Ix.ha ?_) | (refine Al.hp H ?_; clear H; intro _ _ H _) | (refine St.h H ?_; clear H; intro _ H)) | refine Sm.strix T.ok ?_)
        all_goals first | (exfalso; omega) | skip
        (conv => whnf)
        refine Dr.chX T.ok mixed [0, 1, 2, 3, 7] [4, 5, 6, 8] (by kernel_rfl) rfl rfl (fun w' => Blk w' p7 74 (ET.enc (.mk (7) (0) 0 (t1.text) (([] : Bs)) A c l))) (PanX R pr w) (fun ch F' w' hds h => by (conv => whnf); rw [show F'.ds = [] from hds]; exact h) (fun w1 eT _ => ?_)
        replace H := H.ext eT
        repeat' ((conv => whnf); refine QLd1.own (fun _ hw => hw) ?_)
        (conv => whnf)
        refine ⟨H.blk 2 rfl, ?_⟩
        ((conv => whnf); refine Cl.mkX (C.expr 0 d (ts) _ (by omega) hd (H.base2 HB) (H.atC 4 rfl) (Res.bind_out (by rw [← hR]; exact hne))) ?_ ?_; rotate_left; (rintro ch w9 ⟨e9, p9, q9, h9, rfl, H'⟩; exact ⟨e9, p9, q9, (by rw [hR, h9]; rfl), rfl, Hp.pan H H' (.inl rfl)⟩))
        rintro _ w3 ⟨⟨kd, o, n, nm, cb, A2, c2, l2⟩, ts2, h2, rfl, H'⟩
        replace H := H.updn (c := rdr src pr (ts)) (Hp.swap H') rfl (.inl rfl) (.inl rfl)
        clear H'
        rw [h2, Res.bind_ok] at hR
        (conv => whnf)
        refine ⟨H.blk 3 rfl, ?_⟩
        refine Sm.lith (cs := ET.enc (.mk kd o n nm cb A2 c2 l2)) H T.ok (fun p5 w4 H _ => ?_)
        (conv => whnf)
        refine ⟨H.blk 4 rfl, ?_⟩
        refine Sm.ap1 (enc := ET.enc) (.mk kd o n nm cb A2 c2 l2) H T.ok ?_ ?_ (fun A' c' w6 H => ?_)
        · show (l.length + 1) * 80 ≤ _; omega
        · omega
        simp only [List.cons_append, List.nil_append] at H
        (conv => whnf)
        refine ⟨H.blk 3 rfl, ?_⟩
        repeat' ((conv => whnf); first | ((with_reducible show Gd (bs _ == _) _ _); first | refine Gd.sY (by assumption) ?_ | refine Gd.sk (by assumption) ?_ | refine Gd.sN (by assumption) ?_) | ((conv => whnf); first | (((with_reducible show Gd ..); first | (with_reducible first | refine Gd.t ?_ | refine Gd.f ?_ | (first | apply Gd.dec | apply Gd.beq | apply Gd.bne) <;> intro _ | refine Gd.not ?_) | refine Gd.t ?_ | refine Gd.f ?_ | apply Gd.var <;> intro _) <;> try (exfalso; omega)) | with_reducible refine Sq.mk ?_ | ((with_reducible show Ld1 ..); first | refine Ld1.h H ?_ | refine Ld1.rF ?_ | refine Ld1.r ?_) | ((with_reducible show Ld ..); first | refine Ld.h H ?_ | refine Ld.r ?_) | ((with_reducible show Ix ..); first | refine Ix.h ?_ | refine Ix.ha ?_) | (refine Al.hp H ?_; clear H; intro _ _ H _) | (refine St.h H ?_; clear H; intro _ H)) | refine Sm.strix T.ok ?_)
        refine ⟨(i + 1, A', c', l ++ [.mk kd o n nm cb A2 c2 l2], ts2), ⟨at_int (m := ((i + 1 : Nat) : Int)) rfl (w64 (by simp) (by omega) (by omega)), rfl, rfl, rfl, rfl, rfl, trivial⟩, rfl, ⟨?_, by simp only; omega, by simp only [List.length_append, List.length_cons, List.length_nil]; omega, ?_⟩, by simp only; omega⟩
        · rw [hR, ET.es_app]; rfl
        · replace H := Hp.swap (Hp.trsS (H.sel [0, 1, 0, 0, 0, 0] rfl))
          have hl1 : (l ++ [ET.mk kd o n nm cb A2 c2 l2]).length = l.length + 1 := by simp
          simp only [ET.enc, hl1]
          exact H
      · rw [if_pos (by omega)] at hR
        replace hR : R = (takeP s_comma ts).bind fun _ ts1 => (F.expr 0 d ts1).bind fun e ts2 => (kidsP F d 2 (2 - (i + 1)) (ET.es l ++ [e]) ts2).bind (fun l ts5 => .ok (.mk (7) (0) 0 (t1.text) (([] : Bs)) l) ts5) := by
          rw [hR]
          cases takeP s_comma ts with
          | out => rfl
          | err e p => rfl
          | ok a ts1 => simp only [Res.bind_ok, Res.bind_assoc]
        repeat' ((conv => whnf); first | ((with_reducible show Gd (bs _ == _) _ _); first | refine Gd.sY (by assumption) ?_ | refine Gd.sk (by assumption) ?_ | refine Gd.sN (by assumption) ?_) | ((conv => whnf); first | (((with_reducible show Gd ..); first | (with_reducible first | refine Gd.t ?_ | refine Gd.f ?_ | (first | apply Gd.dec | apply Gd.beq | apply Gd.bne) <;> intro _ | refine Gd.not ?_) | refine Gd.t ?_ | refine Gd.f ?_ | apply Gd.var <;> intro _) <;> try (exfalso; omega)) | with_reducible refine Sq.mk ?_ | ((with_reducible show Ld1 ..); first | refine Ld1.h H ?_ | refine Ld1.rF ?_ | refine Ld1.r ?_) | ((with_reducible show Ld ..); first | refine Ld.h H ?_ | refine Ld.r ?_) | ((with_reducible show Ix ..); first | refine Ix.h ?_ | refine Ix.ha ?_) | (refine Al.hp H ?_; clear H; intro _ _ H _) | (refine St.h H ?_; clear H; intro _ H)) | refine Sm.strix T.ok ?_)
        all_goals first | (exfalso; omega) | skip
        (((conv => whnf); refine Cl.mkX (take_c s_comma src pr (ts) wb _ (H.base2 HB) X.lo X.tb X.len (H.atC 4 rfl) (by decide)) ?_ ?_; rotate_left; (rintro ch w9 ⟨e9, p9, q9, h9, rfl, H'⟩; exact ⟨e9, p9, q9, (by rw [hR, h9]; rfl), rfl, Hp.pan H H' (.inl rfl)⟩)); rintro _ w8 ⟨t9, ts9, h1, rfl, H'⟩; replace H := H.upd (c := rdr src pr (ts)) H' rfl (.inl rfl); clear H'; rw [h1, Res.bind_ok] at hR; clear h1)
        repeat' ((conv => whnf); first | ((with_reducible show Gd (bs _ == _) _ _); first | refine Gd.sY (by assumption) ?_ | refine Gd.sk (by assumption) ?_ | refine Gd.sN (by assumption) ?_) | ((conv => whnf); first | (((with_reducible show Gd ..); first | (with_reducible first | refine Gd.t ?_ | refine Gd.f ?_ | (first | apply Gd.dec | apply Gd.beq | apply Gd.bne) <;> intro _ | refine Gd.not ?_) | refine Gd.t ?_ | refine Gd.f ?_ | apply Gd.var <;> intro _) <;> try (exfalso; omega)) | with_reducible refine Sq.mk ?_ | ((with_reducible show Ld1 ..); first | refine Ld1.h H ?_ | refine Ld1.rF ?_ | refine Ld1.r ?_) | ((with_reducible show Ld ..); first | refine Ld.h H ?_ | refine Ld.r ?_) | ((with_reducible show Ix ..); first | refine Ix.h ?_ | refine Ix.ha ?_) | (refine Al.hp H ?_; clear H; intro _ _ H _) | (refine St.h H ?_; clear H; intro _ H)) | refine Sm.strix T.ok ?_)
        (conv => whnf)
        refine Dr.chX T.ok mixed [0, 1, 2, 3, 7] [4, 5, 6, 8] (by kernel_rfl) rfl rfl (fun w' => Blk w' p7 74 (ET.enc (.mk (7) (0) 0 (t1.text) (([] : Bs)) A c l))) (PanX R pr w) (fun ch F' w' hds h => by (conv => whnf); rw [show F'.ds = [] from hds]; exact h) (fun w1 eT _ => ?_)
        replace H := H.ext eT
        repeat' ((conv => whnf); refine QLd1.own (fun _ hw => hw) ?_)
        (conv => whnf)
        refine ⟨H.blk 2 rfl, ?_⟩
        ((conv => whnf); refine Cl.mkX (C.expr 0 d (ts9) _ (by omega) hd (H.base2 HB) (H.atC 4 rfl) (Res.bind_out (by rw [← hR]; exact hne))) ?_ ?_; rotate_left; (rintro ch w9 ⟨e9, p9, q9, h9, rfl, H'⟩; exact ⟨e9, p9, q9, (by rw [hR, h9]; rfl), rfl, Hp.pan H H' (.inl rfl)⟩))
        rintro _ w3 ⟨⟨kd, o, n, nm, cb, A2, c2, l2⟩, ts2, h2, rfl, H'⟩
        replace H := H.updn (c := rdr src pr (ts9)) (Hp.swap H') rfl (.inl rfl) (.inl rfl)
        clear H'
        rw [h2, Res.bind_ok] at hR
        (conv => whnf)
        refine ⟨H.blk 3 rfl, ?_⟩
        refine Sm.lith (cs := ET.enc (.mk kd o n nm cb A2 c2 l2)) H T.ok (fun p5 w4 H _ => ?_)
        (conv => whnf)
        refine ⟨H.blk 4 rfl, ?_⟩
        refine Sm.ap1 (enc := ET.enc) (.mk kd o n nm cb A2 c2 l2) H T.ok ?_ ?_ (fun A' c' w6 H => ?_)
        · show (l.length + 1) * 80 ≤ _; omega
        · omega
        simp only [List.cons_append, List.nil_append] at H
        (conv => whnf)
        refine ⟨H.blk 3 rfl, ?_⟩
        repeat' ((conv => whnf); first | ((with_reducible show Gd (bs _ == _) _ _); first | refine Gd.sY (by assumption) ?_ | refine Gd.sk (by assumption) ?_ | refine Gd.sN (by assumption) ?_) | ((conv => whnf); first | (((with_reducible show Gd ..); first | (with_reducible first | refine Gd.t ?_ | refine Gd.f ?_ | (first | apply Gd.dec | apply Gd.beq | apply Gd.bne) <;> intro _ | refine Gd.not ?_) | refine Gd.t ?_ | refine Gd.f ?_ | apply Gd.var <;> intro _) <;> try (exfalso; omega)) | with_reducible refine Sq.mk ?_ | ((with_reducible show Ld1 ..); first | refine Ld1.h H ?_ | refine Ld1.rF ?_ | refine Ld1.r ?_) | ((with_reducible show Ld ..); first | refine Ld.h H ?_ | refine Ld.r ?_) | ((with_reducible show Ix ..); first | refine Ix.h ?_ | refine Ix.ha ?_) | (refine Al.hp H ?_; clear H; intro _ _ H _) | (refine St.h H ?_; clear H; intro _ H)) | refine Sm.strix T.ok ?_)
        refine ⟨(i + 1, A', c', l ++ [.mk kd o n nm cb A2 c2 l2], ts2), ⟨at_int (m := ((i + 1 : Nat) : Int)) rfl (w64 (by simp) (by omega) (by omega)), rfl, rfl, rfl, rfl, rfl, trivial⟩, rfl, ⟨?_, by simp only; omega, by simp only [List.length_append, List.length_cons, List.length_nil]; omega, ?_⟩, by simp only; omega⟩
        · rw [hR, ET.es_app]; rfl
        · replace H := Hp.swap (Hp.trsS (H.sel [0, 1, 0, 0, 0, 0] rfl))
          have hl1 : (l ++ [ET.mk kd o n nm cb A2 c2 l2]).length = l.length + 1 := by simp
          simp only [ET.enc, hl1]
          exact H
    · rw [if_neg hk2] at hR
      repeat' ((conv => whnf); first | ((with_reducible show Gd (bs _ == _) _ _); first | refine Gd.sY (by assumption) ?_ | refine Gd.sk (by assumption) ?_ | refine Gd.sN (by assumption) ?_) | ((conv => whnf); first | (((with_reducible show Gd ..); first | (with_reducible first | refine Gd.t ?_ | refine Gd.f ?_ | (first | apply Gd.dec | apply Gd.beq | apply Gd.bne) <;> intro _ | refine Gd.not ?_) | refine Gd.t ?_ | refine Gd.f ?_ | apply Gd.var <;> intro _) <;> try (exfalso; omega)) | with_reducible refine Sq.mk ?_ | ((with_reducible show Ld1 ..); first | refine Ld1.h H ?_ | refine Ld1.rF ?_ | refine Ld1.r ?_) | ((with_reducible show Ld ..); first | refine Ld.h H ?_ | refine Ld.r ?_) | ((with_reducible show Ix ..); first | refine Ix.h ?_ | refine Ix.ha ?_) | (refine Al.hp H ?_; clear H; intro _ _ H _) | (refine St.h H ?_; clear H; intro _ H)) | refine Sm.strix T.ok ?_)
      (((conv => whnf); refine Cl.mk (find_c k _ (X.tb.ext (H.base2 HB))) ?_); rintro _ _ ⟨rfl, hx⟩; replace H := H.ext hx; clear hx)
      repeat' ((conv => whnf); first | ((with_reducible show Gd (bs _ == _) _ _); first | refine Gd.sY (by assumption) ?_ | refine Gd.sk (by assumption) ?_ | refine Gd.sN (by assumption) ?_) | ((conv => whnf); first | (((with_reducible show Gd ..); first | (with_reducible first | refine Gd.t ?_ | refine Gd.f ?_ | (first | apply Gd.dec | apply Gd.beq | apply Gd.bne) <;> intro _ | refine Gd.not ?_) | refine Gd.t ?_ | refine Gd.f ?_ | apply Gd.var <;> intro _) <;> try (exfalso; omega)) | with_reducible refine Sq.mk ?_ | ((with_reducible show Ld1 ..); first | refine Ld1.h H ?_ | refine Ld1.rF ?_ | refine Ld1.r ?_) | ((with_reducible show Ld ..); first | refine Ld.h H ?_ | refine Ld.r ?_) | ((with_reducible show Ix ..); first | refine Ix.h ?_ | refine Ix.ha ?_) | (refine Al.hp H ?_; clear H; intro _ _ H _) | (refine St.h H ?_; clear H; intro _ H)) | refine Sm.strix T.ok ?_)
      have hfix : ∀ w', Hp (· = pr) w w' [bk p7 74 (ET.enc (.mk (4) (findOp k) 0 (([] : Bs)) (([] : Bs)) none 0 [])), bk p6 74 T.t74.zero.cells.toList, rdr src pr (ts)] → Hp (· = pr) w w' [bk p7 74 (ET.enc (.mk (4) (findOp k) 0 (([] : Bs)) (([] : Bs)) none 0 [])), bk p6 74 T.t74.zero.cells.toList, rdr src pr (ts)] := fun _ h => h
      replace H := hfix _ H
      clear hfix
      replace H := Hp.nil (Hp.trs0 H) ET.enc 6 74
      refine Lp.g0 T.ok (σ := Nat × Option Addr × Nat × List ET × List Tk) (fun q => [(38, .int .i64 (q.1 : Int)), (37, .int .i64 (2 : Int)), (7, .pointer (some ⟨p7, 0, none⟩)), (6, .pointer (some ⟨p6, 0, none⟩)), (2, .int .i64 (d : Int)), (0, .pointer (some ⟨pr, 0, none⟩))])
        (fun q w' => R = (kidsP F d 2 (2 - q.1) (ET.es q.2.2.2.1) q.2.2.2.2).bind (fun l ts5 => .ok (.mk (4) (findOp k) 0 (([] : Bs)) (([] : Bs)) l) ts5) ∧ q.1 ≤ 2 ∧ q.2.2.2.1.length = q.1 ∧ Hp (· = pr) w w' [qu ET.enc 6 74 q.2.1 q.2.2.1 q.2.2.2.1, trs q.2.2.2.1, bk p7 74 (ET.enc (.mk (4) (findOp k) 0 (([] : Bs)) (([] : Bs)) q.2.1 q.2.2.1 q.2.2.2.1)), bk p6 74 T.t74.zero.cells.toList, rdr src pr q.2.2.2.2]) (fun q _ => 2 - q.1) (0, none, 0, [], ts) rfl ⟨rfl, rfl, rfl, rfl, rfl, rfl, trivial⟩ ⟨hR, Nat.zero_le _, rfl, H⟩ ?_
      clear H hR
      rintro ⟨i, A, c, l, ts⟩ w5 ⟨hR, hi, hli, H⟩
      simp only at hR hi hli H ⊢
      by_cases hin : i < 2
      case neg =>
        have hi : i = 2 := by omega
        subst hi
        replace hR : R = ((takeP s_rp ts).bind fun _ ts1 => .ok (ET.es l) ts1).bind (fun l ts5 => .ok (.mk (4) (findOp k) 0 (([] : Bs)) (([] : Bs)) l) ts5) := hR
        rw [Res.bind_assoc] at hR
        repeat' ((conv => whnf); first | ((with_reducible show Gd (bs _ == _) _ _); first | refine Gd.sY (by assumption) ?_ | refine Gd.sk (by assumption) ?_ | refine Gd.sN (by assumption) ?_) | ((conv => whnf); first | (((with_reducible show Gd ..); first | (with_reducible first | refine Gd.t ?_ | refine Gd.f ?_ | (first | apply Gd.dec | apply Gd.beq | apply Gd.bne) <;> intro _ | refine Gd.not ?_) | refine Gd.t ?_ | refine Gd.f ?_ | apply Gd.var <;> intro _) <;> try (exfalso; omega)) | with_reducible refine Sq.mk ?_ | ((with_reducible show Ld1 ..); first | refine Ld1.h H ?_ | refine Ld1.rF ?_ | refine Ld1.r ?_) | ((with_reducible show Ld ..); first | refine Ld.h H ?_ | refine Ld.r ?_) | ((with_reducible show Ix ..); first | refine Ix.h ?_ | refine Ix.ha ?_) | (refine Al.hp H ?_; clear H; intro _ _ H _) | (refine St.h H ?_; clear H; intro _ H)) | refine Sm.strix T.ok ?_)
        (((conv => whnf); refine Cl.mkX (take_c s_rp src pr (ts) wb _ (H.base2 HB) X.lo X.tb X.len (H.atC 4 rfl) (by decide)) ?_ ?_; rotate_left; (rintro ch w9 ⟨e9, p9, q9, h9, rfl, H'⟩; exact ⟨e9, p9, q9, (by rw [hR, h9]; rfl), rfl, Hp.pan H H' (.inl rfl)⟩)); rintro _ w8 ⟨t9, ts9, h1, rfl, H'⟩; replace H := H.upd (c := rdr src pr (ts)) H' rfl (.inl rfl); clear H'; rw [h1, Res.bind_ok] at hR; clear h1)
        repeat' ((conv => whnf); first | ((with_reducible show Gd (bs _ == _) _ _); first | refine Gd.sY (by assumption) ?_ | refine Gd.sk (by assumption) ?_ | refine Gd.sN (by assumption) ?_) | ((conv => whnf); first | (((with_reducible show Gd ..); first | (with_reducible first | refine Gd.t ?_ | refine Gd.f ?_ | (first | apply Gd.dec | apply Gd.beq | apply Gd.bne) <;> intro _ | refine Gd.not ?_) | refine Gd.t ?_ | refine Gd.f ?_ | apply Gd.var <;> intro _) <;> try (exfalso; omega)) | with_reducible refine Sq.mk ?_ | ((with_reducible show Ld1 ..); first | refine Ld1.h H ?_ | refine Ld1.rF ?_ | refine Ld1.r ?_) | ((with_reducible show Ld ..); first | refine Ld.h H ?_ | refine Ld.r ?_) | ((with_reducible show Ix ..); first | refine Ix.h ?_ | refine Ix.ha ?_) | (refine Al.hp H ?_; clear H; intro _ _ H _) | (refine St.h H ?_; clear H; intro _ H)) | refine Sm.strix T.ok ?_)
        exact ⟨.mk (4) (findOp k) 0 (([] : Bs)) (([] : Bs)) A c l, ts9, hR, et_v rfl, Hp.trsN (4) (findOp k) 0 (([] : Bs)) (([] : Bs)) (H.sel [0, 0, 2] rfl)⟩
      have hni : 2 - i = (2 - (i + 1)) + 1 := by omega
      rw [hni] at hR
      simp only [kidsP] at hR
      by_cases hi0 : i = 0
      · rw [if_neg (by omega), Res.bind_ok, Res.bind_assoc] at hR
        repeat' ((conv => whnf); first | ((with_reducible show Gd (bs _ == _) _ _); first | refine Gd.sY (by assumption) ?_ | refine Gd.sk (by assumption) ?_ | refine Gd.sN (by assumption) ?_) | ((conv => whnf); first | (((with_reducible show Gd ..); first | (with_reducible first | refine Gd.t ?_ | refine Gd.f ?_ | (first | apply Gd.dec | apply Gd.beq | apply Gd.bne) <;> intro _ | refine Gd.not ?_) | refine Gd.t ?_ | refine Gd.f ?_ | apply Gd.var <;> intro _) <;> try (exfalso; omega)) | with_reducible refine Sq.mk ?_ | ((with_reducible show Ld1 ..); first | refine Ld1.h H ?_ | refine Ld1.rF ?_ | refine Ld1.r ?_) | ((with_reducible show Ld ..); first | refine Ld.h H ?_ | refine Ld.r ?_) | ((with_reducible show Ix ..); first | refine Ix.h ?_ | refine Ix.ha ?_) | (refine Al.hp H ?_; clear H; intro _ _ H _) | (refine St.h H ?_; clear H; intro _ H)) | refine Sm.strix T.ok ?_)
        all_goals first | (exfalso; omega) | skip
        (conv => whnf)
        refine Dr.chX T.ok mixed [0, 1, 2, 3, 7] [4, 5, 6, 8] (by kernel_rfl) rfl rfl (fun w' => Blk w' p7 74 (ET.enc (.mk (4) (findOp k) 0 (([] : Bs)) (([] : Bs)) A c l))) (PanX R pr w) (fun ch F' w' hds h => by (conv => whnf); rw [show F'.ds = [] from hds]; exact h) (fun w1 eT _ => ?_)
        replace H := H.ext eT
        repeat' ((conv => whnf); refine QLd1.own (fun _ hw => hw) ?_)
        (conv => whnf)
        refine ⟨H.blk 2 rfl, ?_⟩
        ((conv => whnf); refine Cl.mkX (C.expr 0 d (ts) _ (by omega) hd (H.base2 HB) (H.atC 4 rfl) (Res.bind_out (by rw [← hR]; exact hne))) ?_ ?_; rotate_left; (rintro ch w9 ⟨e9, p9, q9, h9, rfl, H'⟩; exact ⟨e9, p9, q9, (by rw [hR, h9]; rfl), rfl, Hp.pan H H' (.inl rfl)⟩))
        rintro _ w3 ⟨⟨kd, o, n, nm, cb, A2, c2, l2⟩, ts2, h2, rfl, H'⟩
        replace H := H.updn (c := rdr src pr (ts)) (Hp.swap H') rfl (.inl rfl) (.inl rfl)
        clear H'
        rw [h2, Res.bind_ok] at hR
        (conv => whnf)
        refine ⟨H.blk 3 rfl, ?_⟩
        refine Sm.lith (cs := ET.enc (.mk kd o n nm cb A2 c2 l2)) H T.ok (fun p5 w4 H _ => ?_)
        (conv => whnf)
        refine ⟨H.blk 4 rfl, ?_⟩
        refine Sm.ap1 (enc := ET.enc) (.mk kd o n nm cb A2 c2 l2) H T.ok ?_ ?_ (fun A' c' w6 H => ?_)
        · show (l.length + 1) * 80 ≤ _; omega
        · omega
        simp only [List.cons_append, List.nil_append] at H
        (conv => whnf)
        refine ⟨H.blk 3 rfl, ?_⟩
        repeat' ((conv => whnf); first | ((with_reducible show Gd (bs _ == _) _ _); first | refine Gd.sY (by assumption) ?_ | refine Gd.sk (by assumption) ?_ | refine Gd.sN (by assumption) ?_) | ((conv => whnf); first | (((with_reducible show Gd ..); first | (with_reducible first | refine Gd.t ?_ | refine Gd.f ?_ | (first | apply Gd.dec | apply Gd.beq | apply Gd.bne) <;> intro _ | refine Gd.not ?_) | refine Gd.t ?_ | refine Gd.f ?_ | apply Gd.var <;> intro _) <;> try (exfalso; omega)) | with_reducible refine Sq.mk ?_ | ((with_reducible show Ld1 ..); first | refine Ld1.h H ?_ | refine Ld1.rF ?_ | refine Ld1.r ?_) | ((with_reducible show Ld ..); first | refine Ld.h H ?_ | refine Ld.r ?_) | ((with_reducible show Ix ..); first | refine Ix.h ?_ | refine Ix.ha ?_) | (refine Al.hp H ?_; clear H; intro _ _ H _) | (refine St.h H ?_; clear H; intro _ H)) | refine Sm.strix T.ok ?_)
        refine ⟨(i + 1, A', c', l ++ [.mk kd o n nm cb A2 c2 l2], ts2), ⟨at_int (m := ((i + 1 : Nat) : Int)) rfl (w64 (by simp) (by omega) (by omega)), rfl, rfl, rfl, rfl, rfl, trivial⟩, rfl, ⟨?_, by simp only; omega, by simp only [List.length_append, List.length_cons, List.length_nil]; omega, ?_⟩, by simp only; omega⟩
        · rw [hR, ET.es_app]; rfl
        · replace H := Hp.swap (Hp.trsS (H.sel [0, 1, 0, 0, 0, 0] rfl))
          have hl1 : (l ++ [ET.mk kd o n nm cb A2 c2 l2]).length = l.length + 1 := by simp
          simp only [ET.enc, hl1]
          exact H
      · rw [if_pos (by omega)] at hR
        replace hR : R = (takeP s_comma ts).bind fun _ ts1 => (F.expr 0 d ts1).bind fun e ts2 => (kidsP F d 2 (2 - (i + 1)) (ET.es l ++ [e]) ts2).bind (fun l ts5 => .ok (.mk (4) (findOp k) 0 (([] : Bs)) (([] : Bs)) l) ts5) := by
          rw [hR]
          cases takeP s_comma ts with
          | out => rfl
          | err e p => rfl
          | ok a ts1 => simp only [Res.bind_ok, Res.bind_assoc]
        repeat' ((conv => whnf); first | ((with_reducible show Gd (bs _ == _) _ _); first | refine Gd.sY (by assumption) ?_ | refine Gd.sk (by assumption) ?_ | refine Gd.sN (by assumption) ?_) | ((conv => whnf); first | (((with_reducible show Gd ..); first | (with_reducible first | refine Gd.t ?_ | refine Gd.f ?_ | (first | apply Gd.dec | apply Gd.beq | apply Gd.bne) <;> intro _ | refine Gd.not ?_) | refine Gd.t ?_ | refine Gd.f ?_ | apply Gd.var <;> intro _) <;> try (exfalso; omega)) | with_reducible refine Sq.mk ?_ | ((with_reducible show Ld1 ..); first | refine Ld1.h H ?_ | refine Ld1.rF ?_ | refine Ld1.r ?_) | ((with_reducible show Ld ..); first | refine Ld.h H ?_ | refine Ld.r ?_) | ((with_reducible show Ix ..); first | refine Ix.h ?_ | refine Ix.ha ?_) | (refine Al.hp H ?_; clear H; intro _ _ H _) | (refine St.h H ?_; clear H; intro _ H)) | refine Sm.strix T.ok ?_)
        all_goals first | (exfalso; omega) | skip
        (((conv => whnf); refine Cl.mkX (take_c s_comma src pr (ts) wb _ (H.base2 HB) X.lo X.tb X.len (H.atC 4 rfl) (by decide)) ?_ ?_; rotate_left; (rintro ch w9 ⟨e9, p9, q9, h9, rfl, H'⟩; exact ⟨e9, p9, q9, (by rw [hR, h9]; rfl), rfl, Hp.pan H H' (.inl rfl)⟩)); rintro _ w8 ⟨t9, ts9, h1, rfl, H'⟩; replace H := H.upd (c := rdr src pr (ts)) H' rfl (.inl rfl); clear H'; rw [h1, Res.bind_ok] at hR; clear h1)
        repeat' ((conv => whnf); first | ((with_reducible show Gd (bs _ == _) _ _); first | refine Gd.sY (by assumption) ?_ | refine Gd.sk (by assumption) ?_ | refine Gd.sN (by assumption) ?_) | ((conv => whnf); first | (((with_reducible show Gd ..); first | (with_reducible first | refine Gd.t ?_ | refine Gd.f ?_ | (first | apply Gd.dec | apply Gd.beq | apply Gd.bne) <;> intro _ | refine Gd.not ?_) | refine Gd.t ?_ | refine Gd.f ?_ | apply Gd.var <;> intro _) <;> try (exfalso; omega)) | with_reducible refine Sq.mk ?_ | ((with_reducible show Ld1 ..); first | refine Ld1.h H ?_ | refine Ld1.rF ?_ | refine Ld1.r ?_) | ((with_reducible show Ld ..); first | refine Ld.h H ?_ | refine Ld.r ?_) | ((with_reducible show Ix ..); first | refine Ix.h ?_ | refine Ix.ha ?_) | (refine Al.hp H ?_; clear H; intro _ _ H _) | (refine St.h H ?_; clear H; intro _ H)) | refine Sm.strix T.ok ?_)
        (conv => whnf)
        refine Dr.chX T.ok mixed [0, 1, 2, 3, 7] [4, 5, 6, 8] (by kernel_rfl) rfl rfl (fun w' => Blk w' p7 74 (ET.enc (.mk (4) (findOp k) 0 (([] : Bs)) (([] : Bs)) A c l))) (PanX R pr w) (fun ch F' w' hds h => by (conv => whnf); rw [show F'.ds = [] from hds]; exact h) (fun w1 eT _ => ?_)
        replace H := H.ext eT
        repeat' ((conv => whnf); refine QLd1.own (fun _ hw => hw) ?_)
        (conv => whnf)
        refine ⟨H.blk 2 rfl, ?_⟩
        ((conv => whnf); refine Cl.mkX (C.expr 0 d (ts9) _ (by omega) hd (H.base2 HB) (H.atC 4 rfl) (Res.bind_out (by rw [← hR]; exact hne))) ?_ ?_; rotate_left; (rintro ch w9 ⟨e9, p9, q9, h9, rfl, H'⟩; exact ⟨e9, p9, q9, (by rw [hR, h9]; rfl), rfl, Hp.pan H H' (.inl rfl)⟩))
        rintro _ w3 ⟨⟨kd, o, n, nm, cb, A2, c2, l2⟩, ts2, h2, rfl, H'⟩
        replace H := H.updn (c := rdr src pr (ts9)) (Hp.swap H') rfl (.inl rfl) (.inl rfl)
        clear H'
        rw [h2, Res.bind_ok] at hR
        (conv => whnf)
        refine ⟨H.blk 3 rfl, ?_⟩
        refine Sm.lith (cs := ET.enc (.mk kd o n nm cb A2 c2 l2)) H T.ok (fun p5 w4 H _ => ?_)
        (conv => whnf)
        refine ⟨H.blk 4 rfl, ?_⟩
        refine Sm.ap1 (enc := ET.enc) (.mk kd o n nm cb A2 c2 l2) H T.ok ?_ ?_ (fun A' c' w6 H => ?_)
        · show (l.length + 1) * 80 ≤ _; omega
        · omega
        simp only [List.cons_append, List.nil_append] at H
        (conv => whnf)
        refine ⟨H.blk 3 rfl, ?_⟩
        repeat' ((conv => whnf); first | ((with_reducible show Gd (bs _ == _) _ _); first | refine Gd.sY (by assumption) ?_ | refine Gd.sk (by assumption) ?_ | refine Gd.sN (by assumption) ?_) | ((conv => whnf); first | (((with_reducible show Gd ..); first | (with_reducible first | refine Gd.t ?_ | refine Gd.f ?_ | (first | apply Gd.dec | apply Gd.beq | apply Gd.bne) <;> intro _ | refine Gd.not ?_) | refine Gd.t ?_ | refine Gd.f ?_ | apply Gd.var <;> intro _) <;> try (exfalso; omega)) | with_reducible refine Sq.mk ?_ | ((with_reducible show Ld1 ..); first | refine Ld1.h H ?_ | refine Ld1.rF ?_ | refine Ld1.r ?_) | ((with_reducible show Ld ..); first | refine Ld.h H ?_ | refine Ld.r ?_) | ((with_reducible show Ix ..); first | refine Ix.h ?_ | refine Ix.ha ?_) | (refine Al.hp H ?_; clear H; intro _ _ H _) | (refine St.h H ?_; clear H; intro _ H)) | refine Sm.strix T.ok ?_)
        refine ⟨(i + 1, A', c', l ++ [.mk kd o n nm cb A2 c2 l2], ts2), ⟨at_int (m := ((i + 1 : Nat) : Int)) rfl (w64 (by simp) (by omega) (by omega)), rfl, rfl, rfl, rfl, rfl, trivial⟩, rfl, ⟨?_, by simp only; omega, by simp only [List.length_append, List.length_cons, List.length_nil]; omega, ?_⟩, by simp only; omega⟩
        · rw [hR, ET.es_app]; rfl
        · replace H := Hp.swap (Hp.trsS (H.sel [0, 1, 0, 0, 0, 0] rfl))
          have hl1 : (l ++ [ET.mk kd o n nm cb A2 c2 l2]).length = l.length + 1 := by simp
          simp only [ET.enc, hl1]
          exact H
end
end Go.Proofs.YtfnjodpehomgfaaGreatDoor
