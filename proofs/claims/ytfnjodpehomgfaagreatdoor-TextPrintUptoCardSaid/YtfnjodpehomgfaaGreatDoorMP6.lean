/- own work: TzO, TzP, TyV, TzQ, TzS, TsD, TsE, TsF, TsG, TkA, TkB, TkC, TkD, TkE, TkF -/
import Derived.Test.YtfnjodpehomgfaaGreatDoorMP2
import Derived.Test.YtfnjodpehomgfaaGreatDoorMP3
import Derived.Test.YtfnjodpehomgfaaGreatDoorMP4
import Derived.Test.YtfnjodpehomgfaaGreatDoorMP5
set_option linter.unusedVariables false
set_option linter.unusedSimpArgs false
set_option linter.unusedSectionVars false
namespace Go.Proofs.YtfnjodpehomgfaaGreatDoor
open Go Go.Sh Go.Tx
attribute [local irreducible] Blk Ext RdS
theorem namesR_s (n : Nat) (l : List Bs) (ts : List Tk) : namesR (n + 1) l ts = (if curK ts = s_comma then (stepP false ts).bind fun _ ts1 => (takeP k_name ts1).bind fun t ts2 => namesR n (l ++ [t.text]) ts2 else (takeP s_rp ts).bind fun _ ts1 => .ok l ts1) := rfl
section
variable {src : Bs} {ws : List Tk} {A : Option Addr} {cw pr : Nat} {wb : World}
def OkRF (ws : List Tk) (A : Option Addr) (cw pr : Nat) {α : Type} (g : α → Fnc) (R : Res α) (w : World) (v : Value) (w' : World) : Prop :=
  ∃ f s', v = FM.v f ∧ AtR R s' ∧ Vl R (fun a => FM.e f = g a) ∧ Hp (· = pr) w w' [fns [f], rq ws A cw pr s']
variable (Y : RY src ws A cw pr wb)
include Y
theorem stmt_deep (d : Nat) (ts : List Tk) (w : World) (hd : 40 < d) (hd2 : d ≤ 41) (hk : curK ts = k_if) (hwb : Ext wb w) (h : RdQ ws A cw pr ⟨ts, none⟩ w) (hg : Gdw ts) :
    Cl Tryz.prog 83 #[.pointer (some ⟨pr, 0, none⟩), .int .i64 (d : Int)] w (OkRS ws A cw pr id (.err 144 (curT ts).at_) w) (fun _ _ => False) := by
  have X := Y.x
  have HB := X.ok hwb
  have hpl := h.pls X
  have hts := ends_ne hg.ends
  have hrk : rKind (curT (⟨ts, none⟩ : RS).ts) = k_if := (chk_ok hg.ok).1.trans hk
  refine calls_ex (args := [.pointer (some ⟨pr, 0, none⟩), .int .i64 (d : Int)]) T.ok Tryz.func83 rfl rfl rfl rfl ?_
  have H := Hp.start (S := (· = pr)) (rq_ok h) (fun k hk => hk)
  clear h
  refine Sq.mk ?_
  ((conv => whnf); refine Al.hp H ?_; clear H; intro p4 _ H _)
  repeat' ((conv => whnf); first | refine ztS ?_ | (refine ztB ?_ ?_ <;> intro _ <;> try (exfalso; omega)) | (refine ztW ?_; clear H; intro _ _ H _) | fail)
  (((conv => whnf); refine Cl.mk (next_r X ⟨ts, none⟩ _ (H.base2 HB) (H.atC 1 rfl) hts) ?_); rintro _ _ ⟨rfl, hx⟩; replace H := H.ext hx; clear hx)
  ((conv => whnf); refine Al.hp H ?_; clear H; intro p5 _ H _)
  repeat' ((conv => whnf); first | refine ztS ?_ | (refine ztB ?_ ?_ <;> intro _ <;> try (exfalso; omega)) | (refine ztW ?_; clear H; intro _ _ H _) | fail)
  (((conv => whnf); refine Cl.mk (begins_r (rKind (curT (⟨ts, none⟩ : RS).ts)) _) ?_); rintro _ _ ⟨rfl, hx⟩; replace H := H.ext hx; clear hx)
  rw [show beginsB (rKind (curT (⟨ts, none⟩ : RS).ts)) = true by rw [hrk]; rfl]
  have hw : wrongR 144 ⟨ts, none⟩ = ⟨ts, some (144, (curT ts).at_)⟩ := wrong_good rfl hg.ok hpl.cur.1
  repeat' ((conv => whnf); first | refine ztS ?_ | (refine ztB ?_ ?_ <;> intro _ <;> try (exfalso; omega)) | (refine ztW ?_; clear H; intro _ _ H _) | fail)
  all_goals first | (exfalso; omega) | skip
  ((conv => whnf); refine Cl.mk (wrong_r X 144 ⟨ts, none⟩ _ (by decide) (H.base2 HB) (H.atC 2 rfl) hts) ?_)
  rintro _ w3 H'
  rw [hw] at H'
  replace H := H.upd (c := rq ws A cw pr ⟨ts, none⟩) H' rfl (.inl rfl)
  clear H'
  repeat' ((conv => whnf); first | refine ztS ?_ | (refine ztB ?_ ?_ <;> intro _ <;> try (exfalso; omega)) | (refine ztW ?_; clear H; intro _ _ H _) | fail)
  exact ⟨.mk 0 [] (.mk 0 0 0 [] [] none 0 []) none 0 [] none 0 [], _, sm_v rfl, ⟨hg.ends, .inl rfl⟩, Vl.err, Hp.stsE 0 [] (Hp.trsZ 0 0 0 [] [] (H.sel [2] rfl))⟩
theorem rcon_all : ∀ f, RCon src ws A cw pr wb (pf f)
  | 0 => by
    refine ⟨fun _ _ _ _ _ _ _ _ _ h => absurd rfl h, fun _ _ _ _ _ _ _ h => absurd rfl h, fun _ _ _ _ _ _ _ h => absurd rfl h, fun _ _ _ _ _ _ _ h => absurd rfl h, fun d ts w hd hk hwb h hg hne => ?_⟩
    by_cases h40 : 40 < d
    · have he : ((deepP d ts).bind fun _ ts => (pf 0).choice d ts) = .err 144 (curT ts).at_ := by unfold deepP; rw [if_pos h40]; rfl
      rw [he]
      exact stmt_deep Y d ts w h40 hd hk hwb h hg
    · exfalso
      apply hne
      unfold deepP
      rw [if_neg h40]; rfl
  | f + 1 => ⟨fun lv d ts w h1 h2 h3 h4 h5 h6 => expr_r Y (rcon_all f) lv d ts w h1 h2 h3 h4 h5 h6, fun d ts w h2 h3 h4 h5 h6 => unary_r Y (rcon_all f) d ts w h2 h3 h4 h5 h6, fun d ts w h2 h3 h4 h5 h6 => primary_r Y (rcon_all f) d ts w h2 h3 h4 h5 h6, fun d ts w h2 h3 h4 h5 h6 => block_r Y (rcon_all f) d ts w h2 h3 h4 h5 h6, fun d ts w h2 hk h3 h4 h5 h6 => stmt_if Y (rcon_all f) d ts w h2 hk h3 h4 h5 h6⟩
set_option maxHeartbeats 4000000 in
theorem functionD (s : RS) (w : World) {e : Int} {p : Nat} (hwb : Ext wb w) (h : RdQ ws A cw pr s w) (ha : AtR (.err e p : Res Unit) s) : Cl Tryz.prog 30 #[.pointer (some ⟨pr, 0, none⟩)] w (fun v w' => ∃ f, v = FM.v f ∧ Hp (· = pr) w w' [fns [f], rq ws A cw pr ⟨s.ts, some (e, p)⟩]) (fun _ _ => False) := by
  have X := Y.x
  have HB := X.ok hwb
  have hts := ends_ne ha.ends
  refine calls_ex (args := [.pointer (some ⟨pr, 0, none⟩)]) T.ok Tryz.func30 rfl rfl rfl rfl ?_
  have H := Hp.start (S := (· = pr)) (rq_ok h) (fun k hk => hk)
  clear h
  refine Sq.mk ?_
  ((conv => whnf); refine Al.hp H ?_; clear H; intro p2 _ H _)
  repeat' ((conv => whnf); first | refine ztS ?_ | (refine ztB ?_ ?_ <;> intro _ <;> try (exfalso; omega)) | (refine ztW ?_; clear H; intro _ _ H _) | fail)
  ((conv => whnf); refine Cl.mk (take_r X k_fn s _ (H.base2 HB) (H.atC 1 rfl) hts) ?_)
  rintro _ w3 ⟨rfl, H'⟩
  rw [takeR_doom ha.at_ (by decide) (by decide)] at H'
  replace H := H.upd (c := rq ws A cw pr s) H' rfl (.inl rfl)
  clear H'
  have hD : Doom e p ⟨s.ts, some (e, p)⟩ := .inl rfl
  have haD : AtR (.err e p : Res Unit) ⟨s.ts, some (e, p)⟩ := ⟨ha.ends, hD⟩
  repeat' ((conv => whnf); first | refine ztS ?_ | (refine ztB ?_ ?_ <;> intro _ <;> try (exfalso; omega)) | (refine ztW ?_; clear H; intro _ _ H _) | fail)
  ((conv => whnf); refine Cl.mk (take_r X k_name ⟨s.ts, some (e, p)⟩ _ (H.base2 HB) (H.atC 1 rfl) hts) ?_)
  rintro _ w3 ⟨rfl, H'⟩
  rw [takeR_doom hD (by decide) (by decide)] at H'
  replace H := H.upd (c := rq ws A cw pr ⟨s.ts, some (e, p)⟩) H' rfl (.inl rfl)
  clear H'
  ((conv => whnf); refine Al.hp H ?_; clear H; intro p3 _ H _)
  repeat' ((conv => whnf); first | refine ztS ?_ | (refine ztB ?_ ?_ <;> intro _ <;> try (exfalso; omega)) | (refine ztW ?_; clear H; intro _ _ H _) | fail)
  ((conv => whnf); refine Al.hp H ?_; clear H; intro p4 _ H _)
  repeat' ((conv => whnf); first | refine ztS ?_ | (refine ztB ?_ ?_ <;> intro _ <;> try (exfalso; omega)) | (refine ztW ?_; clear H; intro _ _ H _) | fail)
  ((conv => whnf); refine Cl.mk (take_r X s_lp ⟨s.ts, some (e, p)⟩ _ (H.base2 HB) (H.atC 3 rfl) hts) ?_)
  rintro _ w3 ⟨rfl, H'⟩
  rw [takeR_doom hD (by decide) (by decide)] at H'
  replace H := H.upd (c := rq ws A cw pr ⟨s.ts, some (e, p)⟩) H' rfl (.inl rfl)
  clear H'
  repeat' ((conv => whnf); first | refine ztS ?_ | (refine ztB ?_ ?_ <;> intro _ <;> try (exfalso; omega)) | (refine ztW ?_; clear H; intro _ _ H _) | fail)
  (((conv => whnf); refine Cl.mk (is_r X k_name ⟨s.ts, some (e, p)⟩ _ (H.base2 HB) (H.atC 3 rfl) hts) ?_); rintro _ _ ⟨rfl, hx⟩; replace H := H.ext hx; clear hx)
  rw [is_err haD (by decide) (by decide)]
  repeat' ((conv => whnf); first | refine ztS ?_ | (refine ztB ?_ ?_ <;> intro _ <;> try (exfalso; omega)) | (refine ztW ?_; clear H; intro _ _ H _) | fail)
  ((conv => whnf); refine Cl.mk (take_r X s_rp ⟨s.ts, some (e, p)⟩ _ (H.base2 HB) (H.atC 3 rfl) hts) ?_)
  rintro _ w3 ⟨rfl, H'⟩
  rw [takeR_doom hD (by decide) (by decide)] at H'
  replace H := H.upd (c := rq ws A cw pr ⟨s.ts, some (e, p)⟩) H' rfl (.inl rfl)
  clear H'
  repeat' ((conv => whnf); first | refine ztS ?_ | (refine ztB ?_ ?_ <;> intro _ <;> try (exfalso; omega)) | (refine ztW ?_; clear H; intro _ _ H _) | fail)
  ((conv => whnf); refine Cl.mk (blockD Y 1 ⟨s.ts, some (e, p)⟩ _ (H.base2 HB) (H.atC 3 rfl) haD) ?_)
  rintro _ w3 ⟨B, c, l, rfl, H'⟩
  replace H := H.updn (c := rq ws A cw pr ⟨s.ts, some (e, p)⟩) (Hp.swap H') rfl (.inl rfl) (.inl rfl)
  clear H'
  repeat' ((conv => whnf); first | refine ztS ?_ | (refine ztB ?_ ?_ <;> intro _ <;> try (exfalso; omega)) | (refine ztW ?_; clear H; intro _ _ H _) | fail)
  replace H := Hp.nil H strE 1 9
  exact ⟨⟨[], none, 0, [], B, c, l⟩, fm_v rfl, Hp.fnsN [] (H.sel [0, 0, 3] rfl)⟩
variable {F : PF} (C : RCon src ws A cw pr wb F)
include C
set_option maxHeartbeats 8000000 in
theorem function_r {α : Type} (R0 : Res α) (s : RS) (w : World) (hwb : Ext wb w) (h : RdQ ws A cw pr s w) (ha : AtR R0 s) (hne : (R0.and fun _ ts => functionP F ts) ≠ .out) :
    Cl Tryz.prog 30 #[.pointer (some ⟨pr, 0, none⟩)] w (OkRF ws A cw pr Prod.snd (R0.and fun _ ts => functionP F ts) w) (fun _ _ => False) := by
  have X := Y.x
  have HB := X.ok hwb
  obtain ⟨R, hR⟩ : ∃ R, R = R0.and fun _ ts => functionP F ts := ⟨_, rfl⟩
  rw [← hR] at hne ⊢
  refine calls_ex (args := [.pointer (some ⟨pr, 0, none⟩)]) T.ok Tryz.func30 rfl rfl rfl rfl ?_
  have H := Hp.start (S := (· = pr)) (rq_ok h) (fun k hk => hk)
  clear h
  refine Sq.mk ?_
  ((conv => whnf); refine Al.hp H ?_; clear H; intro p2 _ H _)
  repeat' ((conv => whnf); first | refine ztS ?_ | (refine ztB ?_ ?_ <;> intro _ <;> try (exfalso; omega)) | (refine ztW ?_; clear H; intro _ _ H _) | fail)
  (((conv => whnf); refine Cl.mk (takeRR Y C k_fn (R0) s _ (H.base2 HB) (H.atC 1 rfl) ha (by decide) (by decide) (by decide)) ?_); rintro _ w3 ⟨kd_, pp_, tx0, ee_, s1, rfl, ha1, hv1, H'⟩; replace H := H.upd (c := rq ws A cw pr s) H' rfl (.inl rfl); clear H')
  repeat' ((conv => whnf); first | refine ztS ?_ | (refine ztB ?_ ?_ <;> intro _ <;> try (exfalso; omega)) | (refine ztW ?_; clear H; intro _ _ H _) | fail)
  (((conv => whnf); refine Cl.mk (takeRR Y C k_name (R0.and fun _ ts => takeP k_fn ts) s1 _ (H.base2 HB) (H.atC 1 rfl) ha1 (by decide) (by decide) (by decide)) ?_); rintro _ w3 ⟨kd_, pp_, tx1, ee_, s2, rfl, ha2, hv2, H'⟩; replace H := H.upd (c := rq ws A cw pr s1) H' rfl (.inl rfl); clear H')
  ((conv => whnf); refine Al.hp H ?_; clear H; intro p3 _ H _)
  repeat' ((conv => whnf); first | refine ztS ?_ | (refine ztB ?_ ?_ <;> intro _ <;> try (exfalso; omega)) | (refine ztW ?_; clear H; intro _ _ H _) | fail)
  ((conv => whnf); refine Al.hp H ?_; clear H; intro p4 _ H _)
  repeat' ((conv => whnf); first | refine ztS ?_ | (refine ztB ?_ ?_ <;> intro _ <;> try (exfalso; omega)) | (refine ztW ?_; clear H; intro _ _ H _) | fail)
  (((conv => whnf); refine Cl.mk (takeRR Y C s_lp ((R0.and fun _ ts => takeP k_fn ts).and fun _ ts => takeP k_name ts) s2 _ (H.base2 HB) (H.atC 3 rfl) ha2 (by decide) (by decide) (by decide)) ?_); rintro _ w3 ⟨kd_, pp_, tx2, ee_, s3, rfl, ha3, hv3, H'⟩; replace H := H.upd (c := rq ws A cw pr s2) H' rfl (.inl rfl); clear H')
  replace hR : R = (((R0.and fun _ ts => takeP k_fn ts).and fun _ ts => takeP k_name ts).and fun _ ts => takeP s_lp ts).bind fun q ts3 => (loopN (ts3.length + 1) [] ts3).bind fun ps ts4 => (takeP s_rp ts4).bind fun _ ts5 => (F.block 1 ts5).bind fun b ts6 => .ok (q.1.1.1, ⟨q.1.2.text, ps, b⟩) ts6 := by
    rw [hR]
    simp only [Res.and_bind]
    cases R0 with
    | out => rfl
    | err e p => rfl
    | ok a ts =>
      show ((functionP F ts).bind _) = _
      unfold functionP
      simp only [Res.bind_assoc]
      rfl
  have hvn := Vl.fst (f := fun _ ts => takeP s_lp ts) hv2
  have hsm3 := RdQ.small X (H.atC (c := rq ws A cw pr s3) 3 rfl)
  clear hv1 hv2 hv3 ha1 ha2 ha
  generalize (((R0.and fun _ ts => takeP k_fn ts).and fun _ ts => takeP k_name ts).and fun _ ts => takeP s_lp ts) = R3 at ha3 hvn hR
  replace H := Hp.nil H strE 1 9
  (have hfix : ∀ Γ w', Hp (· = pr) w w' (qu strE 1 9 none 0 ([] : List Bs) :: bk p4 34 [.string (bs tx1), .slice none (([] : List Bs)).length 0, .slice none 0 0] :: Γ) → Hp (· = pr) w w' (qu strE 1 9 none 0 ([] : List Bs) :: bk p4 34 [.string (bs tx1), .slice none (([] : List Bs)).length 0, .slice none 0 0] :: Γ) := fun _ _ h => h)
  replace H := hfix _ _ H
  clear hfix
  repeat' ((conv => whnf); first | refine ztS ?_ | (refine ztB ?_ ?_ <;> intro _ <;> try (exfalso; omega)) | (refine ztW ?_; clear H; intro _ _ H _) | fail)
  (((conv => whnf); refine Cl.mk (is_r X k_name s3 _ (H.base2 HB) (H.atC 4 rfl) (ends_ne ha3.ends)) ?_); rintro _ _ ⟨rfl, hx⟩; replace H := H.ext hx; clear hx)
  by_cases hkn : isR k_name s3 = true
  case neg =>
    rw [Bool.eq_false_iff.2 hkn]
    have ha := ha3
    have hexit : R = ((R3.and fun _ ts => takeP s_rp ts).and fun _ ts => F.block 1 ts).map (fun p => (p.1.1.1.1.1, ⟨p.1.1.1.2.text, [], p.2⟩)) := by
      rw [hR, Res.map]
      simp only [Res.and_bind]
      cases R3 with
      | out => rfl
      | err e p => rfl
      | ok q ts3 =>
        rw [is_ok ha3] at hkn
        have hk : ¬ curK ts3 = k_name := by simpa using hkn
        show (loopN (ts3.length + 1) [] ts3).bind _ = (takeP s_rp ts3).bind _
        unfold loopN
        by_cases hrp : curK ts3 = s_rp
        · rw [if_pos hrp]; rfl
        · rw [if_neg hrp, if_neg (by simp)]
          show ((takeP k_name ts3).bind _).bind _ = _
          rw [take_no hk, take_no hrp]; rfl
    ((repeat' ((conv => whnf); first | refine ztS ?_ | (refine ztB ?_ ?_ <;> intro _ <;> try (exfalso; omega)) | (refine ztW ?_; clear H; intro _ _ H _) | fail)); (((conv => whnf); refine Cl.mk (takeRR Y C s_rp (R3) s3 _ (H.base2 HB) (H.atC 4 rfl) ha (by decide) (by decide) (by decide)) ?_); rintro _ w3 ⟨kd_, pp_, tx9, ee_, s6, rfl, ha6, hv6, H'⟩; replace H := H.upd (c := rq ws A cw pr s3) H' rfl (.inl rfl); clear H'); (repeat' ((conv => whnf); first | refine ztS ?_ | (refine ztB ?_ ?_ <;> intro _ <;> try (exfalso; omega)) | (refine ztW ?_; clear H; intro _ _ H _) | fail)); ((conv => whnf); refine Cl.mk (blockR Y C ((R3).and fun _ ts => takeP s_rp ts) 1 s6 _ (by omega) (H.base2 HB) (H.atC 4 rfl) ha6 (Res.map_out (g := (fun p => (p.1.1.1.1.1, (⟨p.1.1.1.2.text, [], p.2⟩ : Fnc)))) (by rw [← hexit]; exact hne))) ?_); rintro _ w9 ⟨B, cB, b, s7, rfl, ha7, hv7, H'⟩; replace H := H.updn (c := rq ws A cw pr s6) (Hp.swap H') rfl (.inl rfl) (.inl rfl); clear H'; (repeat' ((conv => whnf); first | refine ztS ?_ | (refine ztB ?_ ?_ <;> intro _ <;> try (exfalso; omega)) | (refine ztW ?_; clear H; intro _ _ H _) | fail)); refine ⟨⟨tx1, none, 0, ([] : List Bs), B, cB, b⟩, s7, fm_v rfl, by rw [hexit]; exact ha7.map _, ?_, Hp.fnsN tx1 (H.sel [1, 0, 3] rfl)⟩; rw [hexit]; refine Vl.map (Vl.mono2 hv7 (Vl.fst (Vl.fst hvn)) fun a h1 h2 => by simp only [FM.e]; rw [h1, h2]))
  rw [hkn]
  obtain ⟨q, ts3, rfl⟩ : ∃ a ts, R3 = .ok a ts := by
    cases R3 with
    | out => exact absurd hR hne
    | err e p => rw [is_err ha3 (by decide) (by decide)] at hkn; cases hkn
    | ok a ts => exact ⟨a, ts, rfl⟩
  obtain ⟨rfl, hg3⟩ := ha3.gd
  rw [is_ok ha3] at hkn
  have hk3 : curK ts3 = k_name := by simpa using hkn
  have hnm : tx1 = q.1.2.text := hvn q ts3 rfl
  have hR2 : R = (((.ok q ts3 : Res (((α × Tk) × Tk) × Tk)).and fun _ ts => takeP k_name ts).map (fun p => [p.2.text])).bind fun ps ts => (namesR ts3.length ps ts).bind fun ps ts5 => (F.block 1 ts5).bind fun b ts6 => .ok (q.1.1.1, ⟨q.1.2.text, ps, b⟩) ts6 := by
    rw [hR, Res.map_bind, Res.and_bind]
    show (loopN (ts3.length + 1) [] ts3).bind _ = (takeP k_name ts3).bind _
    unfold loopN
    rw [if_neg (by rw [hk3]; decide), if_neg (by simp)]
    show ((takeP k_name ts3).bind _).bind _ = _
    rw [Res.bind_assoc]
    congr 1
    funext t ts4
    rw [List.nil_append, ← names_R ts3.length [t.text] ts4 (by simp), Res.bind_assoc]
    congr 1
    funext ps ts5
    rw [Res.bind_assoc]; rfl
  simp only at hsm3
  repeat' ((conv => whnf); first | refine ztS ?_ | (refine ztB ?_ ?_ <;> intro _ <;> try (exfalso; omega)) | (refine ztW ?_; clear H; intro _ _ H _) | fail)
  (((conv => whnf); refine Cl.mk (takeRR Y C k_name ((.ok q ts3 : Res (((α × Tk) × Tk) × Tk))) ⟨ts3, none⟩ _ (H.base2 HB) (H.atC 4 rfl) ha3 (by decide) (by decide) (by decide)) ?_); rintro _ w3 ⟨kd_, pp_, tx4, ee_, s4, rfl, ha4, hv4, H'⟩; replace H := H.upd (c := rq ws A cw pr ⟨ts3, none⟩) H' rfl (.inl rfl); clear H')
  ((conv => whnf); refine Al.hp H ?_; clear H; intro p5 _ H _)
  repeat' ((conv => whnf); first | refine ztS ?_ | (refine ztB ?_ ?_ <;> intro _ <;> try (exfalso; omega)) | (refine ztW ?_; clear H; intro _ _ H _) | fail)
  refine Sm.lith (cs := strE tx4) H T.ok (fun p6 w6 H _ => ?_)
  refine Sm.ap1 (enc := strE) tx4 H T.ok ?_ ?_ (fun A' c' w7 H => ?_)
  · show (0 + 1) * 16 ≤ _; omega
  · show 0 + 1 ≤ _; omega
  simp only [List.cons_append, List.nil_append] at H
  repeat' ((conv => whnf); first | refine ztS ?_ | (refine ztB ?_ ?_ <;> intro _ <;> try (exfalso; omega)) | (refine ztW ?_; clear H; intro _ _ H _) | fail)
  replace H := H.sel [0, 0, 0, 1, 1] rfl
  have hL : ∀ (P : Option Addr) (cp : Nat) (ps : List Bs) (k1 : Bs) (i1 : Int) (x1 : Bs) (e1 : Int) (s : RS) (w' : World), Hp (· = pr) w w' [bk p5 99 [.string (bs k1), .int .i64 i1, .string (bs x1), .int .i64 e1], qu strE 1 9 P cp ps, bk p4 34 [.string (bs tx1), .slice P ps.length cp, .slice none 0 0], bk p2 34 T.t34.zero.cells.toList, rq ws A cw pr s] → Hp (· = pr) w w' [bk p5 99 [.string (bs k1), .int .i64 i1, .string (bs x1), .int .i64 e1], qu strE 1 9 P cp ps, bk p4 34 [.string (bs tx1), .slice P ps.length cp, .slice none 0 0], bk p2 34 T.t34.zero.cells.toList, rq ws A cw pr s] := fun _ _ _ _ _ _ _ _ _ h => h
  replace H := hL A' c' [tx4] _ _ _ _ s4 _ H
  refine Lp.g0 T.ok (σ := Res (List Bs) × Nat × Option Addr × Nat × List Bs × (Bs × Int × Bs × Int) × RS) (fun q => [(5, .pointer (some ⟨p5, 0, none⟩)), (4, .pointer (some ⟨p4, 0, none⟩)), (2, .pointer (some ⟨p2, 0, none⟩)), (0, .pointer (some ⟨pr, 0, none⟩))])
    (fun z w' => R = z.1.bind (fun ps ts => (namesR z.2.1 ps ts).bind fun ps ts5 => (F.block 1 ts5).bind fun b ts6 => .ok (q.1.1.1, ⟨q.1.2.text, ps, b⟩) ts6) ∧ AtR z.1 z.2.2.2.2.2.2 ∧ Vl z.1 (fun a => z.2.2.2.2.1 = a) ∧ z.2.1 + z.2.2.2.2.1.length ≤ 20002 ∧ Hp (· = pr) w w' [bk p5 99 [.string (bs z.2.2.2.2.2.1.1), .int .i64 z.2.2.2.2.2.1.2.1, .string (bs z.2.2.2.2.2.1.2.2.1), .int .i64 z.2.2.2.2.2.1.2.2.2], qu strE 1 9 z.2.2.1 z.2.2.2.1 z.2.2.2.2.1, bk p4 34 [.string (bs tx1), .slice z.2.2.1 z.2.2.2.2.1.length z.2.2.2.1, .slice none 0 0], bk p2 34 T.t34.zero.cells.toList, rq ws A cw pr z.2.2.2.2.2.2]) (fun z _ => z.2.1)
    (((.ok q ts3 : Res (((α × Tk) × Tk) × Tk)).and fun _ ts => takeP k_name ts).map (fun p => [p.2.text]), ts3.length, A', c', [tx4], (kd_, pp_, tx4, ee_), s4) rfl ⟨rfl, rfl, rfl, rfl, trivial⟩ ⟨hR2, ha4.map _, Vl.map (hv4.mono fun p h => by rw [h]), by simp only [List.length_cons, List.length_nil]; omega, H⟩ ?_
  clear H hR hR2 ha3 ha4 hv4 hvn hL hg3
  rintro ⟨Rc, n, P, cp, ps, ⟨k1, i1, x1, e1⟩, s⟩ w5 ⟨hR, ha, hv, hn, H⟩
  simp only at hR ha hv hn H ⊢
  repeat' ((conv => whnf); first | refine ztS ?_ | (refine ztB ?_ ?_ <;> intro _ <;> try (exfalso; omega)) | (refine ztW ?_; clear H; intro _ _ H _) | fail)
  (((conv => whnf); refine Cl.mk (is_r X s_comma s _ (H.base2 HB) (H.atC 4 rfl) (ends_ne ha.ends)) ?_); rintro _ _ ⟨rfl, hx⟩; replace H := H.ext hx; clear hx)
  by_cases hcm : isR s_comma s = true
  · rw [hcm]
    obtain ⟨a, ts, rfl⟩ : ∃ a ts, Rc = .ok a ts := by
      cases Rc with
      | out => exact absurd hR hne
      | err e p => rw [is_err ha (by decide) (by decide)] at hcm; cases hcm
      | ok a ts => exact ⟨a, ts, rfl⟩
    obtain ⟨rfl, hg⟩ := ha.gd
    rw [is_ok ha] at hcm
    have hk : curK ts = s_comma := by simpa using hcm
    have hst := step_at hg.ends hg.ok (by rw [hk]; decide)
    obtain ⟨t0, r0, rfl⟩ : ∃ t0 r0, ts = t0 :: r0 := by
      cases ts with
      | nil => exact absurd rfl (ends_ne ha.ends)
      | cons t0 r0 => exact ⟨t0, r0, rfl⟩
    cases n with
    | zero => exact absurd hR hne
    | succ n =>
    replace hR : R = (((stepP false (t0 :: r0)).and fun _ ts => takeP k_name ts).map (fun p => a ++ [p.2.text])).bind fun ps ts => (namesR n ps ts).bind fun ps ts5 => (F.block 1 ts5).bind fun b ts6 => .ok (q.1.1.1, ⟨q.1.2.text, ps, b⟩) ts6 := by
      rw [hR, Res.map_bind, Res.and_bind]
      show ((namesR (n + 1) a (t0 :: r0)).bind _) = _
      rw [namesR_s, if_pos hk, Res.bind_assoc]
      congr 1
      funext _ ts1
      rw [Res.bind_assoc]
    repeat' ((conv => whnf); first | refine ztS ?_ | (refine ztB ?_ ?_ <;> intro _ <;> try (exfalso; omega)) | (refine ztW ?_; clear H; intro _ _ H _) | fail)
    (obtain ⟨j, hj1, hj2, hb0⟩ := H.atC (c := rq ws A cw pr (⟨t0 :: r0, none⟩)) 4 rfl; have hjl := X.lt hj1 (by first | exact List.cons_ne_nil _ _ | assumption); replace H := Hp.ofQ H hb0; clear hb0)
    repeat' ((conv => whnf); first | refine ztS ?_ | (refine ztB ?_ ?_ <;> intro _ <;> try (exfalso; omega)) | (refine ztW ?_; clear H; intro _ _ H _) | fail)
    (have hwj : IntKind.i64.wrap ((j : Int) + 1) = ((j + 1 : Nat) : Int) := w64 rfl (by omega) (by omega); rw [hwj] at H; replace H := Hp.toQ (pr := pr) (s := ⟨r0, none⟩) (k := j + 1) H (List.tail_drop.symm.trans (congrArg List.tail hj1)) (fun e p h => by cases h); clear hwj hj1 hj2 hjl)
    have hst2 : AtR (stepP false (t0 :: r0)) ⟨r0, none⟩ := hst
    (((conv => whnf); refine Cl.mk (takeRR Y C k_name (stepP false (t0 :: r0)) ⟨r0, none⟩ _ (H.base2 HB) (H.atC 4 rfl) hst2 (by decide) (by decide) (by decide)) ?_); rintro _ w3 ⟨kd_, pp_, tx6, ee_, s6, rfl, ha6, hv6, H'⟩; replace H := H.upd (c := rq ws A cw pr ⟨r0, none⟩) H' rfl (.inl rfl); clear H')
    repeat' ((conv => whnf); first | refine ztS ?_ | (refine ztB ?_ ?_ <;> intro _ <;> try (exfalso; omega)) | (refine ztW ?_; clear H; intro _ _ H _) | fail)
    refine Sm.lith (cs := strE tx6) H T.ok (fun p6 w6 H _ => ?_)
    refine Sm.ap1 (enc := strE) tx6 H T.ok ?_ ?_ (fun A' c' w7 H => ?_)
    · show (ps.length + 1) * 16 ≤ _; omega
    · omega
    simp only [List.cons_append, List.nil_append] at H
    repeat' ((conv => whnf); first | refine ztS ?_ | (refine ztB ?_ ?_ <;> intro _ <;> try (exfalso; omega)) | (refine ztW ?_; clear H; intro _ _ H _) | fail)
    have hle : ps = a := hv a _ rfl
    have hlen1 : (ps ++ [tx6]).length = ps.length + 1 := by simp
    refine ⟨(((stepP false (t0 :: r0)).and fun _ ts => takeP k_name ts).map (fun p => a ++ [p.2.text]), n, A', c', ps ++ [tx6], (kd_, pp_, tx6, ee_), s6), ⟨rfl, rfl, rfl, rfl, trivial⟩, rfl, ⟨hR, ha6.map _, Vl.map (hv6.mono fun p h => by rw [hle, h]), ?_, ?_⟩, Nat.lt_succ_self n⟩
    · simp only [List.length_append, List.length_cons, List.length_nil]; omega
    · simp only [hlen1]
      exact H
  · rw [Bool.eq_false_iff.2 hcm]
    have hexit : R = ((Rc.and fun _ ts => takeP s_rp ts).and fun _ ts => F.block 1 ts).map (fun p => (q.1.1.1, ⟨q.1.2.text, p.1.1, p.2⟩)) := by
      rw [hR, Res.map]
      simp only [Res.and_bind]
      cases Rc with
      | out => exact absurd hR hne
      | err e p => rfl
      | ok a ts =>
        cases n with
        | zero => exact absurd hR hne
        | succ n =>
          rw [is_ok ha] at hcm
          have hk : ¬ curK ts = s_comma := by simpa using hcm
          show ((namesR (n + 1) a ts).bind _) = (takeP s_rp ts).bind _
          rw [namesR_s, if_neg hk, Res.bind_assoc]
          cases takeP s_rp ts <;> rfl
    ((repeat' ((conv => whnf); first | refine ztS ?_ | (refine ztB ?_ ?_ <;> intro _ <;> try (exfalso; omega)) | (refine ztW ?_; clear H; intro _ _ H _) | fail)); (((conv => whnf); refine Cl.mk (takeRR Y C s_rp (Rc) s _ (H.base2 HB) (H.atC 4 rfl) ha (by decide) (by decide) (by decide)) ?_); rintro _ w3 ⟨kd_, pp_, tx9, ee_, s6, rfl, ha6, hv6, H'⟩; replace H := H.upd (c := rq ws A cw pr s) H' rfl (.inl rfl); clear H'); (repeat' ((conv => whnf); first | refine ztS ?_ | (refine ztB ?_ ?_ <;> intro _ <;> try (exfalso; omega)) | (refine ztW ?_; clear H; intro _ _ H _) | fail)); ((conv => whnf); refine Cl.mk (blockR Y C ((Rc).and fun _ ts => takeP s_rp ts) 1 s6 _ (by omega) (H.base2 HB) (H.atC 4 rfl) ha6 (Res.map_out (g := (fun p => (q.1.1.1, (⟨q.1.2.text, p.1.1, p.2⟩ : Fnc)))) (by rw [← hexit]; exact hne))) ?_); rintro _ w9 ⟨B, cB, b, s7, rfl, ha7, hv7, H'⟩; replace H := H.updn (c := rq ws A cw pr s6) (Hp.swap H') rfl (.inl rfl) (.inl rfl); clear H'; (repeat' ((conv => whnf); first | refine ztS ?_ | (refine ztB ?_ ?_ <;> intro _ <;> try (exfalso; omega)) | (refine ztW ?_; clear H; intro _ _ H _) | fail)); refine ⟨⟨tx1, P, cp, ps, B, cB, b⟩, s7, fm_v rfl, by rw [hexit]; exact ha7.map _, ?_, Hp.fnsN tx1 (H.sel [2, 0, 3] rfl)⟩; rw [hexit]; refine Vl.map (Vl.mono2 hv7 (Vl.fst (Vl.fst hv)) fun a h1 h2 => by simp only [FM.e]; rw [h1, h2, hnm]))
end
end Go.Proofs.YtfnjodpehomgfaaGreatDoor
namespace Go.Proofs.YtfnjodpehomgfaaGreatDoor
open Go Go.Sh Go.Tx
attribute [local irreducible] Blk Ext RdS
theorem words_rd (l : Bs) : ∀ (n p : Nat), ∀ t ∈ words l n p, ∃ a, t = (rdAt l a).1
  | 0, _, t, h => by simp [words] at h
  | n + 1, p, t, h => by
    rw [words_succ] at h
    split at h
    · rw [List.mem_singleton.1 h]; exact ⟨_, rfl⟩
    · rcases List.mem_cons.1 h with h | h
      · rw [h]; exact ⟨_, rfl⟩
      · exact words_rd l n _ t h
theorem rd_num {l : Bs} (hl : l.length ≤ 1000000) (a : Nat) : NumOk (rdAt l a).1 := by
  intro hk he
  have hsp : ∀ (c : UInt8) (r : Bs), l.drop a = c :: r → ((c :: r).take (spanN digit (c :: r))).length ≤ 1000000 := fun c r h => by
    have := congrArg List.length h
    rw [List.length_drop] at this
    rw [List.length_take]; omega
  have kn : ∀ s ∈ keywords, s ≠ k_number := by decide
  have sn : ∀ s ∈ signs, s ≠ k_number := by decide
  unfold rdAt at hk he ⊢
  split at hk
  · exact absurd (show k_end = k_number from hk) (by decide)
  · rename_i c r hd
    rw [hd] at he
    simp only at he ⊢
    split at hk
    · exfalso
      unfold named at hk
      split at hk
      · rename_i hw
        exact kn _ (List.contains_iff_mem.1 hw) hk
      · exact absurd (show k_name = k_number from hk) (by decide)
    · rename_i hc
      rw [if_neg hc] at he ⊢
      split at hk
      · rename_i hdg
        rw [if_pos hdg] at he ⊢
        have hds : Digs ((c :: r).take (spanN digit (c :: r))) := span_all digit _
        have hl2 := hsp c r hd
        generalize (c :: r).take (spanN digit (c :: r)) = s at *
        have he : (number s a).err = 0 := he
        show Digs (number s a).text ∧ (number s a).n = -(val (number s a).text : Int) ∧ val (number s a).text ≤ 9223372036854775808 ∧ (number s a).text.length ≤ 1000000
        unfold number at he ⊢
        cases hv : negOf s with
        | none => rw [hv] at he; simp at he
        | some v =>
          simp only
          unfold negOf at hv
          split at hv
          · rename_i h0
            simp only [Option.some.injEq] at hv
            subst h0 hv
            exact ⟨hds, by decide, by decide, by decide⟩
          · split at hv
            · simp at hv
            · rename_i hno
              simp only [Option.some.injEq] at hv
              exact ⟨hds, hv.symm, by omega, hl2⟩
      · split at hk
        · rename_i t hs
          exact absurd hk (sn t (List.mem_of_find?_eq_some hs))
        · exact absurd (show ([] : Bs) = k_number from hk) (by decide)
def loopG (F : PF) (n : Nat) (L : List Fnc) (ts : List Tk) : Res (List Fnc) := match L with
  | [] => (functionP F ts).bind fun f ts1 => loopF F (ts1.length + 1) [f] ts1
  | _ => loopF F n L ts
theorem loopF_s (F : PF) (n : Nat) (l : List Fnc) (ts : List Tk) : loopF F (n + 1) l ts = (if curK ts = k_end then .ok l ts else (functionP F ts).bind fun f ts1 => loopF F n (l ++ [f]) ts1) := rfl
theorem parse_G (l : Bs) (f : Nat) : parseP l f = ((chk (words l (l.length + 1) 0)).map (fun _ => ([] : List Fnc))).bind fun L ts => loopG (pf f) 0 L ts := by
  unfold parseP
  rw [step_chk, Res.map_bind]; rfl
theorem loopG_step {F : PF} {R : Res (List Fnc)} {n : Nat} {L : List Fnc} {ts : List Tk} (hR : R = loopG F n L ts) (hne : R ≠ .out) (hk : L = [] ∨ curK ts ≠ k_end) : (((.ok L ts : Res (List Fnc)).and fun _ ts => functionP F ts) ≠ .out) ∧ (L ≠ [] → 1 ≤ n) ∧ ∀ s' : RS, AtR ((.ok L ts : Res (List Fnc)).and fun _ ts => functionP F ts) s' →
    R = (((.ok L ts : Res (List Fnc)).and fun _ ts => functionP F ts).map (fun p => p.1 ++ [p.2])).bind (fun L' ts => loopG F (if L = [] then s'.ts.length + 1 else n - 1) L' ts) := by
  cases L with
  | nil =>
    replace hR : R = (functionP F ts).bind fun f ts1 => loopF F (ts1.length + 1) [f] ts1 := hR
    refine ⟨?_, fun h => absurd rfl h, fun s' ha => ?_⟩
    · show (functionP F ts).bind _ ≠ _
      cases hx : functionP F ts with
      | out => rw [hx] at hR; exact absurd hR hne
      | err e p => simp [Res.bind]
      | ok f ts1 => simp [Res.bind]
    · rw [if_pos rfl, hR]
      cases hx : functionP F ts with
      | out => simp [Res.and, Res.map, Res.bind, hx]
      | err e p => simp [Res.and, Res.map, Res.bind, hx]
      | ok f ts1 =>
        have h2 : AtR (.ok (([] : List Fnc), f) ts1 : Res (List Fnc × Fnc)) s' := ha.same (by simp [Res.and, Res.bind, hx])
        rw [h2.gd.1]
        simp [Res.and, Res.map, Res.bind, hx, loopG]
  | cons x L =>
    have hk : curK ts ≠ k_end := hk.resolve_left (by simp)
    replace hR : R = loopF F n (x :: L) ts := hR
    cases n with
    | zero => exact absurd hR hne
    | succ n =>
    rw [loopF_s, if_neg hk] at hR
    refine ⟨?_, fun _ => by omega, fun s' ha => ?_⟩
    · show (functionP F ts).bind _ ≠ _
      cases hx : functionP F ts with
      | out => rw [hx] at hR; exact absurd hR hne
      | err e p => simp [Res.bind]
      | ok f ts1 => simp [Res.bind]
    · rw [if_neg (by simp), hR]
      cases hx : functionP F ts with
      | out => simp [Res.and, Res.map, Res.bind, hx]
      | err e p => simp [Res.and, Res.map, Res.bind, hx]
      | ok f ts1 => simp [Res.and, Res.map, Res.bind, hx, loopG]
set_option maxHeartbeats 8000000 in
theorem ParseR_r (l : Bs) (w : World) : Cl Tryz.prog 11 #[.string (bs l)] w (OkP l w) (fun _ _ => False) := by
  refine calls_ex (args := [.string (bs l)]) T.ok Tryz.func11 rfl rfl rfl rfl ?_
  have H := Hp.begin nw w
  have hsz := bs_size l
  refine Sq.mk ?_
  ((conv => whnf); refine Al.hp H ?_; clear H; intro p2 _ H _)
  ((conv => whnf); refine Al.hp H ?_; clear H; intro p3 _ H _)
  by_cases hlong : 16384 < l.length
  · repeat' ((conv => whnf); first | refine ztS ?_ | (refine ztB ?_ ?_ <;> intro _ <;> try (exfalso; omega)) | (refine ztW ?_; clear H; intro _ _ H _) | fail)
    all_goals first | (exfalso; omega) | skip
    exact .inr ⟨2, 0, by unfold PR; rw [if_pos hlong], rfl, H.e⟩
  obtain ⟨R, hR⟩ : ∃ R, R = PR l := ⟨_, rfl⟩
  have hne : R ≠ .out := by
    rw [hR]; unfold PR; rw [if_neg hlong]
    intro e
    have := parse_fin l
    rw [e] at this
    exact this
  have hRp : R = ((chk (words l (l.length + 1) 0)).map (fun _ => ([] : List Fnc))).bind fun L ts => loopG (pf (fuelOf l)) 0 L ts := by
    rw [hR]; unfold PR; rw [if_neg hlong, parse_G]
  repeat' ((conv => whnf); first | refine ztS ?_ | (refine ztB ?_ ?_ <;> intro _ <;> try (exfalso; omega)) | (refine ztW ?_; clear H; intro _ _ H _) | fail)
  all_goals first | (exfalso; omega) | skip
  ((conv => whnf); refine Cl.mk (Words_r l _ (by omega)) ?_)
  rintro _ wb ⟨A, cw, rfl, H'⟩
  replace H := H.fr0 H' (.inl rfl)
  clear H'
  have hends := words_ends l (l.length + 1) 0 (Nat.zero_le _) (by omega)
  have hwl := words_len l (l.length + 1) 0
  have hpls : Pls (words l (l.length + 1) 0) := fun t ht => by
    obtain ⟨a, rfl⟩ := words_rd l _ _ t ht
    exact ⟨(rd_kind l a).2.1, (rd_kind l a).1⟩
  have hnum : ∀ t ∈ words l (l.length + 1) 0, NumOk t := fun t ht => by
    obtain ⟨a, rfl⟩ := words_rd l _ _ t ht
    exact rd_num (by omega) a
  generalize hws : words l (l.length + 1) 0 = ws at *
  have hrd := H.rdq 0 rfl
  have H0 := H
  replace H := Hp.begin nw wb
  repeat' ((conv => whnf); first | refine ztS ?_ | (refine ztB ?_ ?_ <;> intro _ <;> try (exfalso; omega)) | (refine ztW ?_; clear H; intro _ _ H _) | fail)
  ((conv => whnf); refine Al.hp H ?_; clear H; intro p5 _ H _)
  have hlo : wb.heap.size ≤ p5 := by assumption
  have Y : RY l ws A cw p5 wb := ⟨⟨hlo, hrd, by omega, hpls⟩, hnum⟩
  have X := Y.x
  have C := rcon_all Y (fuelOf l)
  have hfix : ∀ w', Hp nw wb w' [bk p5 54 (qCs ws A cw 0 ⟨ws, none⟩)] → Hp nw wb w' [rq ws A cw p5 ⟨ws, none⟩] := fun w' h => Hp.toQ (s := ⟨ws, none⟩) (k := 0) h rfl (fun e p h => by cases h)
  replace H := hfix _ H
  clear hfix
  repeat' ((conv => whnf); first | refine ztS ?_ | (refine ztB ?_ ?_ <;> intro _ <;> try (exfalso; omega)) | (refine ztW ?_; clear H; intro _ _ H _) | fail)
  ((conv => whnf); refine Al.hp H ?_; clear H; intro p6 _ H _)
  have hat : AtR (chk ws) ⟨ws, none⟩ := by
    refine ⟨hends, ?_⟩
    rcases chk_cases hends with hc | ⟨e, p, hc⟩
    · rw [hc]; exact ⟨rfl, rfl, hc⟩
    · rw [hc]; exact .inr ⟨rfl, hc⟩
  replace H := Hp.nil (Hp.fns0 H) FM.enc 3 34
  generalize hF : pf (fuelOf l) = F at *
  repeat' ((conv => whnf); first | refine ztS ?_ | (refine ztB ?_ ?_ <;> intro _ <;> try (exfalso; omega)) | (refine ztW ?_; clear H; intro _ _ H _) | fail)
  refine Lp.g0 T.ok (σ := Res (List Fnc) × Nat × Option Addr × Nat × List FM × RS) (fun q => [(5, .pointer (some ⟨p5, 0, none⟩)), (6, .pointer (some ⟨p6, 0, none⟩)), (2, .pointer (some ⟨p2, 0, none⟩)), (3, .pointer (some ⟨p3, 0, none⟩))])
    (fun q w' => R = q.1.bind (fun L ts => loopG F q.2.1 L ts) ∧ AtR q.1 q.2.2.2.2.2 ∧ Vl q.1 (fun a => q.2.2.2.2.1.map FM.e = a) ∧ q.2.1 ≤ 20001 ∧ (q.2.2.2.2.1 = [] ∨ (q.2.2.2.2.2.sp = none → q.2.1 + q.2.2.2.2.1.length ≤ 20002)) ∧ q.2.2.2.2.1.length ≤ 20003 ∧ Hp nw wb w' [qu FM.enc 3 34 q.2.2.1 q.2.2.2.1 q.2.2.2.2.1, fns q.2.2.2.2.1, bk p6 24 [.slice q.2.2.1 q.2.2.2.2.1.length q.2.2.2.1], rq ws A cw p5 q.2.2.2.2.2]) (fun q _ => (if q.2.2.2.2.1 = [] then 100000 else 0) + blkM q.1 q.2.1 q.2.2.2.2.2.sp)
    ((chk ws).map (fun _ => []), 0, none, 0, [], ⟨ws, none⟩) rfl ⟨rfl, rfl, rfl, rfl, trivial⟩ ⟨hRp, hat.map _, Vl.map (g := fun _ => ([] : List Fnc)) (fun _ _ _ => rfl), by simp, .inl rfl, by simp, H⟩ ?_
  clear H hRp hat
  rintro ⟨Rc, n, B, c, fs, s⟩ w5 ⟨hRp, ha, hv, hn0, hn1, hfl, H⟩
  simp only at hRp ha hv hn0 hn1 hfl H ⊢
  repeat' ((conv => whnf); first | refine ztS ?_ | (refine ztB ?_ ?_ <;> intro _ <;> try (exfalso; omega)) | (refine ztW ?_; clear H; intro _ _ H _) | fail)
  (((conv => whnf); refine Cl.mk (fine_r X s _ (H.atC 3 rfl)) ?_); rintro _ _ ⟨rfl, hx⟩; replace H := H.ext hx; clear hx)
  obtain ⟨ts, sp⟩ := s
  cases sp with
  | some x =>
    obtain ⟨e, p⟩ := x
    have hRe : R = .err e p := by
      rw [hRp]
      cases Rc with
      | out => exact absurd hRp hne
      | err e' p' =>
        rcases ha.at_ with h | ⟨h, _⟩
        · simp only [Option.some.injEq, Prod.mk.injEq] at h
          rw [h.1, h.2]; rfl
        · cases h
      | ok a ts1 =>
        have := ha.gd.1
        cases this
    repeat' ((conv => whnf); first | refine ztS ?_ | (refine ztB ?_ ?_ <;> intro _ <;> try (exfalso; omega)) | (refine ztW ?_; clear H; intro _ _ H _) | fail)
    (((conv => whnf); refine Cl.mk (fine_r X ⟨ts, some (e, p)⟩ _ (H.atC 3 rfl)) ?_); rintro _ _ ⟨rfl, hx⟩; replace H := H.ext hx; clear hx)
    repeat' ((conv => whnf); first | refine ztS ?_ | (refine ztB ?_ ?_ <;> intro _ <;> try (exfalso; omega)) | (refine ztW ?_; clear H; intro _ _ H _) | fail)
    obtain ⟨kk, hk1, hk2, hb0⟩ := H.atC (c := rq ws A cw p5 ⟨ts, some (e, p)⟩) 3 rfl
    replace H := Hp.ofQ H hb0
    clear hb0
    replace H := Hp.fr0L H0 H (fun c hc => by simp only [List.mem_cons, List.not_mem_nil, or_false] at hc; rcases hc with rfl | rfl | rfl | rfl <;> exact .inl rfl)
    simp only [List.cons_append, List.nil_append] at H
    (conv => whnf)
    refine Dr.ch T.ok mixed [0, 1, 2, 3, 4] [5, 6] (by kernel_rfl) rfl rfl (fun w' => Blk w' p5 54 (qCs ws A cw kk ⟨ts, some (e, p)⟩)) (fun w1 eT _ => ?_)
    replace H := H.ext eT
    repeat' ((conv => whnf); first | refine QLd1.own (fun _ hw => hw) ?_ | refine QLd.own (fun _ hw => hw) ?_)
    (conv => whnf)
    refine ⟨H.blk 3 rfl, ?_⟩
    refine St.h H (fun w2 H => ?_)
    (conv => whnf)
    refine ⟨H.blk 3 rfl, ?_⟩
    repeat' ((conv => whnf); first | refine ztS ?_ | (refine ztB ?_ ?_ <;> intro _ <;> try (exfalso; omega)) | (refine ztW ?_; clear H; intro _ _ H _) | fail)
    exact .inr ⟨e, p, by rw [← hR, hRe], rfl, H.e⟩
  | none =>
    have hgo : (fs = [] ∨ isR k_end ⟨ts, none⟩ = false) → ∀ w', Hp nw wb w' [qu FM.enc 3 34 B c fs, fns fs, bk p6 24 [.slice B fs.length c], rq ws A cw p5 ⟨ts, none⟩] →
        Cl Tryz.prog 30 #[.pointer (some ⟨p5, 0, none⟩)] w' (fun v w'' => ∃ f s2 Rc2 n2, v = FM.v f ∧ R = Rc2.bind (fun L ts => loopG F n2 L ts) ∧ AtR Rc2 s2 ∧ Vl Rc2 (fun a => (fs ++ [f]).map FM.e = a) ∧ n2 ≤ 20001 ∧ (s2.sp = none → n2 + (fs.length + 1) ≤ 20002) ∧ fs.length + 1 ≤ 20003 ∧ blkM Rc2 n2 s2.sp < (if fs = [] then 100000 else 0) + blkM Rc n none ∧ Hp nw wb w'' [qu FM.enc 3 34 B c fs, bk p6 24 [.slice B fs.length c], rq ws A cw p5 s2, fns [f], fns fs]) (fun _ _ => False) := fun hc w' H => by
      have hfl2 : fs.length + 1 ≤ 20003 := by
        rcases hn1 with h | h
        · rw [h]; simp
        · have := h rfl; omega
      cases Rc with
      | out => exact absurd hRp hne
      | err e p =>
        refine Cl.mkX (functionD Y ⟨ts, none⟩ _ H.e (H.atC 3 rfl) ha.toErr) (fun v w'' q => ?_) (fun _ _ h => h)
        obtain ⟨f, rfl, H'⟩ := q
        replace H := H.updn (c := rq ws A cw p5 ⟨ts, none⟩) (Hp.swap H') rfl (.inl rfl) (.inl rfl)
        refine ⟨f, ⟨ts, some (e, p)⟩, .err e p, 0, rfl, hRp, ⟨ha.ends, .inl rfl⟩, Vl.err, by omega, (fun h => by cases h), hfl2, ?_, H.sel [1, 2, 2, 0, 0] rfl⟩
        simp only [blkM]
        split <;> omega
      | ok L ts1 =>
        obtain ⟨hs, hg⟩ := ha.gd
        obtain rfl : ts = ts1 := by cases hs; rfl
        have hLf : fs.map FM.e = L := hv L _ rfl
        have hLe : L = [] ↔ fs = [] := by rw [← hLf]; simp
        have hk : L = [] ∨ curK ts ≠ k_end := by
          rcases hc with h | h
          · exact .inl (hLe.2 h)
          · right
            rw [is_ok ha] at h
            simpa using h
        obtain ⟨g1, g2, g3⟩ := loopG_step hRp hne hk
        refine Cl.mkX (function_r Y C (.ok L ts : Res (List Fnc)) ⟨ts, none⟩ _ H.e (H.atC 3 rfl) ha g1) (fun v w'' q => ?_) (fun _ _ h => h)
        obtain ⟨f, s2, rfl, ha2, hv2, H'⟩ := q
        replace H := H.updn (c := rq ws A cw p5 ⟨ts, none⟩) (Hp.swap H') rfl (.inl rfl) (.inl rfl)
        have hsm := RdQ.small X (H.atC (c := rq ws A cw p5 s2) 4 rfl)
        have hb := blkM_le (((.ok L ts : Res (List Fnc)).and fun _ ts => functionP F ts).map (fun p => p.1 ++ [p.2])) (if L = [] then s2.ts.length + 1 else n - 1) s2.sp
        refine ⟨f, s2, ((.ok L ts : Res (List Fnc)).and fun _ ts => functionP F ts).map (fun p => p.1 ++ [p.2]), if L = [] then s2.ts.length + 1 else n - 1, rfl, g3 s2 ha2, ha2.map _, Vl.map (Vl.mono2 (Vl.fst hv) hv2 fun a h1 h2 => by rw [List.map_append, h1]; simp only [List.map_cons, List.map_nil]; rw [h2]), ?_, fun _ => ?_, hfl2, ?_, H.sel [1, 2, 2, 0, 0] rfl⟩
        · split <;> omega
        · split
          · rename_i h
            rw [hLe.1 h]; simp only [List.length_nil]; omega
          · rename_i h
            have := (hn1.resolve_left fun e => h (hLe.2 e)) rfl
            have := g2 h
            omega
        · refine Nat.lt_of_le_of_lt hb ?_
          simp only [blkM]
          by_cases h : fs = []
          · rw [if_pos h, if_pos (hLe.2 h)]; omega
          · rw [if_neg h, if_neg (fun e => h (hLe.1 e))]
            have := g2 (fun e => h (hLe.1 e))
            omega
    repeat' ((conv => whnf); first | refine ztS ?_ | (refine ztB ?_ ?_ <;> intro _ <;> try (exfalso; omega)) | (refine ztW ?_; clear H; intro _ _ H _) | fail)
    · have hfe : fs = [] := List.eq_nil_of_length_eq_zero (by omega)
      ((conv => whnf); refine Cl.mk (hgo (.inl hfe) _ H) ?_)
      rintro _ w6 ⟨f, s2, Rc2, n2, rfl, g1, g2, g3, g4, g5, g6, g7, H⟩
      (obtain ⟨nm1, P1, cp1, ps1, B1, cb1, b1⟩ := f; ((conv => whnf); refine Al.hp H ?_; clear H; intro p7 _ H _); (repeat' ((conv => whnf); first | refine ztS ?_ | (refine ztB ?_ ?_ <;> intro _ <;> try (exfalso; omega)) | (refine ztW ?_; clear H; intro _ _ H _) | fail)); refine Sm.lith (cs := FM.enc ⟨nm1, P1, cp1, ps1, B1, cb1, b1⟩) H T.ok (fun p8 w8 H _ => ?_); refine Sm.ap1 (enc := FM.enc) ⟨nm1, P1, cp1, ps1, B1, cb1, b1⟩ H T.ok ?_ ?_ (fun A' c' w9 H => ?_); (focus (show (fs.length + 1) * 64 ≤ _; omega)); (focus omega); simp only [List.cons_append, List.nil_append] at H; (repeat' ((conv => whnf); first | refine ztS ?_ | (refine ztB ?_ ?_ <;> intro _ <;> try (exfalso; omega)) | (refine ztW ?_; clear H; intro _ _ H _) | fail)); have hl1 : (fs ++ [(⟨nm1, P1, cp1, ps1, B1, cb1, b1⟩ : FM)]).length = fs.length + 1 := (by simp); refine ⟨(Rc2, n2, A', c', fs ++ [⟨nm1, P1, cp1, ps1, B1, cb1, b1⟩], s2), ⟨rfl, rfl, rfl, rfl, trivial⟩, rfl, ⟨g1, g2, g3, g4, .inr (by simp only [hl1]; exact g5), (by simp only [hl1]; exact g6), ?_⟩, (by show (if fs ++ [(⟨nm1, P1, cp1, ps1, B1, cb1, b1⟩ : FM)] = [] then 100000 else 0) + blkM Rc2 n2 s2.sp < _; rw [if_neg (by simp)]; exact Nat.lt_of_le_of_lt (Nat.le_of_eq (Nat.zero_add _)) g7)⟩; simp only [hl1]; exact Hp.swap (Hp.fnsS (H.sel [4, 4, 1, 1, 1] rfl)))
    · have hfe : ¬ fs = [] := fun h => by
        have : ((fs.length : Int)) ≠ 0 := by assumption
        rw [h] at this
        exact this rfl
      (((conv => whnf); refine Cl.mk (is_r X k_end ⟨ts, none⟩ _ (Hp.e H) (H.atC 3 rfl) (ends_ne ha.ends)) ?_); rintro _ _ ⟨rfl, hx⟩; replace H := H.ext hx; clear hx)
      by_cases hke : isR k_end ⟨ts, none⟩ = true
      case neg =>
        rw [Bool.eq_false_iff.2 hke]
        repeat' ((conv => whnf); first | refine ztS ?_ | (refine ztB ?_ ?_ <;> intro _ <;> try (exfalso; omega)) | (refine ztW ?_; clear H; intro _ _ H _) | fail)
        ((conv => whnf); refine Cl.mk (hgo (.inr (Bool.eq_false_iff.2 hke)) _ H) ?_)
        rintro _ w6 ⟨f, s2, Rc2, n2, rfl, g1, g2, g3, g4, g5, g6, g7, H⟩
        (obtain ⟨nm1, P1, cp1, ps1, B1, cb1, b1⟩ := f; ((conv => whnf); refine Al.hp H ?_; clear H; intro p7 _ H _); (repeat' ((conv => whnf); first | refine ztS ?_ | (refine ztB ?_ ?_ <;> intro _ <;> try (exfalso; omega)) | (refine ztW ?_; clear H; intro _ _ H _) | fail)); refine Sm.lith (cs := FM.enc ⟨nm1, P1, cp1, ps1, B1, cb1, b1⟩) H T.ok (fun p8 w8 H _ => ?_); refine Sm.ap1 (enc := FM.enc) ⟨nm1, P1, cp1, ps1, B1, cb1, b1⟩ H T.ok ?_ ?_ (fun A' c' w9 H => ?_); (focus (show (fs.length + 1) * 64 ≤ _; omega)); (focus omega); simp only [List.cons_append, List.nil_append] at H; (repeat' ((conv => whnf); first | refine ztS ?_ | (refine ztB ?_ ?_ <;> intro _ <;> try (exfalso; omega)) | (refine ztW ?_; clear H; intro _ _ H _) | fail)); have hl1 : (fs ++ [(⟨nm1, P1, cp1, ps1, B1, cb1, b1⟩ : FM)]).length = fs.length + 1 := (by simp); refine ⟨(Rc2, n2, A', c', fs ++ [⟨nm1, P1, cp1, ps1, B1, cb1, b1⟩], s2), ⟨rfl, rfl, rfl, rfl, trivial⟩, rfl, ⟨g1, g2, g3, g4, .inr (by simp only [hl1]; exact g5), (by simp only [hl1]; exact g6), ?_⟩, (by show (if fs ++ [(⟨nm1, P1, cp1, ps1, B1, cb1, b1⟩ : FM)] = [] then 100000 else 0) + blkM Rc2 n2 s2.sp < _; rw [if_neg (by simp)]; exact Nat.lt_of_le_of_lt (Nat.le_of_eq (Nat.zero_add _)) g7)⟩; simp only [hl1]; exact Hp.swap (Hp.fnsS (H.sel [4, 4, 1, 1, 1] rfl)))
      rw [hke]
      have hRe : R = .ok (fs.map FM.e) ts := by
        rw [hRp]
        cases Rc with
        | out => exact absurd hRp hne
        | err e p => rw [is_err ha (by decide) (by decide)] at hke; cases hke
        | ok L ts1 =>
          obtain ⟨hs, hg⟩ := ha.gd
          obtain rfl : ts = ts1 := by cases hs; rfl
          rw [is_ok ha] at hke
          have hk : curK ts = k_end := by simpa using hke
          have hLf : fs.map FM.e = L := hv L _ rfl
          rw [hLf]
          cases L with
          | nil => exact absurd (List.map_eq_nil_iff.1 hLf) hfe
          | cons x L =>
            replace hRp : R = loopF F n (x :: L) ts := hRp
            show loopF F n (x :: L) ts = _
            cases n with
            | zero => exact absurd hRp hne
            | succ n => rw [loopF_s, if_pos hk]
      repeat' ((conv => whnf); first | refine ztS ?_ | (refine ztB ?_ ?_ <;> intro _ <;> try (exfalso; omega)) | (refine ztW ?_; clear H; intro _ _ H _) | fail)
      (((conv => whnf); refine Cl.mk (fine_r X ⟨ts, none⟩ _ (H.atC 3 rfl)) ?_); rintro _ _ ⟨rfl, hx⟩; replace H := H.ext hx; clear hx)
      repeat' ((conv => whnf); first | refine ztS ?_ | (refine ztB ?_ ?_ <;> intro _ <;> try (exfalso; omega)) | (refine ztW ?_; clear H; intro _ _ H _) | fail)
      replace H := Hp.fr0L H0 H (fun c hc => by simp only [List.mem_cons, List.not_mem_nil, or_false] at hc; rcases hc with rfl | rfl | rfl | rfl <;> exact .inl rfl)
      simp only [List.cons_append, List.nil_append] at H
      repeat' ((conv => whnf); first | refine ztS ?_ | (refine ztB ?_ ?_ <;> intro _ <;> try (exfalso; omega)) | (refine ztW ?_; clear H; intro _ _ H _) | fail)
      exact .inl ⟨fs, ts, B, c, by rw [← hR, hRe], rfl, by omega, H.sel [0, 0] rfl⟩
end Go.Proofs.YtfnjodpehomgfaaGreatDoor
namespace Go.Proofs.YtfnjodpehomgfaaGreatDoor
open Go Go.Sh Go.Tx
attribute [local irreducible] Blk Ext RdS
mutual
def sameE : Ex → Ex → Bool
  | .mk k o n a b l, .mk k2 o2 n2 a2 b2 l2 => k == k2 && o == o2 && n == n2 && a == a2 && b == b2 && sameL l l2
def sameL : List Ex → List Ex → Bool
  | [], [] => true
  | x :: r, y :: s => sameE x y && sameL r s
  | [], _ :: _ => false
  | _ :: _, [] => false
end
theorem sameL_len : ∀ {l m : List Ex}, sameL l m = true → l.length = m.length
  | [], [], _ => rfl
  | x :: r, y :: s, h => by
    simp only [sameL, Bool.and_eq_true] at h
    simp [sameL_len h.2]
  | [], _ :: _, h => by simp [sameL] at h
  | _ :: _, [], h => by simp [sameL] at h
theorem sameL_ne {l m : List Ex} (h : l.length ≠ m.length) : sameL l m = false := by
  cases hx : sameL l m with
  | false => rfl
  | true => exact absurd (sameL_len hx) h
mutual
def ET.sz : ET → Nat
  | .mk _ _ _ _ _ _ _ ks => ET.szs ks + 1
def ET.szs : List ET → Nat
  | [] => 0
  | x :: r => ET.sz x + ET.szs r
end
theorem ET.sz_mem {x : ET} : ∀ {l : List ET}, x ∈ l → ET.sz x ≤ ET.szs l
  | [], h => by simp at h
  | y :: r, h => by
    simp only [ET.szs]
    rcases List.mem_cons.1 h with rfl | h
    · omega
    · have := ET.sz_mem h; omega
theorem ET.es_drop : ∀ (l : List ET) (i : Nat), ET.es (l.drop i) = (ET.es l).drop i
  | l, 0 => by simp
  | [], i + 1 => by simp [ET.es]
  | x :: r, i + 1 => by simp [ET.es, ET.es_drop r i]
theorem ET.Ok.ext {w w' : World} {t : ET} (h : ET.Ok w t) (e : Ext w w') : ET.Ok w' t := ET.Ok.loc e.size h fun b hb => by
  have e2 := e
  unfold Ext at e2
  exact Go.RowKit.Below.block e2 b (ET.Ok.lt h b hb)
mutual
def ET.Lo (w : World) : ET → Prop
  | .mk _ _ _ _ _ A _ ks => RdS ET.enc 6 w A ks ∧ ET.Los w ks ∧ ks.length ≤ 9000000
def ET.Los (w : World) : List ET → Prop
  | [] => True
  | x :: r => ET.Lo w x ∧ ET.Los w r
end
mutual
theorem ET.Lo.ext {w w' : World} (e : Ext w w') : ∀ {t : ET}, ET.Lo w t → ET.Lo w' t
  | .mk _ _ _ _ _ _ _ _, h => ⟨RdS.from e h.1, ET.Los.ext e h.2.1, h.2.2⟩
theorem ET.Los.ext {w w' : World} (e : Ext w w') : ∀ {l : List ET}, ET.Los w l → ET.Los w' l
  | [], _ => trivial
  | _ :: _, h => ⟨ET.Lo.ext e h.1, ET.Los.ext e h.2⟩
end
mutual
theorem ET.Ok.lo {w : World} : ∀ {t : ET}, ET.Ok w t → ET.Lo w t
  | .mk _ _ _ _ _ _ _ _, h => ⟨h.1.rd, ET.Oks.los h.2.1, Nat.le_trans h.2.2 (by decide)⟩
theorem ET.Oks.los {w : World} : ∀ {l : List ET}, ET.Oks w l → ET.Los w l
  | [], _ => trivial
  | _ :: _, h => ⟨ET.Ok.lo h.1, ET.Oks.los h.2⟩
end
theorem ET.los_mem {w : World} {x : ET} : ∀ {l : List ET}, x ∈ l → ET.Los w l → ET.Lo w x
  | [], h, _ => by simp at h
  | y :: r, h, hk => by
    rcases List.mem_cons.1 h with rfl | h
    · exact hk.1
    · exact ET.los_mem h hk.2
set_option maxHeartbeats 2000000 in
theorem sameExpr_l : ∀ (n : Nat) (x y : ET) (w : World), ET.sz x ≤ n → ET.Lo w x → ET.Lo w y → Cl Tryz.prog 63 #[x.v, y.v] w (fun v w' => v = .bool (sameE x.e y.e) ∧ Ext w w') (fun _ _ => False)
  | 0, x, y, w, hn, _, _ => by cases x; simp [ET.sz] at hn
  | n + 1, .mk k1 o1 n1 a1 b1 A1 c1 l1, .mk k2 o2 n2 a2 b2 A2 c2 l2, w, hn, hx, hy => by
    refine calls_ex (args := [.agg #[.int .i64 k1, .int .i64 o1, .int .i64 n1, .string (bs a1), .string (bs b1), .slice A1 l1.length c1], .agg #[.int .i64 k2, .int .i64 o2, .int .i64 n2, .string (bs a2), .string (bs b2), .slice A2 l2.length c2]]) T.ok Tryz.func63 rfl rfl rfl rfl ?_
    have H := Hp.begin nw w
    refine Sq.mk ?_
    ((conv => whnf); refine Al.hp H ?_; clear H; intro p2 _ H _)
    ((conv => whnf); refine Al.hp H ?_; clear H; intro p3 _ H _)
    repeat' ((conv => whnf); first | refine ztS ?_ | (refine ztB ?_ ?_ <;> intro _ <;> try (exfalso; omega)) | (refine ztA ?_; clear H; intro _ _ H _) | fail)
    · rename_i h
      repeat' ((conv => whnf); first | refine ztS ?_ | (refine ztB ?_ ?_ <;> intro _ <;> try (exfalso; omega)) | (refine ztA ?_; clear H; intro _ _ H _) | fail)
      exact ⟨b_eq (by simp [ET.e, sameE, h]), H.e⟩
    · rename_i h
      repeat' ((conv => whnf); first | refine ztS ?_ | (refine ztB ?_ ?_ <;> intro _ <;> try (exfalso; omega)) | (refine ztA ?_; clear H; intro _ _ H _) | fail)
      exact ⟨b_eq (by simp [ET.e, sameE, h]), H.e⟩
    · rename_i h
      repeat' ((conv => whnf); first | refine ztS ?_ | (refine ztB ?_ ?_ <;> intro _ <;> try (exfalso; omega)) | (refine ztA ?_; clear H; intro _ _ H _) | fail)
      exact ⟨b_eq (by simp [ET.e, sameE, h]), H.e⟩
    · rename_i h
      repeat' ((conv => whnf); first | refine ztS ?_ | (refine ztB ?_ ?_ <;> intro _ <;> try (exfalso; omega)) | (refine ztA ?_; clear H; intro _ _ H _) | fail)
      exact ⟨b_eq (by simp only [ET.e, sameE]; rw [sameL_ne (by rw [ET.es_len, ET.es_len]; omega)]; simp), H.e⟩
    · rename_i h1 h2 h3 h4 h5 h6
      rw [bs_eq] at h4 h5
      have h4 := of_decide_eq_true h4
      have h5 := of_decide_eq_true h5
      have hl : l1.length = l2.length := by omega
      have hE : sameE (ET.e (.mk k1 o1 n1 a1 b1 A1 c1 l1)) (ET.e (.mk k2 o2 n2 a2 b2 A2 c2 l2)) = sameL (ET.es l1) (ET.es l2) := by simp [ET.e, sameE, h1, h2, h3, h4, h5]
      rw [hE]
      clear h1 h2 h3 h4 h5 h6 hE
      have hq1 := hx.1
      have hq2 := hy.1
      have hlb : l1.length ≤ 9000000 := hx.2.2
      repeat' ((conv => whnf); first | refine ztS ?_ | (refine ztB ?_ ?_ <;> intro _ <;> try (exfalso; omega)) | (refine ztA ?_; clear H; intro _ _ H _) | fail)
      refine Lp.g0 T.ok (σ := Nat) (fun i => [(5, .int .i64 (i : Int)), (2, .pointer (some ⟨p2, 0, none⟩)), (3, .pointer (some ⟨p3, 0, none⟩))])
        (fun i w' => i ≤ l1.length ∧ sameL (ET.es l1) (ET.es l2) = sameL ((ET.es l1).drop i) ((ET.es l2).drop i) ∧ Hp nw w w' [bk p3 74 [.int .i64 k2, .int .i64 o2, .int .i64 n2, .string (bs a2), .string (bs b2), .slice A2 l2.length c2], bk p2 74 [.int .i64 k1, .int .i64 o1, .int .i64 n1, .string (bs a1), .string (bs b1), .slice A1 l1.length c1]]) (fun i _ => l1.length - i) 0 rfl ⟨rfl, rfl, rfl, trivial⟩ ⟨Nat.zero_le _, rfl, H⟩ ?_
      clear H
      rintro i w5 ⟨hi, hs, H⟩
      by_cases hlt : i < l1.length
      · obtain ⟨u, hu⟩ : ∃ u, l1[i]? = some u := ⟨_, List.getElem?_eq_getElem hlt⟩
        obtain ⟨v, hv⟩ : ∃ v, l2[i]? = some v := ⟨_, List.getElem?_eq_getElem (show i < l2.length by omega)⟩
        have hr1 := RdS.from H.e hq1
        have hr2 := RdS.from H.e hq2
        have hlt2 : i < l2.length := by omega
        have hd1 : (ET.es l1).drop i = ET.e u :: (ET.es l1).drop (i + 1) := by
          obtain ⟨g1, g2⟩ := List.getElem?_eq_some_iff.1 hu
          rw [← ET.es_drop, List.drop_eq_getElem_cons g1, g2, ET.es, ET.es_drop]
        have hd2 : (ET.es l2).drop i = ET.e v :: (ET.es l2).drop (i + 1) := by
          obtain ⟨g1, g2⟩ := List.getElem?_eq_some_iff.1 hv
          rw [← ET.es_drop, List.drop_eq_getElem_cons g1, g2, ET.es, ET.es_drop]
        rw [hd1, hd2, sameL] at hs
        repeat' ((conv => whnf); first | refine ztS ?_ | (refine ztB ?_ ?_ <;> intro _ <;> try (exfalso; omega)) | (refine ztA ?_; clear H; intro _ _ H _) | fail)
        have hzn : ET.sz u ≤ n := by
          have := ET.sz_mem (List.mem_of_getElem? hu)
          simp only [ET.sz] at hn
          omega
        ((conv => whnf); refine Dr.tail T.ok mixed 10 (by kernel_rfl) (fun W wT hW eT _ => ?_); (repeat' ((conv => whnf); first | refine ztQ ?_ | (refine ztB ?_ ?_ <;> intro _ <;> try (exfalso; omega)) | fail)); replace H := H.ext eT; clear hW eT)
        (((conv => whnf); refine Cl.mk (sameExpr_l n u v _ hzn ((ET.los_mem (List.mem_of_getElem? hu) hx.2.1).ext H.e) ((ET.los_mem (List.mem_of_getElem? hv) hy.2.1).ext H.e)) ?_); rintro _ _ ⟨rfl, hx⟩; replace H := H.ext hx; clear hx)
        cases hb : sameE u.e v.e with
        | true =>
          rw [hb, Bool.true_and] at hs
          repeat' ((conv => whnf); first | refine ztS ?_ | (refine ztB ?_ ?_ <;> intro _ <;> try (exfalso; omega)) | (refine ztA ?_; clear H; intro _ _ H _) | fail)
          exact ⟨i + 1, ⟨at_int (m := ((i + 1 : Nat) : Int)) rfl (w64 (by simp) (by omega) (by omega)), rfl, rfl, trivial⟩, rfl, ⟨by omega, hs, H⟩, by omega⟩
        | false =>
          rw [hb, Bool.false_and] at hs
          repeat' ((conv => whnf); first | refine ztS ?_ | (refine ztB ?_ ?_ <;> intro _ <;> try (exfalso; omega)) | (refine ztA ?_; clear H; intro _ _ H _) | fail)
          exact ⟨b_eq hs.symm, H.e⟩
      · have h1 : (ET.es l1).drop i = [] := List.drop_of_length_le (by rw [ET.es_len]; omega)
        have h2 : (ET.es l2).drop i = [] := List.drop_of_length_le (by rw [ET.es_len]; omega)
        rw [h1, h2] at hs
        repeat' ((conv => whnf); first | refine ztS ?_ | (refine ztB ?_ ?_ <;> intro _ <;> try (exfalso; omega)) | (refine ztA ?_; clear H; intro _ _ H _) | fail)
        all_goals first | (exfalso; omega) | skip
        exact ⟨b_eq hs.symm, H.e⟩
    · rename_i h
      rw [bs_eq] at h
      have h := of_decide_eq_false h
      repeat' ((conv => whnf); first | refine ztS ?_ | (refine ztB ?_ ?_ <;> intro _ <;> try (exfalso; omega)) | (refine ztA ?_; clear H; intro _ _ H _) | fail)
      exact ⟨b_eq (by simp [ET.e, sameE, h]), H.e⟩
    · rename_i h
      rw [bs_eq] at h
      have h := of_decide_eq_false h
      repeat' ((conv => whnf); first | refine ztS ?_ | (refine ztB ?_ ?_ <;> intro _ <;> try (exfalso; omega)) | (refine ztA ?_; clear H; intro _ _ H _) | fail)
      exact ⟨b_eq (by simp [ET.e, sameE, h]), H.e⟩
end Go.Proofs.YtfnjodpehomgfaaGreatDoor
namespace Go.Proofs.YtfnjodpehomgfaaGreatDoor
open Go Go.Sh Go.Tx
theorem QLd.rsF {α : Type} {enc : α → List Value} {sz i o n : Nat} {W : World → Prop} {Rl : World → World → Prop} {w : World} {A : Option Addr} {l : List α} {x : α} {k : List Value → Prop} (hW : QW W w Rl) (h : RdS enc sz w A l) (hx : l[i]? = some x) (hn : (((enc x).drop o).take n).length = n) (hk : k (((enc x).drop o).take n)) : QLd W (pAdd ((gA A).add (i * sz)) o) n k := by
  refine ⟨_, fun w' hw' => ⟨hn, fun j v hv => ?_⟩, hk⟩
  obtain ⟨vs, h1, h2, h3⟩ := Rd.at_ (RdS.from (hW.1 w' hw') h) i x hx
  unfold Fl at h2
  subst h2
  have hj : j < n := by
    have := (List.getElem?_eq_some_iff.1 hv).1
    omega
  rw [List.getElem?_take_of_lt hj, List.getElem?_drop] at hv
  have := h3 (o + j) v hv
  rw [pAdd_add, add_add]
  rw [Nat.add_assoc]
  exact this
attribute [local irreducible] Blk Ext RdS
mutual
def sameT : Go.Tx.St → Go.Tx.St → Bool
  | .mk k a e b f, .mk k2 a2 e2 b2 f2 => k == k2 && a == a2 && sameE e e2 && sameU b b2 && sameU f f2
def sameU : List Go.Tx.St → List Go.Tx.St → Bool
  | [], [] => true
  | x :: r, y :: s => sameT x y && sameU r s
  | [], _ :: _ => false
  | _ :: _, [] => false
end
theorem sameU_len : ∀ {l m : List Go.Tx.St}, sameU l m = true → l.length = m.length
  | [], [], _ => rfl
  | x :: r, y :: s, h => by
    simp only [sameU, Bool.and_eq_true] at h
    simp [sameU_len h.2]
  | [], _ :: _, h => by simp [sameU] at h
  | _ :: _, [], h => by simp [sameU] at h
theorem sameU_ne {l m : List Go.Tx.St} (h : l.length ≠ m.length) : sameU l m = false := by
  cases hx : sameU l m with
  | false => rfl
  | true => exact absurd (sameU_len hx) h
mutual
def SM.sz : SM → Nat
  | .mk _ _ _ _ _ b _ _ f => SM.szs b + SM.szs f + 1
def SM.szs : List SM → Nat
  | [] => 0
  | x :: r => SM.sz x + SM.szs r
end
theorem SM.sz_mem {x : SM} : ∀ {l : List SM}, x ∈ l → SM.sz x ≤ SM.szs l
  | [], h => by simp at h
  | y :: r, h => by
    simp only [SM.szs]
    rcases List.mem_cons.1 h with rfl | h
    · omega
    · have := SM.sz_mem h; omega
theorem SM.es_drop : ∀ (l : List SM) (i : Nat), SM.es (l.drop i) = (SM.es l).drop i
  | l, 0 => by simp
  | [], i + 1 => by simp [SM.es]
  | x :: r, i + 1 => by simp [SM.es, SM.es_drop r i]
theorem SM.Oks.ext {w w' : World} {l : List SM} (h : SM.Oks w l) (e : Ext w w') : SM.Oks w' l := SM.Oks.loc e.size h fun b hb => by
  have e2 := e
  unfold Ext at e2
  exact Go.RowKit.Below.block e2 b (SM.Oks.lt h b hb)
theorem ET.Oks.ext {w w' : World} {l : List ET} (h : ET.Oks w l) (e : Ext w w') : ET.Oks w' l := ET.Oks.loc e.size h fun b hb => by
  have e2 := e
  unfold Ext at e2
  exact Go.RowKit.Below.block e2 b (ET.Oks.lt h b hb)
mutual
def SM.Lo (w : World) : SM → Prop
  | .mk _ _ e B _ b E _ f => ET.Lo w e ∧ RdS SM.enc 10 w B b ∧ SM.Los w b ∧ RdS SM.enc 10 w E f ∧ SM.Los w f ∧ b.length ≤ 9000000 ∧ f.length ≤ 9000000
def SM.Los (w : World) : List SM → Prop
  | [] => True
  | x :: r => SM.Lo w x ∧ SM.Los w r
end
mutual
theorem SM.Lo.ext {w w' : World} (e : Ext w w') : ∀ {t : SM}, SM.Lo w t → SM.Lo w' t
  | .mk _ _ _ _ _ _ _ _ _, h => ⟨h.1.ext e, RdS.from e h.2.1, SM.Los.ext e h.2.2.1, RdS.from e h.2.2.2.1, SM.Los.ext e h.2.2.2.2.1, h.2.2.2.2.2⟩
theorem SM.Los.ext {w w' : World} (e : Ext w w') : ∀ {l : List SM}, SM.Los w l → SM.Los w' l
  | [], _ => trivial
  | _ :: _, h => ⟨SM.Lo.ext e h.1, SM.Los.ext e h.2⟩
end
mutual
theorem SM.Ok.lo {w : World} : ∀ {t : SM}, SM.Ok w t → SM.Lo w t
  | .mk _ _ _ _ _ _ _ _ _, h => ⟨h.1.lo, h.2.1.rd, SM.Oks.los h.2.2.1, h.2.2.2.1.rd, SM.Oks.los h.2.2.2.2.1, Nat.le_trans h.2.2.2.2.2.1 (by decide), Nat.le_trans h.2.2.2.2.2.2 (by decide)⟩
theorem SM.Oks.los {w : World} : ∀ {l : List SM}, SM.Oks w l → SM.Los w l
  | [], _ => trivial
  | _ :: _, h => ⟨SM.Ok.lo h.1, SM.Oks.los h.2⟩
end
theorem SM.los_mem {w : World} {x : SM} : ∀ {l : List SM}, x ∈ l → SM.Los w l → SM.Lo w x
  | [], h, _ => by simp at h
  | y :: r, h, hk => by
    rcases List.mem_cons.1 h with rfl | h
    · exact hk.1
    · exact SM.los_mem h hk.2
def FM.Lo (w : World) (f : FM) : Prop := RdS strE 1 w f.P f.params ∧ RdS SM.enc 10 w f.B f.body ∧ SM.Los w f.body ∧ f.params.length ≤ 9000000 ∧ f.body.length ≤ 9000000
set_option maxHeartbeats 8000000 in
theorem sameStmts_c : ∀ (n : Nat) (l m : List SM) (A B : Option Addr) (ca cb : Nat) (w : World), SM.szs l < n → RdS SM.enc 10 w A l → SM.Los w l → RdS SM.enc 10 w B m → SM.Los w m → l.length ≤ 9000000 →
    Cl Tryz.prog 35 #[.slice A l.length ca, .slice B m.length cb] w (fun v w' => v = .bool (sameU (SM.es l) (SM.es m)) ∧ Ext w w') (fun _ _ => False)
  | 0, l, m, A, B, ca, cb, w, hn, _, _, _, _, _ => by omega
  | n + 1, l, m, A, B, ca, cb, w, hn, hrl, hol, hrm, hom, hlb => by
    refine calls_ex (args := [.slice A l.length ca, .slice B m.length cb]) T.ok Tryz.func35 rfl rfl rfl rfl ?_
    have H := Hp.begin nw w
    by_cases hlen : l.length = m.length
    case neg =>
      repeat' ((conv => whnf); first | refine ztS ?_ | (refine ztB ?_ ?_ <;> intro _ <;> try (exfalso; omega)) | (refine ztA ?_; clear H; intro _ _ H _) | fail)
      all_goals first | (exfalso; omega) | skip
      exact ⟨b_eq (sameU_ne (by rw [SM.es_len, SM.es_len]; exact hlen)).symm, H.e⟩
    repeat' ((conv => whnf); first | refine ztS ?_ | (refine ztB ?_ ?_ <;> intro _ <;> try (exfalso; omega)) | (refine ztA ?_; clear H; intro _ _ H _) | fail)
    all_goals first | (exfalso; omega) | skip
    refine Lp.g0 T.ok (σ := Nat) (fun i => [(5, .int .i64 (i : Int)), (0, .slice A l.length ca), (1, .slice B m.length cb)])
      (fun i w' => i ≤ l.length ∧ sameU (SM.es l) (SM.es m) = sameU ((SM.es l).drop i) ((SM.es m).drop i) ∧ Hp nw w w' []) (fun i _ => l.length - i) 0 rfl ⟨rfl, rfl, rfl, trivial⟩ ⟨Nat.zero_le _, rfl, H⟩ ?_
    clear H
    rintro i w5 ⟨hi, hs, H⟩
    by_cases hlt : i < l.length
    case neg =>
      have h1 : (SM.es l).drop i = [] := List.drop_of_length_le (by rw [SM.es_len]; omega)
      have h2 : (SM.es m).drop i = [] := List.drop_of_length_le (by rw [SM.es_len]; omega)
      rw [h1, h2] at hs
      repeat' ((conv => whnf); first | refine ztS ?_ | (refine ztB ?_ ?_ <;> intro _ <;> try (exfalso; omega)) | (refine ztA ?_; clear H; intro _ _ H _) | fail)
      all_goals first | (exfalso; omega) | skip
      exact ⟨b_eq hs.symm, H.e⟩
    obtain ⟨u, hu⟩ : ∃ u, l[i]? = some u := ⟨_, List.getElem?_eq_getElem hlt⟩
    obtain ⟨v, hv⟩ : ∃ v, m[i]? = some v := ⟨_, List.getElem?_eq_getElem (show i < m.length by omega)⟩
    have hlt2 : i < m.length := by omega
    have hd1 : (SM.es l).drop i = SM.e u :: (SM.es l).drop (i + 1) := by
      obtain ⟨g1, g2⟩ := List.getElem?_eq_some_iff.1 hu
      rw [← SM.es_drop, List.drop_eq_getElem_cons g1, g2, SM.es, SM.es_drop]
    have hd2 : (SM.es m).drop i = SM.e v :: (SM.es m).drop (i + 1) := by
      obtain ⟨g1, g2⟩ := List.getElem?_eq_some_iff.1 hv
      rw [← SM.es_drop, List.drop_eq_getElem_cons g1, g2, SM.es, SM.es_drop]
    rw [hd1, hd2, sameU] at hs
    have hzn := SM.sz_mem (List.mem_of_getElem? hu)
    have hou := SM.los_mem (List.mem_of_getElem? hu) (hol.ext H.e)
    have hov := SM.los_mem (List.mem_of_getElem? hv) (hom.ext H.e)
    have hr1 := RdS.from H.e hrl
    have hr2 := RdS.from H.e hrm
    obtain ⟨k1, a1, ⟨kd1, o1, n1, nm1, cb1, A1, c1, l1⟩, B1, cB1, b1, E1, cE1, f1⟩ := u
    obtain ⟨k2, a2, ⟨kd2, o2, n2, nm2, cb2, A2, c2, l2⟩, B2, cB2, b2, E2, cE2, f2⟩ := v
    repeat' ((conv => whnf); first | refine ztS ?_ | (refine ztB ?_ ?_ <;> intro _ <;> try (exfalso; omega)) | (refine ztA ?_; clear H; intro _ _ H _) | fail)
    ((conv => whnf); refine Dr.quiet T.ok mixed (by kernel_rfl) (fun W hW => ?_))
    repeat' (first | ((conv => whnf); first | refine ztQ ?_ | (refine ztB ?_ ?_ <;> intro _ <;> try (exfalso; omega)) | fail) | ((conv => whnf); refine QLd.rsF (o := 2) (n := 6) hW hr1 hu rfl ?_) | ((conv => whnf); refine QLd.rsF (o := 2) (n := 6) hW hr2 hv rfl ?_) | ((conv => whnf); refine QCl.mk hW (fun _ ee => Cl.mk (sameExpr_l _ (.mk kd1 o1 n1 nm1 cb1 A1 c1 l1) (.mk kd2 o2 n2 nm2 cb2 A2 c2 l2) _ (Nat.le_refl _) (hou.1.ext ee) (hov.1.ext ee)) (fun _ _ h => h)) ?_))
    · rename_i hkk
      (intro _ eT; replace H := H.ext eT; clear hW eT)
      repeat' ((conv => whnf); first | refine ztS ?_ | (refine ztB ?_ ?_ <;> intro _ <;> try (exfalso; omega)) | (refine ztA ?_; clear H; intro _ _ H _) | fail)
      refine ⟨b_eq ?_, H.e⟩
      rw [hs]
      simp [SM.e, sameT, hkk]
    · rename_i hkk haa
      rw [bs_eq] at haa
      have haa := of_decide_eq_true haa
      have hT : sameT (SM.e (.mk k1 a1 (.mk kd1 o1 n1 nm1 cb1 A1 c1 l1) B1 cB1 b1 E1 cE1 f1)) (SM.e (.mk k2 a2 (.mk kd2 o2 n2 nm2 cb2 A2 c2 l2) B2 cB2 b2 E2 cE2 f2)) = (sameE (ET.e (.mk kd1 o1 n1 nm1 cb1 A1 c1 l1)) (ET.e (.mk kd2 o2 n2 nm2 cb2 A2 c2 l2)) && sameU (SM.es b1) (SM.es b2) && sameU (SM.es f1) (SM.es f2)) := by
        simp [SM.e, sameT, hkk, haa]
      rw [hT] at hs
      (intro _ eT; replace H := H.ext eT; clear hW eT)
      cases hse : sameE (ET.e (.mk kd1 o1 n1 nm1 cb1 A1 c1 l1)) (ET.e (.mk kd2 o2 n2 nm2 cb2 A2 c2 l2)) with
      | false =>
        rw [hse] at hs
        repeat' ((conv => whnf); first | refine ztS ?_ | (refine ztB ?_ ?_ <;> intro _ <;> try (exfalso; omega)) | (refine ztA ?_; clear H; intro _ _ H _) | fail)
        exact ⟨b_eq (by rw [hs]; simp), H.e⟩
      | true =>
        rw [hse, Bool.true_and] at hs
        repeat' ((conv => whnf); first | refine ztS ?_ | (refine ztB ?_ ?_ <;> intro _ <;> try (exfalso; omega)) | (refine ztA ?_; clear H; intro _ _ H _) | fail)
        have hr1 := RdS.from H.e hrl
        have hr2 := RdS.from H.e hrm
        have hou := SM.los_mem (List.mem_of_getElem? hu) (hol.ext H.e)
        have hov := SM.los_mem (List.mem_of_getElem? hv) (hom.ext H.e)
        obtain ⟨_, q1, p1, q2, p2, g1, g2⟩ := hou
        obtain ⟨_, q3, p3, q4, p4, g3, g4⟩ := hov
        simp only [SM.sz] at hzn
        ((conv => whnf); refine Dr.quiet T.ok mixed (by kernel_rfl) (fun W hW => ?_))
        cases hb : sameU (SM.es b1) (SM.es b2) with
        | false =>
          rw [hb] at hs
          repeat' (first | ((conv => whnf); first | refine ztQ ?_ | (refine ztB ?_ ?_ <;> intro _ <;> try (exfalso; omega)) | fail) | (((conv => whnf); refine QCl.mk hW (fun _ ee => Cl.mk (sameStmts_c n b1 b2 B1 B2 cB1 cB2 _ (by omega) (RdS.from ee q1) (p1.ext ee) (RdS.from ee q3) (p3.ext ee) g1) (fun _ _ h => h)) ?_); rw [hb]))
          (intro _ eT; replace H := H.ext eT; clear hW eT)
          repeat' ((conv => whnf); first | refine ztS ?_ | (refine ztB ?_ ?_ <;> intro _ <;> try (exfalso; omega)) | (refine ztA ?_; clear H; intro _ _ H _) | fail)
          exact ⟨b_eq (by rw [hs]; simp), H.e⟩
        | true =>
          rw [hb, Bool.true_and] at hs
          repeat' (first | ((conv => whnf); first | refine ztQ ?_ | (refine ztB ?_ ?_ <;> intro _ <;> try (exfalso; omega)) | fail) | (((conv => whnf); refine QCl.mk hW (fun _ ee => Cl.mk (sameStmts_c n b1 b2 B1 B2 cB1 cB2 _ (by omega) (RdS.from ee q1) (p1.ext ee) (RdS.from ee q3) (p3.ext ee) g1) (fun _ _ h => h)) ?_); rw [hb]) | ((conv => whnf); refine QCl.mk hW (fun _ ee => Cl.mk (sameStmts_c n f1 f2 E1 E2 cE1 cE2 _ (by omega) (RdS.from ee q2) (p2.ext ee) (RdS.from ee q4) (p4.ext ee) g2) (fun _ _ h => h)) ?_))
          (intro _ eT; replace H := H.ext eT; clear hW eT)
          repeat' ((conv => whnf); first | refine ztS ?_ | (refine ztB ?_ ?_ <;> intro _ <;> try (exfalso; omega)) | (refine ztA ?_; clear H; intro _ _ H _) | fail)
          · rename_i hf
            rw [hf, Bool.true_and] at hs
            repeat' ((conv => whnf); first | refine ztS ?_ | (refine ztB ?_ ?_ <;> intro _ <;> try (exfalso; omega)) | (refine ztA ?_; clear H; intro _ _ H _) | fail)
            exact ⟨i + 1, ⟨at_int (m := ((i + 1 : Nat) : Int)) rfl (w64 (by simp) (by omega) (by omega)), rfl, rfl, trivial⟩, rfl, ⟨by omega, hs, H⟩, by omega⟩
          · rename_i hf
            rw [hf, Bool.false_and] at hs
            repeat' ((conv => whnf); first | refine ztS ?_ | (refine ztB ?_ ?_ <;> intro _ <;> try (exfalso; omega)) | (refine ztA ?_; clear H; intro _ _ H _) | fail)
            exact ⟨b_eq hs.symm, H.e⟩
    · rename_i hkk haa
      rw [bs_eq] at haa
      have haa := of_decide_eq_false haa
      (intro _ eT; replace H := H.ext eT; clear hW eT)
      repeat' ((conv => whnf); first | refine ztS ?_ | (refine ztB ?_ ?_ <;> intro _ <;> try (exfalso; omega)) | (refine ztA ?_; clear H; intro _ _ H _) | fail)
      refine ⟨b_eq ?_, H.e⟩
      rw [hs]
      simp [SM.e, sameT, haa]
def sameF (f g : Fnc) : Bool := f.name == g.name && f.params == g.params && sameU f.body g.body
def sameP : List Fnc → List Fnc → Bool
  | [], [] => true
  | x :: r, y :: s => sameF x y && sameP r s
  | [], _ :: _ => false
  | _ :: _, [] => false
theorem sameP_len : ∀ {l m : List Fnc}, sameP l m = true → l.length = m.length
  | [], [], _ => rfl
  | x :: r, y :: s, h => by
    simp only [sameP, Bool.and_eq_true] at h
    simp [sameP_len h.2]
  | [], _ :: _, h => by simp [sameP] at h
  | _ :: _, [], h => by simp [sameP] at h
theorem sameP_ne {l m : List Fnc} (h : l.length ≠ m.length) : sameP l m = false := by
  cases hx : sameP l m with
  | false => rfl
  | true => exact absurd (sameP_len hx) h
theorem FM.Oks.ext {w w' : World} {l : List FM} (h : FM.Oks w l) (e : Ext w w') : FM.Oks w' l := FM.Oks.loc e.size h fun b hb => by
  have e2 := e
  unfold Ext at e2
  exact Go.RowKit.Below.block e2 b (FM.Oks.lt h b hb)
set_option maxHeartbeats 8000000 in
theorem same_l (l m : List FM) (A B : Option Addr) (ca cb : Nat) (w : World) (hrl : RdS FM.enc 3 w A l) (hol : ∀ f ∈ l, FM.Lo w f) (hrm : RdS FM.enc 3 w B m) (hom : ∀ f ∈ m, FM.Lo w f) (hlb : l.length ≤ 9000000) :
    Cl Tryz.prog 13 #[.agg #[.slice A l.length ca], .agg #[.slice B m.length cb]] w (fun v w' => v = .bool (sameP (l.map FM.e) (m.map FM.e)) ∧ Ext w w') (fun _ _ => False) := by
  refine calls_ex (args := [.agg #[.slice A l.length ca], .agg #[.slice B m.length cb]]) T.ok Tryz.func13 rfl rfl rfl rfl ?_
  have H := Hp.begin nw w
  refine Sq.mk ?_
  ((conv => whnf); refine Al.hp H ?_; clear H; intro p2 _ H _)
  ((conv => whnf); refine Al.hp H ?_; clear H; intro p3 _ H _)
  by_cases hlen : l.length = m.length
  case neg =>
    repeat' ((conv => whnf); first | refine ztS ?_ | (refine ztB ?_ ?_ <;> intro _ <;> try (exfalso; omega)) | (refine ztA ?_; clear H; intro _ _ H _) | fail)
    all_goals first | (exfalso; omega) | skip
    exact ⟨b_eq (sameP_ne (by rw [List.length_map, List.length_map]; exact hlen)).symm, H.e⟩
  repeat' ((conv => whnf); first | refine ztS ?_ | (refine ztB ?_ ?_ <;> intro _ <;> try (exfalso; omega)) | (refine ztA ?_; clear H; intro _ _ H _) | fail)
  all_goals first | (exfalso; omega) | skip
  refine Lp.g0 T.ok (σ := Nat) (fun i => [(5, .int .i64 (i : Int)), (2, .pointer (some ⟨p2, 0, none⟩)), (3, .pointer (some ⟨p3, 0, none⟩))])
    (fun i w' => i ≤ l.length ∧ sameP (l.map FM.e) (m.map FM.e) = sameP ((l.map FM.e).drop i) ((m.map FM.e).drop i) ∧ Hp nw w w' [bk p3 24 [.slice B m.length cb], bk p2 24 [.slice A l.length ca]]) (fun i _ => l.length - i) 0 rfl ⟨rfl, rfl, rfl, trivial⟩ ⟨Nat.zero_le _, rfl, H⟩ ?_
  clear H
  rintro i w5 ⟨hi, hs, H⟩
  by_cases hlt : i < l.length
  case neg =>
    have h1 : (l.map FM.e).drop i = [] := List.drop_of_length_le (by rw [List.length_map]; omega)
    have h2 : (m.map FM.e).drop i = [] := List.drop_of_length_le (by rw [List.length_map]; omega)
    rw [h1, h2] at hs
    repeat' ((conv => whnf); first | refine ztS ?_ | (refine ztB ?_ ?_ <;> intro _ <;> try (exfalso; omega)) | (refine ztA ?_; clear H; intro _ _ H _) | fail)
    all_goals first | (exfalso; omega) | skip
    exact ⟨b_eq hs.symm, H.e⟩
  obtain ⟨u, hu⟩ : ∃ u, l[i]? = some u := ⟨_, List.getElem?_eq_getElem hlt⟩
  obtain ⟨v, hv⟩ : ∃ v, m[i]? = some v := ⟨_, List.getElem?_eq_getElem (show i < m.length by omega)⟩
  have hlt2 : i < m.length := by omega
  have hd1 : (l.map FM.e).drop i = FM.e u :: (l.map FM.e).drop (i + 1) := by
    obtain ⟨g1, g2⟩ := List.getElem?_eq_some_iff.1 hu
    rw [← List.map_drop, List.drop_eq_getElem_cons g1, g2, List.map_cons, List.map_drop]
  have hd2 : (m.map FM.e).drop i = FM.e v :: (m.map FM.e).drop (i + 1) := by
    obtain ⟨g1, g2⟩ := List.getElem?_eq_some_iff.1 hv
    rw [← List.map_drop, List.drop_eq_getElem_cons g1, g2, List.map_cons, List.map_drop]
  rw [hd1, hd2, sameP] at hs
  have hou := hol _ (List.mem_of_getElem? hu)
  have hov := hom _ (List.mem_of_getElem? hv)
  have hr1 := RdS.from H.e hrl
  have hr2 := RdS.from H.e hrm
  obtain ⟨a1, P1, c1, ps1, B1, cB1, b1⟩ := u
  obtain ⟨a2, P2, c2, ps2, B2, cB2, b2⟩ := v
  obtain ⟨q1, q2, o1, g1, g2⟩ := hou
  obtain ⟨q3, q4, o2, g3, g4⟩ := hov
  simp only at q1 q2 q3 q4 o1 o2 g1 g2 g3 g4
  repeat' ((conv => whnf); first | refine ztS ?_ | (refine ztB ?_ ?_ <;> intro _ <;> try (exfalso; omega)) | (refine ztW ?_; clear H; intro _ _ H _) | fail)
  all_goals first | (exfalso; omega) | skip
  ((conv => whnf); refine Al.hp H ?_; clear H; intro p6 _ H _)
  repeat' ((conv => whnf); first | refine ztS ?_ | (refine ztB ?_ ?_ <;> intro _ <;> try (exfalso; omega)) | (refine ztW ?_; clear H; intro _ _ H _) | fail)
  ((conv => whnf); refine Al.hp H ?_; clear H; intro p7 _ H _)
  repeat' ((conv => whnf); first | refine ztS ?_ | (refine ztB ?_ ?_ <;> intro _ <;> try (exfalso; omega)) | (refine ztW ?_; clear H; intro _ _ H _) | fail)
  · rename_i hnn hll
    rw [bs_eq] at hnn
    have hll : ¬ ps1.length = ps2.length := fun h => hll (by show (ps1.length : Int) = (ps2.length : Int); rw [h])
    repeat' ((conv => whnf); first | refine ztS ?_ | (refine ztB ?_ ?_ <;> intro _ <;> try (exfalso; omega)) | (refine ztW ?_; clear H; intro _ _ H _) | fail)
    refine ⟨b_eq ?_, H.e⟩
    rw [hs]
    have : ¬ ps1 = ps2 := fun h => hll (by rw [h])
    simp [FM.e, sameF, this]
  · rename_i hnn hll
    rw [bs_eq] at hnn
    have hnn : a1 = a2 := of_decide_eq_true hnn
    have hll : ps1.length = ps2.length := Int.ofNat.inj hll
    subst hnn
    have hfix : ∀ w', Hp nw w w' [bk p7 34 [.string (bs a1), .slice P2 ps2.length c2, .slice B2 b2.length cB2], bk p6 34 [.string (bs a1), .slice P1 ps1.length c1, .slice B1 b1.length cB1], bk p3 24 [.slice B m.length cb], bk p2 24 [.slice A l.length ca]] → Hp nw w w' [bk p7 34 [.string (bs a1), .slice P2 ps2.length c2, .slice B2 b2.length cB2], bk p6 34 [.string (bs a1), .slice P1 ps1.length c1, .slice B1 b1.length cB1], bk p3 24 [.slice B m.length cb], bk p2 24 [.slice A l.length ca]] := fun _ h => h
    replace H := hfix _ H
    clear hfix hr1 hr2
    repeat' ((conv => whnf); first | refine ztS ?_ | (refine ztB ?_ ?_ <;> intro _ <;> try (exfalso; omega)) | (refine ztW ?_; clear H; intro _ _ H _) | fail)
    refine Lp.g0 T.ok (σ := Nat) (fun j => [(8, .int .i64 (j : Int)), (5, .int .i64 (i : Int)), (6, .pointer (some ⟨p6, 0, none⟩)), (7, .pointer (some ⟨p7, 0, none⟩)), (2, .pointer (some ⟨p2, 0, none⟩)), (3, .pointer (some ⟨p3, 0, none⟩))])
      (fun j w' => j ≤ ps1.length ∧ ps1.take j = ps2.take j ∧ Hp nw w w' [bk p7 34 [.string (bs a1), .slice P2 ps2.length c2, .slice B2 b2.length cB2], bk p6 34 [.string (bs a1), .slice P1 ps1.length c1, .slice B1 b1.length cB1], bk p3 24 [.slice B m.length cb], bk p2 24 [.slice A l.length ca]]) (fun j _ => ps1.length - j) 0 rfl ⟨rfl, rfl, rfl, rfl, rfl, rfl, trivial⟩ ⟨Nat.zero_le _, rfl, H⟩ ?_
    clear H
    rintro j w7 ⟨hj, ht, H⟩
    by_cases hjl : j < ps1.length
    · obtain ⟨x, hx⟩ : ∃ x, ps1[j]? = some x := ⟨_, List.getElem?_eq_getElem hjl⟩
      obtain ⟨y, hy⟩ : ∃ y, ps2[j]? = some y := ⟨_, List.getElem?_eq_getElem (show j < ps2.length by omega)⟩
      have hjl2 : j < ps2.length := by omega
      have hq1 := RdS.from H.e q1
      have hq2 := RdS.from H.e q3
      obtain ⟨gx1, gx2⟩ := List.getElem?_eq_some_iff.1 hx
      obtain ⟨gy1, gy2⟩ := List.getElem?_eq_some_iff.1 hy
      repeat' ((conv => whnf); first | refine ztS ?_ | (refine ztB ?_ ?_ <;> intro _ <;> try (exfalso; omega)) | (refine ztW ?_; clear H; intro _ _ H _) | fail)
      ((conv => whnf); refine Dr.quiet T.ok mixed (by kernel_rfl) (fun W hW => ?_))
      repeat' ((conv => whnf); first | refine ztQ ?_ | (refine ztB ?_ ?_ <;> intro _ <;> try (exfalso; omega)) | fail)
      (intro _ eT; replace H := H.ext eT; clear hW eT)
      repeat' ((conv => whnf); first | refine ztS ?_ | (refine ztB ?_ ?_ <;> intro _ <;> try (exfalso; omega)) | (refine ztW ?_; clear H; intro _ _ H _) | fail)
      all_goals first | (exfalso; omega) | skip
      · rename_i hb
        rw [bs_eq] at hb
        have hb := of_decide_eq_true hb
        refine ⟨j + 1, ⟨at_int (m := ((j + 1 : Nat) : Int)) rfl (w64 (by simp) (by omega) (by omega)), rfl, rfl, rfl, rfl, rfl, trivial⟩, rfl, ⟨by omega, ?_, H⟩, by omega⟩
        rw [List.take_succ_eq_append_getElem gx1, List.take_succ_eq_append_getElem gy1, gx2, gy2, ht, hb]
      · rename_i hb
        rw [bs_eq] at hb
        have hb := of_decide_eq_false hb
        refine ⟨b_eq ?_, H.e⟩
        rw [hs]
        have : ¬ ps1 = ps2 := fun h => by
          subst h
          rw [hx] at hy
          exact hb (Option.some.inj hy)
        simp [FM.e, sameF, this]
    · have hpp : ps1 = ps2 := by
        have h1 : ps1.take j = ps1 := List.take_of_length_le (by omega)
        have h2 : ps2.take j = ps2 := List.take_of_length_le (by omega)
        rw [← h1, ht, h2]
      subst hpp
      repeat' ((conv => whnf); first | refine ztS ?_ | (refine ztB ?_ ?_ <;> intro _ <;> try (exfalso; omega)) | (refine ztW ?_; clear H; intro _ _ H _) | fail)
      all_goals first | (exfalso; omega) | skip
      have hT : sameF (FM.e ⟨a1, P1, c1, ps1, B1, cB1, b1⟩) (FM.e ⟨a1, P2, c2, ps1, B2, cB2, b2⟩) = sameU (SM.es b1) (SM.es b2) := by simp [FM.e, sameF]
      rw [hT] at hs
      (((conv => whnf); refine Cl.mk (sameStmts_c _ b1 b2 B1 B2 cB1 cB2 _ (Nat.lt_succ_self _) (RdS.from H.e q2) (o1.ext H.e) (RdS.from H.e q4) (o2.ext H.e) g2) ?_); rintro _ _ ⟨rfl, hx⟩; replace H := H.ext hx; clear hx)
      cases hb : sameU (SM.es b1) (SM.es b2) with
      | true =>
        rw [hb, Bool.true_and] at hs
        repeat' ((conv => whnf); first | refine ztS ?_ | (refine ztB ?_ ?_ <;> intro _ <;> try (exfalso; omega)) | (refine ztW ?_; clear H; intro _ _ H _) | fail)
        exact ⟨i + 1, ⟨at_int (m := ((i + 1 : Nat) : Int)) rfl (w64 (by simp) (by omega) (by omega)), rfl, rfl, trivial⟩, rfl, ⟨by omega, hs, H.sel [2, 2] rfl⟩, by omega⟩
      | false =>
        rw [hb, Bool.false_and] at hs
        repeat' ((conv => whnf); first | refine ztS ?_ | (refine ztB ?_ ?_ <;> intro _ <;> try (exfalso; omega)) | (refine ztW ?_; clear H; intro _ _ H _) | fail)
        exact ⟨b_eq hs.symm, H.e⟩
  · rename_i hnn
    rw [bs_eq] at hnn
    have hnn : ¬ a1 = a2 := of_decide_eq_false hnn
    repeat' ((conv => whnf); first | refine ztS ?_ | (refine ztB ?_ ?_ <;> intro _ <;> try (exfalso; omega)) | (refine ztW ?_; clear H; intro _ _ H _) | fail)
    refine ⟨b_eq ?_, H.e⟩
    rw [hs]
    simp [FM.e, sameF, hnn]
theorem FM.Ok.lo {w : World} {f : FM} (h : FM.Ok w f) : FM.Lo w f := ⟨h.1.rd, h.2.1.rd, SM.Oks.los h.2.2.1, Nat.le_trans h.2.2.2.1 (by decide), Nat.le_trans h.2.2.2.2 (by decide)⟩
end Go.Proofs.YtfnjodpehomgfaaGreatDoor
namespace Go.Proofs.YtfnjodpehomgfaaGreatDoor
open Go Go.Sh Go.Tx
attribute [local irreducible] Blk Ext RdS
mutual
theorem sameE_refl : ∀ x : Ex, sameE x x = true
  | .mk _ _ _ _ _ l => by simp [sameE, sameL_refl l]
theorem sameL_refl : ∀ l : List Ex, sameL l l = true
  | [] => rfl
  | x :: r => by simp [sameL, sameE_refl x, sameL_refl r]
end
mutual
theorem sameT_refl : ∀ x : Go.Tx.St, sameT x x = true
  | .mk _ _ e b f => by simp [sameT, sameE_refl e, sameU_refl b, sameU_refl f]
theorem sameU_refl : ∀ l : List Go.Tx.St, sameU l l = true
  | [] => rfl
  | x :: r => by simp [sameU, sameT_refl x, sameU_refl r]
end
theorem sameP_refl : ∀ l : List Fnc, sameP l l = true
  | [] => rfl
  | x :: r => by simp [sameP, sameF, sameU_refl x.body, sameP_refl r]
end Go.Proofs.YtfnjodpehomgfaaGreatDoor
namespace Go.Sh
section
variable {S : Nat → Prop} {w0 w : World} {Γ : List Ck} {c : Ck}
abbrev ch (S : Nat → Prop) (P : World → Prop) : Ck := ⟨S, P, true, false⟩
theorem Hp.cj {S1 S2 : Nat → Prop} {P1 P2 : World → Prop} (H : Hp S w0 w (ch S1 P1 :: ch S2 P2 :: Γ)) : Hp S w0 w (ch (fun k => S1 k ∨ S2 k) (fun w => P1 w ∧ P2 w) :: Γ) :=
  Hp.join2 H rfl rfl (.inl rfl) (fun k hk => hk) (fun hd h1 h2 => ⟨⟨h1.holds, h2.holds⟩, fun k hk => hk.elim (h1.lt k) (h2.lt k), fun w' hs hb => ⟨h1.loc w' hs fun k hk => hb k (.inl hk), h2.loc w' hs fun k hk => hb k (.inr hk)⟩⟩)
theorem Hp.cm {P' : World → Prop} (H : Hp S w0 w (c :: Γ)) (h : ∀ w, c.P w → P' w) (hc : c.own = true := by rfl) : Hp S w0 w (ch c.fp P' :: Γ) :=
  Hp.less H hc (fun k hk => hk) (fun ok => ⟨h _ ok.holds, ok.lt, fun w' hs hb => h _ (ok.loc w' hs hb)⟩)
theorem Hp.c0 (H : Hp S w0 w Γ) : Hp S w0 w (ch (fun _ => False) (fun _ => True) :: Γ) :=
  H.fr0 (Hp.one (Tch.refl _ _) ⟨trivial, fun k hk => hk.elim, fun _ _ _ => trivial⟩ (fun k hk => hk.elim)) (.inl rfl)
end
end Go.Sh
namespace Go.Proofs.YtfnjodpehomgfaaGreatDoor
open Go Go.Sh Go.Tx
attribute [local irreducible] Blk Ext RdS
def spareE : ET := .mk 99 0 0 [115, 112, 97, 114, 101] [] none 0 []
def emptyE : ET := .mk 0 0 0 [] [] none 0 []
mutual
def ET.Mk (w : World) : ET → Prop
  | .mk _ _ n nm cb A c ks => (ks ≠ [] → RdS ET.enc 6 w A (ks ++ [spareE]) ∧ ks.length < c) ∧ ET.Mks w ks ∧ ks.length ≤ 9000000 ∧ nm.length ≤ 9000000 ∧ cb.length ≤ 9000000 ∧ -9223372036854775808 ≤ n ∧ n ≤ 9223372036854775807
def ET.Mks (w : World) : List ET → Prop
  | [] => True
  | x :: r => ET.Mk w x ∧ ET.Mks w r
end
theorem ET.mks_app (w : World) : ∀ l m : List ET, ET.Mks w (l ++ m) ↔ ET.Mks w l ∧ ET.Mks w m
  | [], m => by simp [ET.Mks]
  | x :: r, m => by simp [ET.Mks, ET.mks_app w r m, and_assoc]
theorem rds_front {α : Type} {enc : α → List Value} {sz : Nat} {w : World} {A : Option Addr} {l m : List α} (h : RdS enc sz w A (l ++ m)) : RdS enc sz w A l := by
  have := RdS.take (k := l.length) h
  rwa [List.take_left] at this
mutual
theorem ET.Mk.rd {w : World} : ∀ {t : ET}, ET.Mk w t → ET.Rd w t
  | .mk _ _ _ _ _ _ _ ks, h => ⟨by
      by_cases hk : ks = []
      · subst hk; exact RdS.nil
      · exact rds_front (h.1 hk).1, ET.Mks.rd h.2.1, h.2.2⟩
theorem ET.Mks.rd {w : World} : ∀ {l : List ET}, ET.Mks w l → ET.Rds w l
  | [], _ => trivial
  | _ :: _, h => ⟨ET.Mk.rd h.1, ET.Mks.rd h.2⟩
end
theorem ET.es_takeD {l : List ET} {i : Nat} {x : ET} (h : l[i]? = some x) : ET.es (l.take (i + 1)) = ET.es (l.take i) ++ [x.e] := by
  obtain ⟨h1, h2⟩ := List.getElem?_eq_some_iff.1 h
  rw [List.take_succ_eq_append_getElem h1, h2, ET.es_app]; rfl
theorem set_rep {α : Type} {l : List α} {x z : α} {k i : Nat} (h : l.length = i) : (l ++ List.replicate (k + 1) z).set i x = l ++ [x] ++ List.replicate k z := by
  subst h
  rw [List.set_append_right _ _ (Nat.le_refl _), Nat.sub_self, List.replicate_succ, List.set_cons_zero, List.append_assoc]; rfl
set_option maxHeartbeats 4000000 in
theorem twin_c : ∀ (N : Nat) (t : ET) (w : World), ET.ht t ≤ N → ET.Rd w t →
    Cl Tryz.prog 67 #[t.v] w (fun v w' => ∃ (t' : ET) (S : Nat → Prop), v = t'.v ∧ t'.e = t.e ∧ Hp nw w w' [ch S (fun w => ET.Mk w t')]) (fun _ _ => False)
  | 0, t, w, hN, _ => by cases t; simp [ET.ht] at hN
  | N + 1, .mk kd o n nm cb A c ks, w, hN, hR => by
    obtain ⟨hr, hrs, hlen, hnm, hcb, hn0, hn1⟩ := hR
    refine calls_ex (args := [.agg #[.int .i64 kd, .int .i64 o, .int .i64 n, .string (bs nm), .string (bs cb), .slice A ks.length c]]) T.ok Tryz.func67 rfl rfl rfl rfl ?_
    have H := Hp.begin nw w
    refine Sq.mk ?_
    ((conv => whnf); refine Al.hp H ?_; clear H; intro p1 _ H _)
    ((conv => whnf); refine Al.hp H ?_; clear H; intro p2 _ H _)
    by_cases hk0 : ks = []
    · subst hk0
      repeat' ((conv => whnf); first | refine ztS ?_ | (refine ztB ?_ ?_ <;> intro _ <;> try (exfalso; omega)) | (refine ztA ?_; clear H; intro _ _ H _) | fail)
      all_goals first | (exfalso; omega) | skip
      refine ⟨.mk kd o n nm cb A c [], fun _ => False, rfl, rfl, ?_⟩
      exact (Hp.cm (Hp.c0 H) (fun w _ => ⟨fun h => absurd rfl h, trivial, hlen, hnm, hcb, hn0, hn1⟩)).sel [0] rfl
    have hpos := List.length_pos_iff.2 hk0
    have hn1' : IntKind.i64.wrap ((ks.length : Int) + 1) = ((ks.length + 1 : Nat) : Int) := w64 rfl (by omega) (by omega)
    repeat' ((conv => whnf); first | refine ztS ?_ | (refine ztB ?_ ?_ <;> intro _ <;> try (exfalso; omega)) | (refine ztW ?_; clear H; intro _ _ H _) | fail)
    all_goals first | (exfalso; omega) | skip
    refine Sm.makeh (z := emptyE) (enc := ET.enc) (n := ks.length + 1) H T.ok ?_ ?_ (fun p3 w3 H hp3 => ?_) rfl rfl rfl hn1' hn1'
    · show 80 * (ks.length + 1) ≤ _; omega
    · omega
    replace H := Hp.bq H (fun x hx => ET.enc_len x)
    rw [List.length_replicate] at H
    repeat' ((conv => whnf); first | refine ztS ?_ | (refine ztB ?_ ?_ <;> intro _ <;> try (exfalso; omega)) | (refine ztW ?_; clear H; intro _ _ H _) | fail)
    refine Lp.g0 T.ok (σ := Nat × List ET × (Nat → Prop)) (fun s => [(5, .int .i64 (s.1 : Int)), (4, .slice (some ⟨p3, 0, none⟩) (ks.length + 1) (ks.length + 1)), (3, .int .i64 (ks.length : Int)), (2, .pointer (some ⟨p2, 0, none⟩)), (1, .pointer (some ⟨p1, 0, none⟩))])
      (fun s w' => s.1 ≤ ks.length ∧ s.2.1.length = s.1 ∧ ET.es s.2.1 = ET.es (ks.take s.1) ∧ Hp nw w w' [qu ET.enc 6 74 (some ⟨p3, 0, none⟩) (ks.length + 1) (s.2.1 ++ List.replicate (ks.length - s.1 + 1) emptyE), ch s.2.2 (fun w => ET.Mks w s.2.1), bk p2 74 emptyE.enc, bk p1 74 [.int .i64 kd, .int .i64 o, .int .i64 n, .string (bs nm), .string (bs cb), .slice A ks.length c]])
      (fun s _ => ks.length - s.1) (0, [], fun _ => False) rfl ⟨rfl, rfl, rfl, rfl, rfl, trivial⟩ ⟨Nat.zero_le _, rfl, rfl, ?_⟩ ?_
    · exact (Hp.cm (Hp.c0 H) (P' := fun w => ET.Mks w []) (fun w _ => trivial)).sel [1, 0, 0, 0] rfl
    clear H
    rintro ⟨i, l, S⟩ w5 ⟨hi, hl, hes, H⟩
    dsimp only at hi hl hes H ⊢
    by_cases hlt : i < ks.length
    · obtain ⟨x, hx⟩ : ∃ x, ks[i]? = some x := ⟨_, List.getElem?_eq_getElem hlt⟩
      have hxm := List.mem_of_getElem? hx
      have hxr := ET.rds_mem hxm hrs
      have hxh := ET.ht_mem hxm
      have hti := ET.es_takeD hx
      simp only [ET.ht] at hN
      have hr1 := RdS.from H.e hr
      obtain ⟨kx, ox, nx, mx, cx, Ax, cpx, lx⟩ := x
      repeat' ((conv => whnf); first | refine ztS ?_ | (refine ztB ?_ ?_ <;> intro _ <;> try (exfalso; omega)) | (refine ztW ?_; clear H; intro _ _ H _) | fail)
      all_goals first | (exfalso; omega) | skip
      ((conv => whnf); refine Cl.mk (twin_c N (.mk kx ox nx mx cx Ax cpx lx) _ (by omega) (hxr.ext H.e)) ?_)
      rintro _ w6 ⟨⟨ky, oy, ny, my, cy, Ay, cpy, ly⟩, S2, rfl, he, H'⟩
      replace H := H.fr0 H' (.inl rfl)
      clear H'
      have hlenl : (l ++ List.replicate (ks.length - i + 1) emptyE).length = ks.length + 1 := by simp only [List.length_append, List.length_replicate]; omega
      have hset := set_rep (z := emptyE) (x := ET.mk ky oy ny my cy Ay cpy ly) (k := ks.length - i) hl
      rw [← hlenl]
      repeat' ((conv => whnf); first | refine ztS ?_ | (refine ztB ?_ ?_ <;> intro _ <;> try (exfalso; omega)) | (refine ztW ?_; clear H; intro _ _ H _) | fail)
      refine St.elq (enc := ET.enc) (x := .mk ky oy ny my cy Ay cpy ly) H rfl (by rw [hlenl]; omega) rfl (fun w7 H => ?_)
      simp only [List.cons_append, List.nil_append] at H
      rw [hset] at H
      repeat' ((conv => whnf); first | refine ztS ?_ | (refine ztB ?_ ?_ <;> intro _ <;> try (exfalso; omega)) | (refine ztW ?_; clear H; intro _ _ H _) | fail)
      have H2 := Hp.cj (H.sel [0, 1, 0, 0, 0] rfl)
      have H3 := Hp.cm H2 (P' := fun w => ET.Mks w (l ++ [.mk ky oy ny my cy Ay cpy ly])) (fun w h => (ET.mks_app w l _).2 ⟨h.2, h.1, trivial⟩)
      rw [show ks.length - i = ks.length - (i + 1) + 1 by omega] at H3
      rw [hlenl]
      refine ⟨(i + 1, l ++ [.mk ky oy ny my cy Ay cpy ly], fun k => S2 k ∨ S k), ⟨at_int (m := ((i + 1 : Nat) : Int)) rfl (w64 (by simp) (by omega) (by omega)), rfl, rfl, rfl, rfl, trivial⟩, rfl, ⟨hlt, by simp [hl], ?_, H3.sel [1, 0, 0, 0] rfl⟩, (show ks.length - (i + 1) < ks.length - i by omega)⟩
      show ET.es (l ++ [_]) = ET.es (ks.take (i + 1))
      rw [ET.es_app, hes, hti, ← he]; rfl
    · obtain rfl : i = ks.length := by omega
      rw [List.take_of_length_le (Nat.le_refl _)] at hes
      have hlenl : (l ++ List.replicate (ks.length - ks.length + 1) emptyE).length = ks.length + 1 := by simp only [List.length_append, List.length_replicate]; omega
      have hset := set_rep (z := emptyE) (x := spareE) (k := ks.length - ks.length) hl
      have hrr := H.rdq 0 rfl
      rw [← hlenl]
      repeat' ((conv => whnf); first | refine ztS ?_ | (refine ztB ?_ ?_ <;> intro _ <;> try (exfalso; omega)) | (refine ztW ?_; clear H; intro _ _ H _) | fail)
      all_goals first | (exfalso; omega) | skip
      refine St.elq (enc := ET.enc) (x := spareE) H rfl (by rw [hlenl]; omega) rfl (fun w7 H => ?_)
      rw [hset] at H
      simp only [Nat.sub_self, List.replicate_zero, List.append_nil, List.nil_append] at H
      repeat' ((conv => whnf); first | refine ztS ?_ | (refine ztB ?_ ?_ <;> intro _ <;> try (exfalso; omega)) | (refine ztW ?_; clear H; intro _ _ H _) | fail)
      refine Sm.cutHi T.ok rfl rfl rfl rfl rfl (by rw [hlenl]; omega) ?_
      repeat' ((conv => whnf); first | refine ztS ?_ | (refine ztB ?_ ?_ <;> intro _ <;> try (exfalso; omega)) | (refine ztW ?_; clear H; intro _ _ H _) | fail)
      have H2 := Hp.cj (Hp.cm H (P' := fun w => RdS ET.enc 6 w (some ⟨p3, 0, none⟩) (l ++ [spareE])) (fun w h => Que.rd h))
      have H3 := (Hp.cm H2 (P' := fun w => ET.Mk w (.mk kd o n nm cb (some ⟨p3, 0, none⟩) (ks.length + 1) l)) (fun w h => ⟨fun _ => ⟨h.1, by omega⟩, h.2, by omega, hnm, hcb, hn0, hn1⟩)).sel [0] rfl
      refine ⟨.mk kd o n nm cb (some ⟨p3, 0, none⟩) (ks.length + 1) l, _, ?_, ?_, H3⟩
      · rw [hlenl]
        show Value.agg _ = Value.agg _
        rw [← hl]; rfl
      · simp only [ET.e, hes]
end Go.Proofs.YtfnjodpehomgfaaGreatDoor
namespace Go.Proofs.YtfnjodpehomgfaaGreatDoor
open Go Go.Sh Go.Tx
theorem Ld.rsG {α : Type} {enc : α → List Value} {sz i o n : Nat} {w : World} {A : Option Addr} {l : List α} {x : α} {k : List Value → Prop} (h : RdS enc sz w A l) (hx : l[i]? = some x) (hn : (((enc x).drop o).take n).length = n) (hk : k (((enc x).drop o).take n)) : Ld w (pAdd ((gA A).add (i * sz)) o) n k := by
  obtain ⟨vs, h1, h2, h3⟩ := Rd.at_ h i x hx
  unfold Fl at h2
  subst h2
  refine ⟨_, hn, fun j v hv => ?_, hk⟩
  have hj : j < n := by
    have := (List.getElem?_eq_some_iff.1 hv).1
    omega
  rw [List.getElem?_take_of_lt hj, List.getElem?_drop] at hv
  have := h3 (o + j) v hv
  rw [pAdd_add, add_add]
  rw [Nat.add_assoc]
  exact this
attribute [local irreducible] Blk Ext RdS
theorem SM.rds_app (w : World) : ∀ l m : List SM, SM.Rds w (l ++ m) ↔ SM.Rds w l ∧ SM.Rds w m
  | [], m => by simp [SM.Rds]
  | x :: r, m => by simp [SM.Rds, SM.rds_app w r m, and_assoc]
theorem SM.es_take {l : List SM} {i : Nat} {x : SM} (h : l[i]? = some x) : SM.es (l.take (i + 1)) = SM.es (l.take i) ++ [x.e] := by
  obtain ⟨h1, h2⟩ := List.getElem?_eq_some_iff.1 h
  rw [List.take_succ_eq_append_getElem h1, h2, SM.es_app]; rfl
def SCopy (B : Option Addr) (l : List SM) (w : World) : Prop := RdS SM.enc 10 w B l ∧ SM.Rds w l
set_option maxHeartbeats 8000000 in
theorem twins_c : ∀ (N : Nat) (B : Option Addr) (c : Nat) (l : List SM) (w : World), SM.hts l < N → RdS SM.enc 10 w B l → SM.Rds w l → l.length ≤ 9000000 →
    Cl Tryz.prog 49 #[.slice B l.length c] w (fun v w' => ∃ (B' : Option Addr) (c' : Nat) (l' : List SM) (S : Nat → Prop), v = .slice B' l'.length c' ∧ SM.es l' = SM.es l ∧ Hp nw w w' [ch S (SCopy B' l')]) (fun _ _ => False)
  | 0, _, _, _, _, hN, _, _, _ => by omega
  | N + 1, B, c, l, w, hN, hr, hrs, hlen => by
    refine calls_ex (args := [.slice B l.length c]) T.ok Tryz.func49 rfl rfl rfl rfl ?_
    have H := Hp.begin nw w
    repeat' ((conv => whnf); first | refine ztS ?_ | (refine ztB ?_ ?_ <;> intro _ <;> try (exfalso; omega)) | (refine ztA ?_; clear H; intro _ _ H _) | fail)
    refine Lp.g0 T.ok (σ := Nat × Option Addr × Nat × List SM × (Nat → Prop)) (fun s => [(4, .int .i64 (s.1 : Int)), (3, .slice s.2.1 s.2.2.2.1.length s.2.2.1), (0, .slice B l.length c)])
      (fun s w' => s.1 ≤ l.length ∧ s.2.2.2.1.length = s.1 ∧ SM.es s.2.2.2.1 = SM.es (l.take s.1) ∧ Hp nw w w' [qu SM.enc 10 76 s.2.1 s.2.2.1 s.2.2.2.1, ch s.2.2.2.2 (fun w => SM.Rds w s.2.2.2.1)])
      (fun s _ => l.length - s.1) (0, none, 0, [], fun _ => False) rfl ⟨rfl, rfl, rfl, trivial⟩ ⟨Nat.zero_le _, rfl, rfl, ?_⟩ ?_
    · exact Hp.nil (Hp.cm (Hp.c0 H) (P' := fun w => SM.Rds w []) (fun w _ => trivial)) SM.enc 10 76
    clear H
    rintro ⟨i, B1, c1, l1, S1⟩ w5 ⟨hi, hl, hes, H⟩
    dsimp only at hi hl hes H ⊢
    by_cases hlt : i < l.length
    · obtain ⟨x, hx⟩ : ∃ x, l[i]? = some x := ⟨_, List.getElem?_eq_getElem hlt⟩
      have hxm := List.mem_of_getElem? hx
      have hxr := SM.rds_mem hxm hrs
      have hxh := SM.ht_mem hxm
      have hti := SM.es_take hx
      have hr1 := RdS.from H.e hr
      obtain ⟨kd, nm, ⟨k1, o1, n1, a1, b1, A1, c2, l2⟩, Bb, cb, bd, E, ce, el⟩ := x
      simp only [SM.ht] at hxh
      obtain ⟨x1, x2, x3, x4, x5, x6, x7, x8⟩ := hxr
      repeat' ((conv => whnf); first | refine ztS ?_ | (refine ztB ?_ ?_ <;> intro _ <;> try (exfalso; omega)) | (refine ztW ?_; clear H; intro _ _ H _) | fail)
      all_goals first | (exfalso; omega) | skip
      ((conv => whnf); refine Al.hp H ?_; clear H; intro p5 _ H _)
      repeat' ((conv => whnf); first | refine ztS ?_ | (refine ztB ?_ ?_ <;> intro _ <;> try (exfalso; omega)) | (refine ztW ?_; clear H; intro _ _ H _) | fail)
      (conv => whnf)
      refine Ld.rsG (o := 2) (n := 6) (RdS.from H.e hr) hx rfl ?_
      ((conv => whnf); refine Cl.mk (twin_c _ (.mk k1 o1 n1 a1 b1 A1 c2 l2) _ (Nat.le_refl _) (x1.ext H.e)) ?_)
      rintro _ w6 ⟨⟨ky, oy, ny, my, cy, Ay, cpy, ly⟩, S2, rfl, he, H'⟩
      replace H := H.fr0 H' (.inl rfl)
      clear H' hr1
      have hr1 := RdS.from H.e hr
      repeat' ((conv => whnf); first | refine ztS ?_ | (refine ztB ?_ ?_ <;> intro _ <;> try (exfalso; omega)) | (refine ztW ?_; clear H; intro _ _ H _) | fail)
      ((conv => whnf); refine Cl.mk (twins_c N Bb cb bd _ (by omega) (RdS.from H.e x2) (SM.Rds.ext H.e x3) x6) ?_)
      rintro _ w7 ⟨B3, c3, l3, S3, rfl, he3, H'⟩
      replace H := H.fr0 H' (.inl rfl)
      clear H' hr1
      have hr1 := RdS.from H.e hr
      repeat' ((conv => whnf); first | refine ztS ?_ | (refine ztB ?_ ?_ <;> intro _ <;> try (exfalso; omega)) | (refine ztW ?_; clear H; intro _ _ H _) | fail)
      ((conv => whnf); refine Cl.mk (twins_c N E ce el _ (by omega) (RdS.from H.e x4) (SM.Rds.ext H.e x5) x7) ?_)
      rintro _ w8 ⟨B4, c4, l4, S4, rfl, he4, H'⟩
      replace H := H.fr0 H' (.inl rfl)
      clear H' hr1
      have h3l : l3.length = bd.length := by have := congrArg List.length he3; rwa [SM.es_len, SM.es_len] at this
      have h4l : l4.length = el.length := by have := congrArg List.length he4; rwa [SM.es_len, SM.es_len] at this
      repeat' ((conv => whnf); first | refine ztS ?_ | (refine ztB ?_ ?_ <;> intro _ <;> try (exfalso; omega)) | (refine ztW ?_; clear H; intro _ _ H _) | fail)
      refine Sm.lith (cs := SM.enc (.mk kd nm (.mk ky oy ny my cy Ay cpy ly) B3 c3 l3 B4 c4 l4)) H T.ok (fun p6 w9 H _ => ?_)
      refine Sm.ap1 (enc := SM.enc) (.mk kd nm (.mk ky oy ny my cy Ay cpy ly) B3 c3 l3 B4 c4 l4) H T.ok ?_ ?_ (fun A' c' w10 H => ?_)
      · show (l1.length + 1) * 152 ≤ _; omega
      · omega
      simp only [List.cons_append, List.nil_append] at H
      repeat' ((conv => whnf); first | refine ztS ?_ | (refine ztB ?_ ?_ <;> intro _ <;> try (exfalso; omega)) | (refine ztW ?_; clear H; intro _ _ H _) | fail)
      have H2 := Hp.cj (Hp.cj (Hp.cj (H.sel [0, 0, 0, 2, 1] rfl)))
      have H3 := Hp.swap (Hp.cm H2 (P' := fun w => SM.Rds w (l1 ++ [.mk kd nm (.mk ky oy ny my cy Ay cpy ly) B3 c3 l3 B4 c4 l4])) (fun w h => (SM.rds_app w l1 [.mk kd nm (.mk ky oy ny my cy Ay cpy ly) B3 c3 l3 B4 c4 l4]).2 ⟨h.2, ⟨ET.Mk.rd h.1.2, h.1.1.2.1, h.1.1.2.2, h.1.1.1.1, h.1.1.1.2, by omega, by omega, x8⟩, trivial⟩))
      refine ⟨(i + 1, A', c', l1 ++ [.mk kd nm (.mk ky oy ny my cy Ay cpy ly) B3 c3 l3 B4 c4 l4], fun k => ((S4 k ∨ S3 k) ∨ S2 k) ∨ S1 k), ⟨at_int (m := ((i + 1 : Nat) : Int)) rfl (w64 (by simp) (by omega) (by omega)), at_val rfl (by simp), rfl, trivial⟩, rfl, ⟨hlt, by simp [hl], ?_, H3⟩, (show l.length - (i + 1) < l.length - i by omega)⟩
      show SM.es (l1 ++ [_]) = SM.es (l.take (i + 1))
      rw [SM.es_app, hes, hti]
      simp only [SM.es, SM.e, he, he3, he4]
    · obtain rfl : i = l.length := by omega
      rw [List.take_of_length_le (Nat.le_refl _)] at hes
      repeat' ((conv => whnf); first | refine ztS ?_ | (refine ztB ?_ ?_ <;> intro _ <;> try (exfalso; omega)) | (refine ztW ?_; clear H; intro _ _ H _) | fail)
      all_goals first | (exfalso; omega) | skip
      have H2 := Hp.cj (Hp.cm H (P' := fun w => RdS SM.enc 10 w B1 l1) (fun w h => Que.rd h))
      exact ⟨B1, c1, l1, _, rfl, hes, Hp.cm H2 (P' := SCopy B1 l1) (fun w h => h)⟩
theorem FM.es_take {l : List FM} {i : Nat} {x : FM} (h : l[i]? = some x) : (l.take (i + 1)).map FM.e = (l.take i).map FM.e ++ [x.e] := by
  obtain ⟨h1, h2⟩ := List.getElem?_eq_some_iff.1 h
  rw [List.take_succ_eq_append_getElem h1, h2, List.map_append]; rfl
def FAll (l : List FM) (w : World) : Prop := ∀ f ∈ l, FM.Rd w f
set_option maxHeartbeats 8000000 in
theorem copied_c (m : List FM) (A : Option Addr) (c : Nat) (w : World) (hr : RdS FM.enc 3 w A m) (hrs : ∀ f ∈ m, FM.Rd w f) (hml : m.length ≤ 9000000) :
    Cl Tryz.prog 22 #[.agg #[.slice A m.length c]] w (fun v w' => ∃ (A' : Option Addr) (c' : Nat) (m' : List FM) (S : Nat → Prop), v = .agg #[.slice A' m'.length c'] ∧ m'.map FM.e = m.map FM.e ∧ Hp nw w w' [qu FM.enc 3 34 A' c' m', ch S (FAll m')]) (fun _ _ => False) := by
  refine calls_ex (args := [.agg #[.slice A m.length c]]) T.ok Tryz.func22 rfl rfl rfl rfl ?_
  have H := Hp.begin nw w
  refine Sq.mk ?_
  ((conv => whnf); refine Al.hp H ?_; clear H; intro p1 _ H _)
  ((conv => whnf); refine Al.hp H ?_; clear H; intro p2 _ H _)
  repeat' ((conv => whnf); first | refine ztS ?_ | (refine ztB ?_ ?_ <;> intro _ <;> try (exfalso; omega)) | (refine ztW ?_; clear H; intro _ _ H _) | fail)
  ((conv => whnf); refine Al.hp H ?_; clear H; intro p3 _ H _)
  repeat' ((conv => whnf); first | refine ztS ?_ | (refine ztB ?_ ?_ <;> intro _ <;> try (exfalso; omega)) | (refine ztW ?_; clear H; intro _ _ H _) | fail)
  refine Lp.g0 T.ok (σ := Nat × Option Addr × Nat × List FM × (Nat → Prop)) (fun s => [(4, .int .i64 (s.1 : Int)), (3, .pointer (some ⟨p3, 0, none⟩)), (2, .pointer (some ⟨p2, 0, none⟩)), (1, .pointer (some ⟨p1, 0, none⟩))])
    (fun s w' => s.1 ≤ m.length ∧ s.2.2.2.1.length = s.1 ∧ s.2.2.2.1.map FM.e = (m.take s.1).map FM.e ∧ Hp nw w w' [qu FM.enc 3 34 s.2.1 s.2.2.1 s.2.2.2.1, ch s.2.2.2.2 (FAll s.2.2.2.1), bk p3 24 [.slice s.2.1 s.2.2.2.1.length s.2.2.1], bk p2 24 [.slice none 0 0], bk p1 24 [.slice A m.length c]])
    (fun s _ => m.length - s.1) (0, none, 0, [], fun _ => False) rfl ⟨rfl, rfl, rfl, rfl, trivial⟩ ⟨Nat.zero_le _, rfl, rfl, ?_⟩ ?_
  · exact Hp.nil (Hp.cm (Hp.c0 H) (P' := FAll []) (fun w _ g hf => by cases hf)) FM.enc 3 34
  clear H
  rintro ⟨i, B1, c1, l1, S1⟩ w5 ⟨hi, hl, hes, H⟩
  dsimp only at hi hl hes H ⊢
  by_cases hlt : i < m.length
  · obtain ⟨f, hx⟩ : ∃ x, m[i]? = some x := ⟨_, List.getElem?_eq_getElem hlt⟩
    have hxm := List.mem_of_getElem? hx
    have hxr := hrs f hxm
    have hti := FM.es_take hx
    have hr1 := RdS.from H.e hr
    obtain ⟨x1, x2, x3, x4, x5, x6, x7, x8⟩ := hxr
    repeat' ((conv => whnf); first | refine ztS ?_ | (refine ztB ?_ ?_ <;> intro _ <;> try (exfalso; omega)) | (refine ztW ?_; clear H; intro _ _ H _) | fail)
    all_goals first | (exfalso; omega) | skip
    ((conv => whnf); refine Al.hp H ?_; clear H; intro p5 _ H _)
    repeat' ((conv => whnf); first | refine ztS ?_ | (refine ztB ?_ ?_ <;> intro _ <;> try (exfalso; omega)) | (refine ztW ?_; clear H; intro _ _ H _) | fail)
    clear hr1
    refine Lp.g0 T.ok (σ := Nat × Option Addr × Nat) (fun s => [(6, .int .i64 (s.1 : Int)), (5, .pointer (some ⟨p5, 0, none⟩)), (4, .int .i64 (i : Int)), (3, .pointer (some ⟨p3, 0, none⟩)), (2, .pointer (some ⟨p2, 0, none⟩)), (1, .pointer (some ⟨p1, 0, none⟩))])
      (fun s w' => s.1 ≤ f.params.length ∧ Hp nw w w' [qu strE 1 9 s.2.1 s.2.2 (f.params.take s.1), bk p5 34 [.string (bs f.name), .slice s.2.1 (f.params.take s.1).length s.2.2, .slice none 0 0], qu FM.enc 3 34 B1 c1 l1, ch S1 (FAll l1), bk p3 24 [.slice B1 l1.length c1], bk p2 24 [.slice none 0 0], bk p1 24 [.slice A m.length c]])
      (fun s _ => f.params.length - s.1) (0, none, 0) rfl ⟨rfl, rfl, rfl, rfl, rfl, rfl, trivial⟩ ⟨Nat.zero_le _, Hp.nil H strE 1 9⟩ ?_
    clear H
    rintro ⟨j, P1, cp1⟩ w6 ⟨hj, H⟩
    dsimp only at hj H ⊢
    have hr1 := RdS.from H.e hr
    by_cases hlt2 : j < f.params.length
    · obtain ⟨q, hq⟩ : ∃ x, f.params[j]? = some x := ⟨_, List.getElem?_eq_getElem hlt2⟩
      have hpt : f.params.take (j + 1) = f.params.take j ++ [q] := by
        obtain ⟨h1, h2⟩ := List.getElem?_eq_some_iff.1 hq
        rw [List.take_succ_eq_append_getElem h1, h2]
      have hpl : (f.params.take j).length = j := by rw [List.length_take]; omega
      repeat' ((conv => whnf); first | refine ztS ?_ | (refine ztB ?_ ?_ <;> intro _ <;> try (exfalso; omega)) | (refine ztW ?_; clear H; intro _ _ H _) | fail)
      all_goals first | (exfalso; omega) | skip
      (conv => whnf)
      refine Dr.ch T.ok mixed [0, 1, 2, 3, 4, 5, 6, 7, 8, 9, 10, 13] [11, 12, 14] (by kernel_rfl) rfl rfl (fun w' => Blk w' p5 34 [.string (bs f.name), .slice P1 (f.params.take j).length cp1, .slice none 0 0] ∧ Blk w' p1 24 [.slice A m.length c] ∧ RdS FM.enc 3 w' A m ∧ RdS strE 1 w' f.P f.params) (fun w1 eT _ => ?_)
      replace H := H.ext eT
      repeat' ((conv => whnf); first | refine ztS ?_ | refine QLd1.own (fun _ hw => hw.1) ?_ | refine QLd1.own (fun _ hw => hw.2.1) ?_ | refine QLd1.rswF (fun _ hw => hw.2.2.1) ?_ hx rfl | refine QLd1.rsw (fun _ hw => hw.2.2.2) ?_ hq rfl)
      (conv => whnf)
      refine ⟨⟨H.blk 1 rfl, H.blk 6 rfl, RdS.from H.e hr, RdS.from H.e x1⟩, ?_⟩
      refine Sm.lith (cs := strE q) H T.ok (fun p6 w2 H _ => ?_)
      (conv => whnf)
      refine ⟨⟨H.blk 2 rfl, H.blk 7 rfl, RdS.from H.e hr, RdS.from H.e x1⟩, ?_⟩
      refine Sm.ap1 (enc := strE) q H T.ok ?_ ?_ (fun A' c' w3 H => ?_)
      · show ((f.params.take j).length + 1) * 16 ≤ _; omega
      · omega
      simp only [List.cons_append, List.nil_append] at H
      (conv => whnf)
      refine ⟨⟨H.blk 1 rfl, H.blk 6 rfl, RdS.from H.e hr, RdS.from H.e x1⟩, ?_⟩
      repeat' ((conv => whnf); first | refine ztS ?_ | (refine ztB ?_ ?_ <;> intro _ <;> try (exfalso; omega)) | (refine ztW ?_; clear H; intro _ _ H _) | fail)
      refine ⟨(j + 1, A', c'), ⟨at_int (m := ((j + 1 : Nat) : Int)) rfl (w64 (by simp) (by omega) (by omega)), rfl, rfl, rfl, rfl, rfl, trivial⟩, rfl, ⟨hlt2, ?_⟩, (show f.params.length - (j + 1) < f.params.length - j by omega)⟩
      dsimp only
      rw [hpt, List.length_append]
      exact H
    · have hje : j = f.params.length := by omega
      subst hje
      rw [List.take_of_length_le (Nat.le_refl _)] at H
      repeat' ((conv => whnf); first | refine ztS ?_ | (refine ztB ?_ ?_ <;> intro _ <;> try (exfalso; omega)) | (refine ztW ?_; clear H; intro _ _ H _) | fail)
      all_goals first | (exfalso; omega) | skip
      ((conv => whnf); refine Cl.mk (twins_c _ f.B f.cb f.body _ (Nat.lt_succ_self _) (RdS.from H.e x2) (SM.Rds.ext H.e x3) x6) ?_)
      rintro _ w7 ⟨B3, c3, l3, S3, rfl, he3, H'⟩
      replace H := H.fr0 H' (.inl rfl)
      clear H'
      have h3l : l3.length = f.body.length := by have := congrArg List.length he3; rwa [SM.es_len, SM.es_len] at this
      repeat' ((conv => whnf); first | refine ztS ?_ | (refine ztB ?_ ?_ <;> intro _ <;> try (exfalso; omega)) | (refine ztW ?_; clear H; intro _ _ H _) | fail)
      refine Sm.lith (cs := FM.enc ⟨f.name, P1, cp1, f.params, B3, c3, l3⟩) H T.ok (fun p6 w9 H _ => ?_)
      refine Sm.ap1 (enc := FM.enc) ⟨f.name, P1, cp1, f.params, B3, c3, l3⟩ H T.ok ?_ ?_ (fun A' c' w10 H => ?_)
      · show (l1.length + 1) * 64 ≤ _; omega
      · omega
      simp only [List.cons_append, List.nil_append] at H
      have hq1 : f.params.length ≤ cp1 := (H.que (enc := strE) 1 rfl).le
      repeat' ((conv => whnf); first | refine ztS ?_ | (refine ztB ?_ ?_ <;> intro _ <;> try (exfalso; omega)) | (refine ztW ?_; clear H; intro _ _ H _) | fail)
      refine ⟨(i + 1, A', c', l1 ++ [⟨f.name, P1, cp1, f.params, B3, c3, l3⟩], fun k => (obk P1 = some k ∨ S3 k) ∨ S1 k), ⟨at_int (m := ((i + 1 : Nat) : Int)) rfl (w64 (by simp) (by omega) (by omega)), rfl, rfl, rfl, trivial⟩, rfl, ⟨hlt, by simp [hl], ?_, ?_⟩, (show m.length - (i + 1) < m.length - i by omega)⟩
      · show (l1 ++ [_]).map FM.e = (m.take (i + 1)).map FM.e
        rw [List.map_append, hes, hti]
        simp only [List.map_cons, List.map_nil, FM.e, he3]
      · have H2 := Hp.cj (Hp.cj (Hp.cm (H.sel [1, 0, 2, 1, 1, 1, 1] rfl) (P' := fun w => RdS strE 1 w P1 f.params) (fun w h => Que.rd h)))
        have H3 := Hp.cm H2 (P' := FAll (l1 ++ [⟨f.name, P1, cp1, f.params, B3, c3, l3⟩])) (fun w h g hf => by
          rcases List.mem_append.1 hf with hf | hf
          · exact h.2 g hf
          · rw [List.mem_singleton.1 hf]
            exact ⟨h.1.1, h.1.2.1, h.1.2.2, x4, hq1, (show l3.length ≤ 9000000 by omega), x7, x8⟩)
        dsimp only
        rw [List.length_append]
        exact Hp.swap H3
  · obtain rfl : i = m.length := by omega
    rw [List.take_of_length_le (Nat.le_refl _)] at hes
    repeat' ((conv => whnf); first | refine ztS ?_ | (refine ztB ?_ ?_ <;> intro _ <;> try (exfalso; omega)) | (refine ztW ?_; clear H; intro _ _ H _) | fail)
    all_goals first | (exfalso; omega) | skip
    exact ⟨B1, c1, l1, S1, rfl, hes, H.sel [0, 0] rfl⟩
end Go.Proofs.YtfnjodpehomgfaaGreatDoor
namespace Go.Sh
open Go.RowKit
section
variable {S : Nat → Prop} {w0 w : World} {Γ L R : List Ck} {α : Type} {enc : α → List Value} {sz c : Nat} {e : TypeId} {A : Option Addr} {l m : List α}
theorem Que.front {B : Nat} (h : Que enc sz e w B A c (l ++ m)) : Que enc sz e w B A c l := by
  refine ⟨fun x hx => h.sizes x (List.mem_append_left _ hx), ?_, ?_⟩
  · have := h.le
    rw [List.length_append] at this; omega
  · rcases h.place with h1 | ⟨b, off, cs, hA, hB, hb, hl, hat⟩
    · exact .inl h1
    · refine .inr ⟨b, off, cs, hA, hB, hb, hl, fun j v hv => hat j v ?_⟩
      rw [List.flatMap_append, List.getElem?_append_left (List.getElem?_eq_some_iff.1 hv).1]
      exact hv
theorem Hp.quF (H : Hp S w0 w (qu enc sz e A c (l ++ m) :: Γ)) : Hp S w0 w (qu enc sz e A c l :: Γ) := Hp.less H rfl (fun _ hk => hk) (fun ok => qu_ok (Que.front ok.holds))
theorem St.elqF {i o : Nat} {x x' : α} {vs : List Value} {k : World → Prop} (H : Hp S w0 w Γ) (hx : l[i]? = some x) (hx' : enc x' = putL (enc x) o vs) (ho : o + vs.length ≤ sz) (h1 : vs.all Value.oneCell' = true)
    (hk : ∀ w', Hp S w0 w' (L ++ qu enc sz e A c (l.set i x') :: R) → k w') (u : Sp Γ L (qu enc sz e A c l) R := by (repeat (first | exact Sp.head | apply Sp.tail))) : St w (pAdd ((gA A).add (i * sz)) o) vs k := by
  have hq : Que enc sz e w 0 A c l := H.mem (c := qu enc sz e A c l) (by rw [u.eq]; simp)
  have hi := (List.getElem?_eq_some_iff.1 hx).1
  rcases hq.place with ⟨_, hc⟩ | ⟨b, off, cs, rfl, hB, hb, hfit, hat⟩
  · have := hq.le; omega
  have hlen := flat_len hq.sizes
  have hxs := hq.sizes x (List.mem_of_getElem? hx)
  have h5 : i * sz + sz ≤ l.length * sz := by
    have : (i + 1) * sz ≤ l.length * sz := Nat.mul_le_mul_right sz hi
    rw [Nat.add_mul, Nat.one_mul] at this; exact this
  have h6 : l.length * sz ≤ c * sz := Nat.mul_le_mul_right sz hq.le
  have hx's : (enc x').length = sz := by rw [hx']; unfold putL; simp only [List.length_append, List.length_take, List.length_drop]; omega
  have e1 : pAdd ((gA (some ⟨b, off, none⟩)).add (i * sz)) o = ⟨b, off + i * sz + o, none⟩ := by rw [pAdd_add]; simp only [gA]; rw [add_lit, Nat.add_assoc]
  rw [e1]
  refine St.upd hb (Nat.ble_eq_true_of_le (by omega)) h1 fun w' up hb' => hk w' (H.putS u (Hp.one ((Tch.refl _ _).upd up (.inl rfl)) (qu_ok (Que.of_blk hb' hB ?_ ?_ ?_ ?_)) fun k hk => .inl hk) rfl (.inl rfl))
  · intro y hy
    rcases List.mem_or_eq_of_mem_set hy with h | h
    · exact hq.sizes y h
    · rw [h]; exact hx's
  · rw [List.length_set]; exact hq.le
  · unfold putL; simp only [List.length_append, List.length_take, List.length_drop]; omega
  · intro j v hv
    rw [← putL_el hq.sizes hx's hi, putL_get (by rw [hlen, hx's]; exact h5), hx's] at hv
    rw [putL_get (by omega)]
    split at hv
    · rw [if_pos (by omega)]; exact hat j v hv
    · split at hv
      · rw [hx', putL_get (by omega)] at hv
        have hin : ∀ u, (enc x)[j - i * sz]? = some u → cs[off + j]? = some u := fun u hu => hat j u (by
          have := flatMap_at hq.sizes i x hx (j - i * sz) u hu
          rw [show i * sz + (j - i * sz) = j by omega] at this
          exact this)
        split at hv
        · rw [if_pos (by omega)]; exact hin v hv
        · rw [if_neg (by omega)]
          split at hv
          · rw [if_pos (by omega), show off + j - (off + i * sz + o) = j - i * sz - o by omega]; exact hv
          · rw [if_neg (by omega)]; exact hin v hv
      · rw [if_neg (by omega), if_neg (by omega)]; exact hat j v hv
end
end Go.Sh
namespace Go.Proofs.YtfnjodpehomgfaaGreatDoor
open Go Go.Sh Go.Tx
attribute [local irreducible] Blk Ext RdS
structure BF where
  A : Option Addr
  ca : Nat
  ks : List ET
  B : Option Addr
  cb : Nat
  l : List SM
  i : Nat
  deep : Int
def BF.enc (f : BF) : List Value := [.slice f.A f.ks.length f.ca, .slice f.B f.l.length f.cb, .int .i64 (f.i : Int), .int .i64 f.deep]
def BF.wt (f : BF) : Nat := 1 + 2 * nEs (ET.es (f.ks.drop f.i)) + 4 * nSs (SM.es (f.l.drop (f.i - f.ks.length)))
def wts : List BF → Nat
  | [] => 0
  | f :: r => f.wt + wts r
theorem wts_app : ∀ a b : List BF, wts (a ++ b) = wts a + wts b
  | [], b => by simp [wts]
  | f :: r, b => by simp only [List.cons_append, wts, wts_app r b]; omega
theorem wts_len : ∀ l : List BF, l.length ≤ wts l
  | [] => Nat.le_refl _
  | f :: r => by have := wts_len r; simp only [List.length_cons, wts, BF.wt]; omega
abbrev Lits := List (Nat × ET)
def LOk (L : Lits) (w : World) : Prop := ∀ x ∈ L, Blk w x.1 74 x.2.enc
structure BF.Ok (w0 : World) (L : Lits) (f : BF) : Prop where
  ks : ET.Rds w0 f.ks
  l : SM.Rds w0 f.l
  A : RdS ET.enc 6 w0 f.A f.ks ∨ ∃ p e, (p, e) ∈ L ∧ f.A = some ⟨p, 0, none⟩ ∧ f.ks = [e]
  B : RdS SM.enc 10 w0 f.B f.l
  kl : f.ks.length ≤ 9000000
  ll : f.l.length ≤ 9000000
  il : f.i ≤ f.ks.length + f.l.length
theorem BF.Ok.more {w0 : World} {L : Lits} {f : BF} (h : BF.Ok w0 L f) (x : Nat × ET) : BF.Ok w0 (x :: L) f :=
  ⟨h.ks, h.l, h.A.imp id (fun ⟨p, e, h1, h2⟩ => ⟨p, e, List.mem_cons_of_mem _ h1, h2⟩), h.B, h.kl, h.ll, h.il⟩
theorem BF.Ok.rd {w0 w : World} {L : Lits} {f : BF} (h : BF.Ok w0 L f) (e : Ext w0 w) (hL : LOk L w) : RdS ET.enc 6 w f.A f.ks := by
  rcases h.A with h1 | ⟨p, x, h1, h2, h3⟩
  · exact RdS.from e h1
  · rw [h2, h3]
    exact rd_full (by have := hL (p, x) h1; simpa using this) (by intro y hy; exact ET.enc_len y)
theorem es_drop {l : List ET} {i : Nat} {x : ET} (h : l[i]? = some x) : nEs (ET.es (l.drop i)) = nE x.e + nEs (ET.es (l.drop (i + 1))) := by
  obtain ⟨h1, h2⟩ := List.getElem?_eq_some_iff.1 h
  rw [List.drop_eq_getElem_cons h1, h2]; rfl
theorem ss_drop {l : List SM} {i : Nat} {x : SM} (h : l[i]? = some x) : nSs (SM.es (l.drop i)) = nS x.e + nSs (SM.es (l.drop (i + 1))) := by
  obtain ⟨h1, h2⟩ := List.getElem?_eq_some_iff.1 h
  rw [List.drop_eq_getElem_cons h1, h2]; rfl
theorem wt_kid {f : BF} {kd o n : Int} {nm cb : Bs} {A : Option Addr} {c : Nat} {ks : List ET} (hx : f.ks[f.i]? = some (.mk kd o n nm cb A c ks)) (d : Int) : BF.wt { f with i := f.i + 1 } + BF.wt ⟨A, c, ks, none, 0, [], 0, d⟩ < BF.wt f := by
  have h1 := es_drop hx
  have h2 := (List.getElem?_eq_some_iff.1 hx).1
  simp only [BF.wt, ET.e, nE, List.drop_zero, Nat.zero_sub, List.drop_nil, SM.es, nSs] at h1 ⊢
  rw [show f.i + 1 - f.ks.length = 0 by omega, show f.i - f.ks.length = 0 by omega]
  omega
theorem wt_stm {f : BF} {kd : Int} {nm : Bs} {e : ET} {B E : Option Addr} {cb ce : Nat} {b el : List SM} (hk : ¬ f.i < f.ks.length) (hx : f.l[f.i - f.ks.length]? = some (.mk kd nm e B cb b E ce el)) (A : Option Addr) (d : Int) : BF.wt { f with i := f.i + 1 } + BF.wt ⟨A, 1, [e], none, 0, [], 0, d⟩ + BF.wt ⟨none, 0, [], B, cb, b, 0, d⟩ + BF.wt ⟨none, 0, [], E, ce, el, 0, d⟩ < BF.wt f := by
  have h1 := ss_drop hx
  simp only [BF.wt, ET.es, nEs, SM.e, nS, List.drop_zero, Nat.zero_sub, List.drop_nil, SM.es, nSs, List.length_nil, Nat.sub_zero] at h1 ⊢
  rw [show f.i + 1 - f.ks.length = f.i - f.ks.length + 1 by omega, List.drop_of_length_le (l := f.ks) (i := f.i + 1) (by omega), List.drop_of_length_le (l := f.ks) (i := f.i) (by omega)]
  simp only [ET.es, nEs]
  omega
theorem LOk.one {S : Nat → Prop} {w0 w : World} {Γ : List Ck} {p : Nat} {e : ET} {L : Lits} {s : Nat → Prop} (H : Hp S w0 w (bk p 74 e.enc :: ch s (LOk L) :: Γ)) : Hp S w0 w (ch (fun k => k = p ∨ s k) (LOk ((p, e) :: L)) :: Γ) :=
  Hp.cm (Hp.cj (Hp.cm H (P' := fun w => Blk w p 74 e.enc) (fun w h => h))) (fun w h x hx => by
    rcases List.mem_cons.1 hx with rfl | hx
    · exact h.1
    · exact h.2 x hx)
set_option maxHeartbeats 8000000 in
theorem beyond_c (m : List FM) (A : Option Addr) (c : Nat) (w : World) (hr : RdS FM.enc 3 w A m) (hrs : ∀ f ∈ m, FM.Rd w f) (hml : m.length ≤ 9000000) (hN : nP (m.map FM.e) ≤ 2097152) :
    Cl Tryz.prog 16 #[.agg #[.slice A m.length c]] w (fun v w' => ∃ b, v = .bool b ∧ Ext w w') (fun _ _ => False) := by
  refine calls_ex (args := [.agg #[.slice A m.length c]]) T.ok Tryz.func16 rfl rfl rfl rfl ?_
  have H := Hp.begin nw w
  refine Sq.mk ?_
  ((conv => whnf); refine Al.hp H ?_; clear H; intro p1 _ H _)
  repeat' ((conv => whnf); first | refine ztS ?_ | (refine ztB ?_ ?_ <;> intro _ <;> try (exfalso; omega)) | (refine ztW ?_; clear H; intro _ _ H _) | fail)
  refine Lp.g0 T.ok (σ := Nat × Int × Option Addr × Nat × List BF) (fun s => [(5, .int .i64 (s.1 : Int)), (4, .slice s.2.2.1 s.2.2.2.2.length s.2.2.2.1), (3, .int .i64 s.2.1), (2, .bool false), (1, .pointer (some ⟨p1, 0, none⟩))])
    (fun s w' => s.1 ≤ m.length ∧ wts s.2.2.2.2 + 4 * nP ((m.drop s.1).map FM.e) ≤ 8388608 ∧ (∀ f ∈ s.2.2.2.2, BF.Ok w [] f) ∧ Hp nw w w' [qu BF.enc 4 81 s.2.2.1 s.2.2.2.1 s.2.2.2.2, bk p1 24 [.slice A m.length c]])
    (fun s _ => m.length - s.1) (0, 0, none, 0, []) rfl ⟨rfl, rfl, rfl, rfl, rfl, trivial⟩ ⟨Nat.zero_le _, by simp only [wts, List.drop_zero]; omega, fun f hf => (by cases hf), Hp.nil H BF.enc 4 81⟩ ?_
  clear H
  rintro ⟨i, n, F, cF, fs⟩ w5 ⟨hi, hW, hfs, H⟩
  dsimp only at hi hW hfs H ⊢
  have hlf := wts_len fs
  have hr1 := RdS.from H.e hr
  by_cases hlt : i < m.length
  · obtain ⟨f, hx⟩ : ∃ x, m[i]? = some x := ⟨_, List.getElem?_eq_getElem hlt⟩
    have hdr : m.drop i = f :: m.drop (i + 1) := by
      obtain ⟨h1, h2⟩ := List.getElem?_eq_some_iff.1 hx
      rw [List.drop_eq_getElem_cons h1, h2]
    obtain ⟨x1, x2, x3, x4, x5, x6, x7, x8⟩ := hrs f (List.mem_of_getElem? hx)
    rw [hdr] at hW
    simp only [List.map_cons, nP, FM.e] at hW
    repeat' ((conv => whnf); first | refine ztS ?_ | (refine ztB ?_ ?_ <;> intro _ <;> try (exfalso; omega)) | (refine ztW ?_; clear H; intro _ _ H _) | fail)
    all_goals first | (exfalso; omega) | skip
    ((conv => whnf); refine Al.hp H ?_; clear H; intro p6 _ H _)
    repeat' ((conv => whnf); first | refine ztS ?_ | (refine ztB ?_ ?_ <;> intro _ <;> try (exfalso; omega)) | (refine ztW ?_; clear H; intro _ _ H _) | fail)
    clear hr1
    refine Lp.g0 T.ok (σ := Nat × Int) (fun s => [(7, .int .i64 (s.1 : Int)), (6, .pointer (some ⟨p6, 0, none⟩)), (5, .int .i64 (i : Int)), (4, .slice F fs.length cF), (3, .int .i64 s.2), (2, .bool false), (1, .pointer (some ⟨p1, 0, none⟩))])
      (fun s w' => s.1 ≤ f.params.length ∧ Hp nw w w' [bk p6 34 (FM.enc f), qu BF.enc 4 81 F cF fs, bk p1 24 [.slice A m.length c]])
      (fun s _ => f.params.length - s.1) (0, _) rfl ⟨rfl, rfl, rfl, rfl, rfl, rfl, rfl, trivial⟩ ⟨Nat.zero_le _, H⟩ ?_
    clear H
    rintro ⟨j, n2⟩ w6 ⟨hj, H⟩
    dsimp only at hj H ⊢
    by_cases hlt2 : j < f.params.length
    · obtain ⟨q, hq⟩ : ∃ x, f.params[j]? = some x := ⟨_, List.getElem?_eq_getElem hlt2⟩
      have hr2 := RdS.from H.e x1
      repeat' ((conv => whnf); first | refine ztS ?_ | (refine ztB ?_ ?_ <;> intro _ <;> try (exfalso; omega)) | (refine ztW ?_; clear H; intro _ _ H _) | fail)
      all_goals first | (exfalso; omega) | skip
      exact ⟨(j + 1, _), ⟨at_int (m := ((j + 1 : Nat) : Int)) rfl (w64 (by simp) (by omega) (by omega)), rfl, rfl, rfl, rfl, rfl, rfl, trivial⟩, rfl, ⟨hlt2, H⟩, (show f.params.length - (j + 1) < f.params.length - j by omega)⟩
    · repeat' ((conv => whnf); first | refine ztS ?_ | (refine ztB ?_ ?_ <;> intro _ <;> try (exfalso; omega)) | (refine ztW ?_; clear H; intro _ _ H _) | fail)
      all_goals first | (exfalso; omega) | skip
      refine Sm.lith (cs := BF.enc ⟨none, 0, [], f.B, f.cb, f.body, 0, 1⟩) H T.ok (fun p7 w7 H _ => ?_)
      refine Sm.ap1 (enc := BF.enc) ⟨none, 0, [], f.B, f.cb, f.body, 0, 1⟩ H T.ok ?_ ?_ (fun A' c' w8 H => ?_)
      · show (fs.length + 1) * 64 ≤ _; omega
      · omega
      simp only [List.cons_append, List.nil_append] at H
      repeat' ((conv => whnf); first | refine ztS ?_ | (refine ztB ?_ ?_ <;> intro _ <;> try (exfalso; omega)) | (refine ztW ?_; clear H; intro _ _ H _) | fail)
      refine ⟨(i + 1, n2, A', c', fs ++ [⟨none, 0, [], f.B, f.cb, f.body, 0, 1⟩]), ⟨at_int (m := ((i + 1 : Nat) : Int)) rfl (w64 (by simp) (by omega) (by omega)), at_val rfl (by simp), rfl, rfl, rfl, trivial⟩, rfl, ⟨hlt, ?_, fun g hg => ?_, H.sel [1, 1] rfl⟩, (show m.length - (i + 1) < m.length - i by omega)⟩
      · show wts (fs ++ [_]) + 4 * nP ((m.drop (i + 1)).map FM.e) ≤ _
        rw [wts_app]
        simp only [wts, BF.wt, ET.es, nEs, List.drop_nil, List.drop_zero, Nat.sub_zero, List.length_nil]
        omega
      · rcases List.mem_append.1 hg with hg | hg
        · exact hfs g hg
        · rw [List.mem_singleton.1 hg]
          exact ⟨trivial, x3, .inl RdS.nil, x2, Nat.zero_le _, x6, Nat.zero_le _⟩
  · repeat' ((conv => whnf); first | refine ztS ?_ | (refine ztB ?_ ?_ <;> intro _ <;> try (exfalso; omega)) | (refine ztW ?_; clear H; intro _ _ H _) | fail)
    all_goals first | (exfalso; omega) | skip
    clear hr1
    refine Lp.g0 T.ok (σ := Int × Option Addr × Nat × List BF × Lits × (Nat → Prop)) (fun s => [(4, .slice s.2.1 s.2.2.2.1.length s.2.2.1), (3, .int .i64 s.1), (2, .bool false)])
      (fun s w' => wts s.2.2.2.1 ≤ 8388608 ∧ (∀ f ∈ s.2.2.2.1, BF.Ok w s.2.2.2.2.1 f) ∧ Hp nw w w' [qu BF.enc 4 81 s.2.1 s.2.2.1 s.2.2.2.1, ch s.2.2.2.2.2 (LOk s.2.2.2.2.1)])
      (fun s _ => wts s.2.2.2.1) (n, F, cF, fs, [], fun _ => False) rfl ⟨rfl, rfl, rfl, trivial⟩ ⟨(show wts fs ≤ 8388608 by omega), hfs, (Hp.cm (Hp.c0 H) (P' := LOk []) (fun w _ x hx => by cases hx)).sel [1, 0] rfl⟩ ?_
    clear H hfs hlf hW
    rintro ⟨n, F, cF, fs, L, s⟩ w6 ⟨hW, hfs, H⟩
    dsimp only at hW hfs H ⊢
    have hlf := wts_len fs
    by_cases h0 : fs = []
    · subst h0
      have hl0 : ([] : List BF).length = 0 := rfl
      repeat' ((conv => whnf); first | refine ztS ?_ | (refine ztB ?_ ?_ <;> intro _ <;> try (exfalso; omega)) | (refine ztW ?_; clear H; intro _ _ H _) | fail)
      all_goals first | (exfalso; omega) | skip
      exact ⟨_, rfl, H.e⟩
    obtain ⟨fr, f, rfl⟩ : ∃ fr f, fs = fr ++ [f] := ⟨fs.dropLast, fs.getLast h0, (List.dropLast_concat_getLast h0).symm⟩
    have hfl : (fr ++ [f]).length = fr.length + 1 := by simp
    have hat : (fr ++ [f])[fr.length]? = some f := by simp
    have hfo := hfs f (by simp)
    have hfr : ∀ g ∈ fr, BF.Ok w L g := fun g hg => hfs g (by simp [hg])
    rw [wts_app] at hW hlf
    simp only [wts] at hW hlf
    have htop : IntKind.i64.wrap (((fr ++ [f]).length : Int) - 1) = ((fr.length : Nat) : Int) := w64 (by omega) (by omega) (by omega)
    have hpos : 0 < (fr ++ [f]).length := by omega
    have hltt : fr.length < (fr ++ [f]).length := by omega
    have hfo' := hfo
    obtain ⟨o1, o2, o3, o4, o5, o6, o7⟩ := hfo'
    have hsum : IntKind.i64.wrap ((f.ks.length : Int) + (f.l.length : Int)) = ((f.ks.length + f.l.length : Nat) : Int) := w64 (by simp) (by omega) (by omega)
    repeat' ((conv => whnf); first | refine ztS ?_ | (refine ztB ?_ ?_ <;> intro _ <;> try (exfalso; omega)) | (refine ztW ?_; clear H; intro _ _ H _) | fail)
    all_goals first | (exfalso; omega) | skip
    ((conv => whnf); refine Al.hp H ?_; clear H; intro p9 _ H _)
    by_cases hend : f.i = f.ks.length + f.l.length
    · repeat' ((conv => whnf); first | refine ztS ?_ | (refine ztB ?_ ?_ <;> intro _ <;> try (exfalso; omega)) | (refine ztW ?_; clear H; intro _ _ H _) | fail)
      all_goals first | (exfalso; omega) | skip
      refine Sm.cutHi (i := fr.length) T.ok rfl rfl rfl rfl htop (by have := (H.que (enc := BF.enc) 1 rfl).le; omega) ?_
      repeat' ((conv => whnf); first | refine ztS ?_ | (refine ztB ?_ ?_ <;> intro _ <;> try (exfalso; omega)) | (refine ztW ?_; clear H; intro _ _ H _) | fail)
      replace H := H.sel [1, 1] rfl
      replace H := Hp.quF (l := fr) (m := [f]) H
      refine ⟨(n, F, cF, fr, L, s), ⟨rfl, rfl, rfl, trivial⟩, rfl, ⟨(show wts fr ≤ 8388608 by omega), hfr, H⟩, ?_⟩
      show wts fr < wts (fr ++ [f])
      rw [wts_app]; simp only [wts, BF.wt]; omega
    have hinc : IntKind.i64.wrap ((f.i : Int) + 1) = ((f.i + 1 : Nat) : Int) := w64 rfl (by omega) (by omega)
    have hset : (fr ++ [f]).set fr.length { f with i := f.i + 1 } = fr ++ [{ f with i := f.i + 1 }] := by rw [List.set_append_right _ _ (Nat.le_refl _), Nat.sub_self]; rfl
    have hfi : BF.Ok w L { f with i := f.i + 1 } := ⟨o1, o2, o3, o4, o5, o6, (show f.i + 1 ≤ f.ks.length + f.l.length by omega)⟩
    repeat' ((conv => whnf); first | refine ztS ?_ | (refine ztB ?_ ?_ <;> intro _ <;> try (exfalso; omega)) | (refine ztW ?_; clear H; intro _ _ H _) | fail)
    all_goals first | (exfalso; omega) | skip
    refine St.elqF (enc := BF.enc) (x := f) (x' := { f with i := f.i + 1 }) H hat (by rw [hinc]; rfl) (by show 2 + 1 ≤ 4; decide) rfl (fun w7 H => ?_)
    rw [hset] at H
    simp only [List.cons_append, List.nil_append] at H
    by_cases hk : f.i < f.ks.length
    · obtain ⟨x, hx⟩ : ∃ x, f.ks[f.i]? = some x := ⟨_, List.getElem?_eq_getElem hk⟩
      have hxr := ET.rds_mem (List.mem_of_getElem? hx) o1
      have hra := BF.Ok.rd hfo H.e (H.atC (c := ch s (LOk L)) 2 rfl)
      obtain ⟨kx, ox, nx, mx, cx, Ax, cpx, lx⟩ := x
      obtain ⟨x1, x2, x3, x4⟩ := hxr
      have hwt := wt_kid hx (IntKind.i64.wrap (f.deep + 1))
      repeat' ((conv => whnf); first | refine ztS ?_ | (refine ztB ?_ ?_ <;> intro _ <;> try (exfalso; omega)) | (refine ztW ?_; clear H; intro _ _ H _) | fail)
      all_goals first | exact ⟨_, rfl, H.e⟩ | (exfalso; omega) | skip
      all_goals
        ((conv => whnf); refine Al.hp H ?_; clear H; intro p10 _ H _)
        repeat' ((conv => whnf); first | refine ztS ?_ | (refine ztB ?_ ?_ <;> intro _ <;> try (exfalso; omega)) | (refine ztW ?_; clear H; intro _ _ H _) | fail)
        refine Sm.lith (cs := BF.enc ⟨Ax, cpx, lx, none, 0, [], 0, IntKind.i64.wrap (f.deep + 1)⟩) H T.ok (fun p11 w8 H _ => ?_)
        refine Sm.ap1 (enc := BF.enc) ⟨Ax, cpx, lx, none, 0, [], 0, IntKind.i64.wrap (f.deep + 1)⟩ H T.ok ?_ ?_ (fun A' c' w9 H => ?_)
        · show ((fr ++ [_]).length + 1) * 64 ≤ _; rw [List.length_append]; simp only [List.length_cons, List.length_nil]; omega
        · rw [List.length_append]; simp only [List.length_cons, List.length_nil]; omega
        simp only [List.cons_append, List.nil_append] at H
        repeat' ((conv => whnf); first | refine ztS ?_ | (refine ztB ?_ ?_ <;> intro _ <;> try (exfalso; omega)) | (refine ztW ?_; clear H; intro _ _ H _) | fail)
        refine ⟨(_, A', c', fr ++ [{ f with i := f.i + 1 }] ++ [⟨Ax, cpx, lx, none, 0, [], 0, IntKind.i64.wrap (f.deep + 1)⟩], L, s), ⟨at_val rfl (by simp), rfl, rfl, trivial⟩, rfl, ⟨?_, fun g hg => ?_, H.sel [2, 2] rfl⟩, ?_⟩
        · show wts (fr ++ [_] ++ [_]) ≤ _
          rw [wts_app, wts_app]; simp only [wts]; omega
        · rcases List.mem_append.1 hg with hg | hg
          · rcases List.mem_append.1 hg with hg | hg
            · exact hfr g hg
            · rw [List.mem_singleton.1 hg]; exact hfi
          · rw [List.mem_singleton.1 hg]
            exact ⟨x2, trivial, .inl x1, RdS.nil, x3, Nat.zero_le _, Nat.zero_le _⟩
        · show wts (fr ++ [_] ++ [_]) < wts (fr ++ [f])
          rw [wts_app, wts_app, wts_app]; simp only [wts]; omega
    · obtain ⟨x, hx⟩ : ∃ x, f.l[f.i - f.ks.length]? = some x := ⟨_, List.getElem?_eq_getElem (by omega)⟩
      have hsub : IntKind.i64.wrap ((f.i : Int) - (f.ks.length : Int)) = ((f.i - f.ks.length : Nat) : Int) := w64 (by omega) (by omega) (by omega)
      have hjl : f.i - f.ks.length < f.l.length := by omega
      have hxr := SM.rds_mem (List.mem_of_getElem? hx) o2
      have hra := RdS.from H.e o4
      obtain ⟨kd, nm, ⟨k1, q1, n1, a1, b1, A1, c1, l1⟩, Bb, cb, bd, E, ce, el⟩ := x
      obtain ⟨x1, x2, x3, x4, x5, x6, x7, x8⟩ := hxr
      have hwt := fun pl => wt_stm hk hx (some ⟨pl, 0, none⟩) (IntKind.i64.wrap (f.deep + 1))
      repeat' ((conv => whnf); first | refine ztS ?_ | (refine ztB ?_ ?_ <;> intro _ <;> try (exfalso; omega)) | (refine ztW ?_; clear H; intro _ _ H _) | fail)
      all_goals first | exact ⟨_, rfl, H.e⟩ | (exfalso; omega) | skip
      all_goals
        ((conv => whnf); refine Al.hp H ?_; clear H; intro p10 _ H _)
        repeat' ((conv => whnf); first | refine ztS ?_ | (refine ztB ?_ ?_ <;> intro _ <;> try (exfalso; omega)) | (refine ztW ?_; clear H; intro _ _ H _) | fail)
        refine Sm.lith (cs := ET.enc (.mk k1 q1 n1 a1 b1 A1 c1 l1)) H T.ok (fun pl w8 H _ => ?_)
        repeat' ((conv => whnf); first | refine ztS ?_ | (refine ztB ?_ ?_ <;> intro _ <;> try (exfalso; omega)) | (refine ztW ?_; clear H; intro _ _ H _) | fail)
        refine Sm.lith (cs := BF.enc ⟨some ⟨pl, 0, none⟩, 1, [.mk k1 q1 n1 a1 b1 A1 c1 l1], none, 0, [], 0, IntKind.i64.wrap (f.deep + 1)⟩) H T.ok (fun p11 w8 H _ => ?_)
        refine Sm.ap1 (enc := BF.enc) ⟨some ⟨pl, 0, none⟩, 1, [.mk k1 q1 n1 a1 b1 A1 c1 l1], none, 0, [], 0, IntKind.i64.wrap (f.deep + 1)⟩ H T.ok ?_ ?_ (fun A' c' w9 H => ?_)
        · show ((fr ++ [_]).length + 1) * 64 ≤ _; rw [List.length_append]; simp only [List.length_cons, List.length_nil]; omega
        · rw [List.length_append]; simp only [List.length_cons, List.length_nil]; omega
        simp only [List.cons_append, List.nil_append] at H
        have hf1 : (fr ++ [{ f with i := f.i + 1 }]).length = fr.length + 1 := by simp
        have hF1l : ∀ g, (fr ++ [{ f with i := f.i + 1 }] ++ [(g : BF)]).length = fr.length + 2 := fun g => by simp
        replace hF1l := hF1l ⟨some ⟨pl, 0, none⟩, 1, [.mk k1 q1 n1 a1 b1 A1 c1 l1], none, 0, [], 0, IntKind.i64.wrap (f.deep + 1)⟩
        generalize hF1 : fr ++ [{ f with i := f.i + 1 }] ++ [(⟨some ⟨pl, 0, none⟩, 1, [.mk k1 q1 n1 a1 b1 A1 c1 l1], none, 0, [], 0, IntKind.i64.wrap (f.deep + 1)⟩ : BF)] = F1 at H hF1l ⊢
        repeat' ((conv => whnf); first | refine ztS ?_ | (refine ztB ?_ ?_ <;> intro _ <;> try (exfalso; omega)) | (refine ztW ?_; clear H; intro _ _ H _) | fail)
        refine Sm.lith (cs := BF.enc ⟨none, 0, [], Bb, cb, bd, 0, IntKind.i64.wrap (f.deep + 1)⟩) H T.ok (fun p11 w8 H _ => ?_)
        refine Sm.ap1 (enc := BF.enc) ⟨none, 0, [], Bb, cb, bd, 0, IntKind.i64.wrap (f.deep + 1)⟩ H T.ok ?_ ?_ (fun A'' c'' w9 H => ?_) (hn := by rw [hfl, hF1l])
        · show (_ + 1) * 64 ≤ _; omega
        · omega
        simp only [List.cons_append, List.nil_append] at H
        have hF2l : ∀ g, (F1 ++ [(g : BF)]).length = fr.length + 3 := fun g => by simp [hF1l]
        replace hF2l := hF2l ⟨none, 0, [], Bb, cb, bd, 0, IntKind.i64.wrap (f.deep + 1)⟩
        generalize hF2 : F1 ++ [(⟨none, 0, [], Bb, cb, bd, 0, IntKind.i64.wrap (f.deep + 1)⟩ : BF)] = F2 at H hF2l ⊢
        repeat' ((conv => whnf); first | refine ztS ?_ | (refine ztB ?_ ?_ <;> intro _ <;> try (exfalso; omega)) | (refine ztW ?_; clear H; intro _ _ H _) | fail)
        refine Sm.lith (cs := BF.enc ⟨none, 0, [], E, ce, el, 0, IntKind.i64.wrap (f.deep + 1)⟩) H T.ok (fun p11 w8 H _ => ?_)
        refine Sm.ap1 (enc := BF.enc) ⟨none, 0, [], E, ce, el, 0, IntKind.i64.wrap (f.deep + 1)⟩ H T.ok ?_ ?_ (fun A3 c3 w9 H => ?_) (hn := by rw [hfl, hF2l])
        · show (_ + 1) * 64 ≤ _; omega
        · omega
        simp only [List.cons_append, List.nil_append] at H
        repeat' ((conv => whnf); first | refine ztS ?_ | (refine ztB ?_ ?_ <;> intro _ <;> try (exfalso; omega)) | (refine ztW ?_; clear H; intro _ _ H _) | fail)
        have hwt := hwt pl
        replace H := Hp.swap (LOk.one (L := L) (H.sel [0, 3, 2] rfl))
        refine ⟨(_, A3, c3, F2 ++ [(⟨none, 0, [], E, ce, el, 0, IntKind.i64.wrap (f.deep + 1)⟩ : BF)], (pl, .mk k1 q1 n1 a1 b1 A1 c1 l1) :: L, fun k => k = pl ∨ s k), ⟨at_val rfl (by simp [hF2l]), rfl, rfl, trivial⟩, rfl, ⟨?_, fun g hg => ?_, H⟩, ?_⟩
        · show wts (F2 ++ [_]) ≤ _
          rw [← hF2, ← hF1]
          rw [wts_app, wts_app, wts_app, wts_app]; simp only [wts]; omega
        · dsimp only at hg
          rw [← hF2, ← hF1] at hg
          rcases List.mem_append.1 hg with hg | hg
          · rcases List.mem_append.1 hg with hg | hg
            · rcases List.mem_append.1 hg with hg | hg
              · rcases List.mem_append.1 hg with hg | hg
                · exact (hfr g hg).more _
                · rw [List.mem_singleton.1 hg]; exact hfi.more _
              · rw [List.mem_singleton.1 hg]
                exact ⟨⟨x1, trivial⟩, trivial, .inr ⟨pl, _, List.mem_cons_self .., rfl, rfl⟩, RdS.nil, by simp, Nat.zero_le _, Nat.zero_le _⟩
            · rw [List.mem_singleton.1 hg]
              exact ⟨trivial, x3, .inl RdS.nil, x2, Nat.zero_le _, x6, Nat.zero_le _⟩
          · rw [List.mem_singleton.1 hg]
            exact ⟨trivial, x5, .inl RdS.nil, x4, Nat.zero_le _, x7, Nat.zero_le _⟩
        · show wts (F2 ++ [_]) < wts (fr ++ [f])
          rw [← hF2, ← hF1]
          rw [wts_app, wts_app, wts_app, wts_app, wts_app]; simp only [wts]; omega
end Go.Proofs.YtfnjodpehomgfaaGreatDoor
namespace Go.Proofs.YtfnjodpehomgfaaGreatDoor
open Go Go.Sh Go.Tx
attribute [local irreducible] Blk Ext RdS
mutual
theorem ET.Rd.lo {w : World} : ∀ {t : ET}, ET.Rd w t → ET.Lo w t
  | .mk _ _ _ _ _ _ _ _, h => ⟨h.1, ET.Rds.los h.2.1, h.2.2.1⟩
theorem ET.Rds.los {w : World} : ∀ {l : List ET}, ET.Rds w l → ET.Los w l
  | [], _ => trivial
  | _ :: _, h => ⟨ET.Rd.lo h.1, ET.Rds.los h.2⟩
end
mutual
theorem SM.Rd.lo {w : World} : ∀ {t : SM}, SM.Rd w t → SM.Lo w t
  | .mk _ _ _ _ _ _ _ _ _, h => ⟨h.1.lo, h.2.1, SM.Rds.los h.2.2.1, h.2.2.2.1, SM.Rds.los h.2.2.2.2.1, h.2.2.2.2.2.1, h.2.2.2.2.2.2.1⟩
theorem SM.Rds.los {w : World} : ∀ {l : List SM}, SM.Rds w l → SM.Los w l
  | [], _ => trivial
  | _ :: _, h => ⟨SM.Rd.lo h.1, SM.Rds.los h.2⟩
end
theorem FM.Rd.lo {w : World} {f : FM} (h : FM.Rd w f) : FM.Lo w f := ⟨h.1, h.2.1, SM.Rds.los h.2.2.1, h.2.2.2.1, h.2.2.2.2.2.1⟩
theorem rdy_copy {w w0 : World} {S : Nat → Prop} {Γ : List Ck} {s : Nat → Prop} {m : List FM} {A : Option Addr} {c : Nat} (H : Hp S w0 w (qu FM.enc 3 34 A c m :: ch s (FAll m) :: Γ)) (hl : m.length ≤ 9000000) (hN : nP (m.map FM.e) ≤ 2097152) (hr : ∀ f ∈ m, rgSs (SM.es f.body)) : Rdy w A m :=
  ⟨H.rdq 0 rfl, H.atC (c := ch s (FAll m)) 1 rfl, hl, fit_of hN hr⟩
theorem rg_map {m m' : List FM} (h : m'.map FM.e = m.map FM.e) (hr : ∀ f ∈ m, rgSs (SM.es f.body)) : ∀ f ∈ m', rgSs (SM.es f.body) := fun f hf => by
  have h1 : FM.e f ∈ m.map FM.e := h ▸ List.mem_map_of_mem hf
  obtain ⟨g, hg, he⟩ := List.mem_map.1 h1
  have : (FM.e g).body = (FM.e f).body := by rw [he]
  have h2 := hr g hg
  change SM.es g.body = SM.es f.body at this
  rw [← this]; exact h2
theorem len_map {m m' : List FM} (h : m'.map FM.e = m.map FM.e) : m'.length = m.length := by
  have := congrArg List.length h
  simpa using this
end Go.Proofs.YtfnjodpehomgfaaGreatDoor
namespace Go.Sh
theorem Gd.lT {b : Bool} {X Y : Prop} (h : b = true) (hx : X) : Gd b X Y := by subst h; exact Gd.t hx
theorem Gd.lF {b : Bool} {X Y : Prop} (h : b = false) (hy : Y) : Gd b X Y := by subst h; exact Gd.f hy
theorem Gd.kT {a b : Int} {X Y : Prop} (h : a = b) (hx : X) : Gd (a == b) X Y := Gd.lT (by simp [h]) hx
theorem Gd.kF {a b : Int} {X Y : Prop} (h : ¬ a = b) (hy : Y) : Gd (a == b) X Y := Gd.lF (by simp [h]) hy
theorem Gd.nT {a b : Int} {X Y : Prop} (h : ¬ a = b) (hx : X) : Gd (a != b) X Y := Gd.lT (by simp [h]) hx
theorem Gd.nF {a b : Int} {X Y : Prop} (h : a = b) (hy : Y) : Gd (a != b) X Y := Gd.lF (by simp [h]) hy
end Go.Sh
namespace Go.Proofs.YtfnjodpehomgfaaGreatDoor
open Go Go.Sh Go.Tx
attribute [local irreducible] Blk Ext RdS
theorem nm_no {s : Bs} {i : Nat} {c : UInt8} (h : s[i]? = some c) (ha : letter c = false) (hd : i = 0 ∨ digit c = false) : isNameB s = false := by
  obtain ⟨h1, h2⟩ := List.getElem?_eq_some_iff.1 h
  unfold isNameB
  rw [Bool.and_eq_false_iff]
  refine .inr (List.all_eq_false.2 ⟨i, List.mem_range.2 h1, ?_⟩)
  rw [h, Option.getD_some]
  unfold nmB
  rw [ha]
  rcases hd with rfl | hd
  · simp
  · rw [hd]; simp
theorem nm_yes {s : Bs} {c : UInt8} (h : s[0]? = some c) (hc : letter c = true) (h24 : ¬ 24 < s.length) (hall : ∀ (i : Nat) (d : UInt8), s[i]? = some d → alnum d = true) : isNameB s = !isKw s := by
  have hne : s ≠ [] := fun e => by rw [e] at h; simp at h
  have hr : ((List.range s.length).all fun i => nmB i (s[i]?.getD 0)) = true := by
    rw [List.all_eq_true]
    intro i hi
    have hi := List.mem_range.1 hi
    rw [List.getElem?_eq_getElem hi, Option.getD_some]
    have ha := hall i _ (List.getElem?_eq_getElem hi)
    unfold alnum at ha
    unfold nmB
    simp only [Bool.or_eq_true, Bool.and_eq_true] at ha ⊢
    rcases ha with ha | ha
    · exact .inl ha
    · by_cases h0 : i = 0
      · subst h0
        rw [List.getElem?_eq_getElem hi] at h
        rw [Option.some.inj h]; exact .inl hc
      · exact .inr ⟨by simpa using h0, ha⟩
  unfold isNameB
  rw [hr, decide_eq_false hne, decide_eq_false h24]
  simp
set_option maxHeartbeats 2000000 in
theorem goodName_r (s : Bs) (w : World) (hl : s.length ≤ 9000000) : Cl Tryz.prog 64 #[.string (bs s)] w (fun v w' => v = .bool (isNameB s) ∧ Ext w w') (fun _ _ => False) := by
  refine calls_ex (args := [.string (bs s)]) T.ok Tryz.func64 rfl rfl rfl rfl ?_
  have H := Hp.begin nw w
  have hsz := bs_size s
  by_cases h0 : s = []
  · repeat' ((conv => whnf); first | refine ztT ?_ | (refine ztB ?_ ?_ <;> intro _ <;> try (exfalso; omega)) | (refine ztW ?_; clear H; intro _ _ H _) | fail)
    exact ⟨b_eq (by rw [h0]; rfl), H.e⟩
  have h0e : ¬ s = (⟨#[]⟩ : ByteArray).data.toList := h0
  by_cases h24 : 24 < s.length
  · repeat' ((conv => whnf); first | refine ztT ?_ | (refine ztB ?_ ?_ <;> intro _ <;> try (exfalso; omega)) | (refine ztW ?_; clear H; intro _ _ H _) | fail)
    all_goals first | (exfalso; omega) | skip
    exact ⟨b_eq (by unfold isNameB; rw [decide_eq_true h24]; simp), H.e⟩
  obtain ⟨c, hc⟩ : ∃ c, s[0]? = some c := ⟨_, List.getElem?_eq_getElem (List.length_pos_iff.2 h0)⟩
  have hlet := fun w' => letter_r c w'
  cases hlc : letter c with
  | false =>
    have hres := nm_no hc hlc (.inl rfl)
    rw [hlc] at hlet
    repeat' (first | ((conv => whnf); first | refine ztT ?_ | (refine ztB ?_ ?_ <;> intro _ <;> try (exfalso; omega)) | (refine ztW ?_; clear H; intro _ _ H _) | fail) | (refine Sm.strix (j := 0) T.ok ?_ rfl rfl rfl hc) | (((conv => whnf); refine Cl.mk (hlet _) ?_); rintro _ _ ⟨rfl, hx⟩; replace H := H.ext hx; clear hx))
    all_goals first | (exfalso; omega) | skip
    all_goals exact ⟨b_eq hres.symm, H.e⟩
  | true =>
    rw [hlc] at hlet
    repeat' (first | ((conv => whnf); first | refine ztT ?_ | (refine ztB ?_ ?_ <;> intro _ <;> try (exfalso; omega)) | (refine ztW ?_; clear H; intro _ _ H _) | fail) | (refine Sm.strix (j := 0) T.ok ?_ rfl rfl rfl hc) | (((conv => whnf); refine Cl.mk (hlet _) ?_); rintro _ _ ⟨rfl, hx⟩; replace H := H.ext hx; clear hx))
    all_goals first | (exfalso; omega) | skip
    refine Lp.g0 T.ok (σ := Nat) (fun i => [(3, .int .i64 (i : Int)), (0, .string (bs s))])
      (fun i w' => i ≤ s.length ∧ (∀ (j : Nat) (d : UInt8), j < i → s[j]? = some d → alnum d = true) ∧ Hp nw w w' []) (fun i _ => s.length - i) 0 rfl ⟨rfl, rfl, trivial⟩ ⟨Nat.zero_le _, fun j d h => absurd h (Nat.not_lt_zero _), H⟩ ?_
    clear H
    rintro i w5 ⟨hi, hall, H⟩
    by_cases hlt : i < s.length
    · obtain ⟨d, hd⟩ : ∃ d, s[i]? = some d := ⟨_, List.getElem?_eq_getElem hlt⟩
      have hl1 := fun w' => letter_r d w'
      have hd1 := fun w' => digit_r d w'
      cases hld : letter d with
      | true =>
        rw [hld] at hl1
        repeat' (first | ((conv => whnf); first | refine ztT ?_ | (refine ztB ?_ ?_ <;> intro _ <;> try (exfalso; omega)) | (refine ztW ?_; clear H; intro _ _ H _) | fail) | (((conv => whnf); refine Cl.mk (hl1 _) ?_); rintro _ _ ⟨rfl, hx⟩; replace H := H.ext hx; clear hx))
        all_goals first | (exfalso; omega) | skip
        refine ⟨i + 1, ⟨at_int (m := ((i + 1 : Nat) : Int)) rfl (w64 (by simp) (by omega) (by omega)), rfl, trivial⟩, rfl, ⟨hlt, fun j x hj hx => ?_, H⟩, (show s.length - (i + 1) < s.length - i by omega)⟩
        rcases Nat.lt_or_ge j i with h | h
        · exact hall j x h hx
        · have : j = i := by omega
          subst this
          rw [hd] at hx
          rw [← Option.some.inj hx]; unfold alnum; rw [hld]; rfl
      | false =>
        rw [hld] at hl1
        cases hdd : digit d with
        | true =>
          rw [hdd] at hd1
          repeat' (first | ((conv => whnf); first | refine ztT ?_ | (refine ztB ?_ ?_ <;> intro _ <;> try (exfalso; omega)) | (refine ztW ?_; clear H; intro _ _ H _) | fail) | (((conv => whnf); refine Cl.mk (hl1 _) ?_); rintro _ _ ⟨rfl, hx⟩; replace H := H.ext hx; clear hx) | (((conv => whnf); refine Cl.mk (hd1 _) ?_); rintro _ _ ⟨rfl, hx⟩; replace H := H.ext hx; clear hx))
          all_goals first | (exfalso; omega) | skip
          refine ⟨i + 1, ⟨at_int (m := ((i + 1 : Nat) : Int)) rfl (w64 (by simp) (by omega) (by omega)), rfl, trivial⟩, rfl, ⟨hlt, fun j x hj hx => ?_, H⟩, (show s.length - (i + 1) < s.length - i by omega)⟩
          rcases Nat.lt_or_ge j i with h | h
          · exact hall j x h hx
          · have : j = i := by omega
            subst this
            rw [hd] at hx
            rw [← Option.some.inj hx]; unfold alnum; rw [hdd, Bool.or_true]
        | false =>
          have hres := nm_no hd hld (.inr hdd)
          rw [hdd] at hd1
          repeat' (first | ((conv => whnf); first | refine ztT ?_ | (refine ztB ?_ ?_ <;> intro _ <;> try (exfalso; omega)) | (refine ztW ?_; clear H; intro _ _ H _) | fail) | (((conv => whnf); refine Cl.mk (hl1 _) ?_); rintro _ _ ⟨rfl, hx⟩; replace H := H.ext hx; clear hx) | (((conv => whnf); refine Cl.mk (hd1 _) ?_); rintro _ _ ⟨rfl, hx⟩; replace H := H.ext hx; clear hx))
          all_goals first | (exfalso; omega) | skip
          exact ⟨b_eq hres.symm, H.e⟩
    · have hres := nm_yes hc hlc h24 (fun j d hj => hall j d (by have := (List.getElem?_eq_some_iff.1 hj).1; omega) hj)
      repeat' (first | ((conv => whnf); first | refine ztT ?_ | (refine ztB ?_ ?_ <;> intro _ <;> try (exfalso; omega)) | (refine ztW ?_; clear H; intro _ _ H _) | fail) | (((conv => whnf); refine Cl.mk (keyword_r s _) ?_); rintro _ _ ⟨rfl, hx⟩; replace H := H.ext hx; clear hx))
      all_goals first | (exfalso; omega) | skip
      exact ⟨b_eq (by rw [hres]), H.e⟩
theorem iK {a b : Int} (h : a = b) : Value.int .i64 a = .int .i64 b := by rw [h]
def kidsN (kd : Int) : Int := if kd = 0 ∨ kd = 1 then 0 else if kd = 2 ∨ kd = 3 then 1 else if kd = 4 ∨ kd = 8 ∨ kd = 9 ∨ kd = 7 then 2 else if kd = 6 then 3 else if kd = 5 then -1 else -2
theorem kids_r (kd : Int) (w : World) : Cl Tryz.prog 134 #[.int .i64 kd] w (fun v w' => v = .int .i64 (kidsN kd) ∧ Ext w w') (fun _ _ => False) := by
  refine calls_ex (args := [.int .i64 kd]) T.ok Tryz.func134 rfl rfl rfl rfl ?_
  have H := Hp.begin nw w
  repeat' ((conv => whnf); first | refine ztT ?_ | (refine ztB ?_ ?_ <;> intro _ <;> try (exfalso; omega)) | (refine ztW ?_; clear H; intro _ _ H _) | fail)
  all_goals (refine ⟨iK ?_, H.e⟩; unfold kidsN; simp_all)
theorem noExpr_r (t : ET) (w : World) : Cl Tryz.prog 113 #[t.v] w (fun v w' => v = .bool (zeroB t.e) ∧ Ext w w') (fun _ _ => False) := by
  obtain ⟨kd, o, n, nm, cb, A, c, ks⟩ := t
  refine calls_ex (args := [.agg #[.int .i64 kd, .int .i64 o, .int .i64 n, .string (bs nm), .string (bs cb), .slice A ks.length c]]) T.ok Tryz.func113 rfl rfl rfl rfl ?_
  have H := Hp.begin nw w
  have hk := ET.es_len ks
  repeat' ((conv => whnf); first | refine ztT ?_ | (refine ztB ?_ ?_ <;> intro _ <;> try (exfalso; omega)) | (refine ztA ?_; clear H; intro _ _ H _) | fail)
  all_goals (refine ⟨b_eq ?_, H.e⟩; first | (simp_all [ET.e, zeroB, bs_nil]; done) | (rw [Bool.eq_iff_iff]; simp_all [ET.e, zeroB, bs_nil]))
theorem opNm_ne (o : Int) : opNm o ≠ [] ↔ 0 ≤ o ∧ o < 16 := by
  unfold opNm
  constructor
  · intro h
    by_cases h2 : 0 ≤ o ∧ o < 16
    · exact h2
    · rw [if_neg h2] at h; exact absurd rfl h
  · intro h
    rw [if_pos h]
    have key : ∀ k, k < 16 → opNames[k]?.getD [] ≠ [] := by decide
    exact key o.toNat (by omega)
end Go.Proofs.YtfnjodpehomgfaaGreatDoor
namespace Go.Proofs.YtfnjodpehomgfaaGreatDoor
open Go Go.Sh Go.Tx
attribute [local irreducible] Blk Ext RdS
theorem kd_cases (kd : Int) : kd = 0 ∨ kd = 1 ∨ kd = 2 ∨ kd = 3 ∨ kd = 4 ∨ kd = 5 ∨ kd = 6 ∨ kd = 7 ∨ kd = 8 ∨ kd = 9 ∨ (kd < 0 ∨ 9 < kd) := by omega
def hdR (kd o n : Int) (nm cb : Bs) (m : Nat) : Bool :=
  !(decide (kidsN kd = -2) || (decide (0 ≤ kidsN kd) && decide ((m : Int) ≠ kidsN kd))) &&
  !((decide (kd = 1 ∨ kd = 5 ∨ kd = 6 ∨ kd = 7) && !isNameB nm) || (!decide (kd = 1 ∨ kd = 5 ∨ kd = 6 ∨ kd = 7) && decide (nm ≠ []))) &&
  !((decide (kd = 6) && !isNameB cb) || (decide (kd ≠ 6) && decide (cb ≠ []))) &&
  !((decide (kd ≠ 0) && decide (n ≠ 0)) || (decide (kd ≠ 4) && decide (o ≠ 0)) || decide (o < 0) || decide (16 ≤ o))
theorem hdR_eq (kd o n : Int) (nm cb : Bs) (m : Nat) : hdR kd o n nm cb m = hdB kd o n nm cb m := by
  have hop := opNm_ne o
  rw [Bool.eq_iff_iff]
  rcases kd_cases kd with rfl | rfl | rfl | rfl | rfl | rfl | rfl | rfl | rfl | rfl | h
  rotate_right
  · have e0 : ¬ kd = 0 := by omega
    have e1 : ¬ kd = 1 := by omega
    have e2 : ¬ kd = 2 := by omega
    have e3 : ¬ kd = 3 := by omega
    have e4 : ¬ kd = 4 := by omega
    have e5 : ¬ kd = 5 := by omega
    have e6 : ¬ kd = 6 := by omega
    have e7 : ¬ kd = 7 := by omega
    have e8 : ¬ kd = 8 := by omega
    have e9 : ¬ kd = 9 := by omega
    simp [hdR, hdB, kidsN, e0, e1, e2, e3, e4, e5, e6, e7, e8, e9]
  all_goals first
    | (simp [hdR, hdB, kidsN, hop] <;> omega)
    | (simp [hdR, hdB, kidsN, hop]; constructor <;> intro h <;> simp_all <;> omega)
set_option maxRecDepth 100000 in
set_option maxHeartbeats 8000000 in
theorem goodExpr_r : ∀ (N : Nat) (t : ET) (w : World), ET.ht t ≤ N → ET.Rd w t → Cl Tryz.prog 114 #[t.v] w (fun v w' => v = .bool (exB t.e) ∧ Ext w w') (fun _ _ => False)
  | 0, t, w, hN, _ => by cases t; simp [ET.ht] at hN
  | N + 1, .mk kd o n nm cb A c ks, w, hN, hR => by
    obtain ⟨hr, hrs, hlen, hnm, hcb, _⟩ := hR
    refine calls_ex (args := [.agg #[.int .i64 kd, .int .i64 o, .int .i64 n, .string (bs nm), .string (bs cb), .slice A ks.length c]]) T.ok Tryz.func114 rfl rfl rfl rfl ?_
    have H := Hp.begin nw w
    have hk := ET.es_len ks
    have hno : hdR kd o n nm cb ks.length = false → exB (ET.e (.mk kd o n nm cb A c ks)) = false := fun h => by
      show (exBs (ET.es ks) && hdB kd o n nm cb (ET.es ks).length) = false
      rw [hk, ← hdR_eq, h, Bool.and_false]
    have hyes : hdR kd o n nm cb ks.length = true → exB (ET.e (.mk kd o n nm cb A c ks)) = exBs (ET.es ks) := fun h => by
      show (exBs (ET.es ks) && hdB kd o n nm cb (ET.es ks).length) = _
      rw [hk, ← hdR_eq, h, Bool.and_true]
    have hne : ∀ s : Bs, ¬ s = (⟨#[]⟩ : ByteArray).data.toList ↔ s ≠ [] := fun s => Iff.rfl
    have hkr := fun w' => kids_r kd w'
    refine Sq.mk ?_
    ((conv => whnf); refine Al.hp H ?_; clear H; intro p1 _ H _)
    clear hne
    rcases kd_cases kd with rfl | rfl | rfl | rfl | rfl | rfl | rfl | rfl | rfl | rfl | h
    rotate_right
    · have e0 : ¬ kd = 0 := by omega
      have e1 : ¬ kd = 1 := by omega
      have e2 : ¬ kd = 2 := by omega
      have e3 : ¬ kd = 3 := by omega
      have e4 : ¬ kd = 4 := by omega
      have e5 : ¬ kd = 5 := by omega
      have e6 : ¬ kd = 6 := by omega
      have e7 : ¬ kd = 7 := by omega
      have e8 : ¬ kd = 8 := by omega
      have e9 : ¬ kd = 9 := by omega
      have hkk : kidsN kd = -2 := by simp [kidsN, e0, e1, e2, e3, e4, e5, e6, e7, e8, e9]
      have hd0 : hdR kd o n nm cb ks.length = false := by simp [hdR, hkk]
      rw [hkk] at hkr
      repeat' (first | ((conv => whnf); first | ((with_reducible show Gd (@BEq.beq Int _ _ _) _ _); first | refine Gd.kT (by assumption) ?_ | refine Gd.kF (by assumption) ?_ | refine Gd.lT (by decide) ?_ | refine Gd.lF (by decide) ?_ | fail) | ((with_reducible show Gd (@bne Int _ _ _) _ _); first | refine Gd.nT (by assumption) ?_ | refine Gd.nF (by assumption) ?_ | refine Gd.lT (by decide) ?_ | refine Gd.lF (by decide) ?_ | fail) | ((with_reducible show Gd (@decide _ _) _ _); first | refine Gd.lT (by decide) ?_ | refine Gd.lF (by decide) ?_ | fail) | ((conv => whnf); first | refine ztT ?_ | (refine ztB ?_ ?_ <;> intro _ <;> try (exfalso; omega)) | (refine ztW ?_; clear H; intro _ _ H _) | fail)) | (((conv => whnf); refine Cl.mk (hkr _) ?_); rintro _ _ ⟨rfl, hx⟩; replace H := H.ext hx; clear hx))
      exact ⟨b_eq (hno hd0).symm, H.e⟩
    all_goals repeat' (first | ((conv => whnf); first | ((with_reducible show Gd (@BEq.beq Int _ _ _) _ _); first | refine Gd.kT (by assumption) ?_ | refine Gd.kF (by assumption) ?_ | refine Gd.lT (by decide) ?_ | refine Gd.lF (by decide) ?_ | fail) | ((with_reducible show Gd (@bne Int _ _ _) _ _); first | refine Gd.nT (by assumption) ?_ | refine Gd.nF (by assumption) ?_ | refine Gd.lT (by decide) ?_ | refine Gd.lF (by decide) ?_ | fail) | ((with_reducible show Gd (@decide _ _) _ _); first | refine Gd.lT (by decide) ?_ | refine Gd.lF (by decide) ?_ | fail) | ((conv => whnf); first | refine ztT ?_ | (refine ztB ?_ ?_ <;> intro _ <;> try (exfalso; omega)) | (refine ztW ?_; clear H; intro _ _ H _) | fail)) | (((conv => whnf); refine Cl.mk (hkr _) ?_); rintro _ _ ⟨rfl, hx⟩; replace H := H.ext hx; clear hx) | (((conv => whnf); refine Cl.mk (goodName_r nm _ hnm) ?_); rintro _ _ ⟨rfl, hx⟩; replace H := H.ext hx; clear hx) | (((conv => whnf); refine Cl.mk (goodName_r cb _ hcb) ?_); rintro _ _ ⟨rfl, hx⟩; replace H := H.ext hx; clear hx))
    all_goals first
      | (exfalso; omega)
      | (refine ⟨b_eq (hno ?_).symm, H.e⟩; clear H hno hyes hkr hr hrs; (simp_all [hdR, kidsN, bs_nil] <;> omega))
      | skip
    all_goals
      have hq : exB (ET.e (.mk _ o n nm cb A c ks)) = exBs (ET.es ks) := hyes (by clear H hno hyes hkr hr hrs; (simp_all [hdR, kidsN, bs_nil] <;> omega))
      clear hno hyes hkr
      refine Lp.g0 T.ok (σ := Nat) (fun i => [(5, .int .i64 (i : Int)), (1, .pointer (some ⟨p1, 0, none⟩))])
        (fun i w' => i ≤ ks.length ∧ exBs (ET.es ks) = exBs (ET.es (ks.drop i)) ∧ Hp nw w w' [bk p1 74 [.int .i64 _, .int .i64 o, .int .i64 n, .string (bs nm), .string (bs cb), .slice A ks.length c]]) (fun i _ => ks.length - i) 0 rfl ⟨rfl, rfl, trivial⟩ ⟨Nat.zero_le _, rfl, H⟩ ?_
      clear H
      rintro i w5 ⟨hi, hall, H⟩
      by_cases hlt : i < ks.length
      · obtain ⟨x, hx⟩ : ∃ x, ks[i]? = some x := ⟨_, List.getElem?_eq_getElem hlt⟩
        have hat := exBs_at hx
        have hr1 := RdS.from H.e hr
        have hm := List.mem_of_getElem? hx
        have hxh := ET.ht_mem hm
        have hxr := ET.rds_mem hm hrs
        simp only [ET.ht] at hN
        obtain ⟨kx, ox, nx, mx, cx, Ax, cpx, lx⟩ := x
        repeat' ((conv => whnf); first | refine ztT ?_ | (refine ztB ?_ ?_ <;> intro _ <;> try (exfalso; omega)) | (refine ztW ?_; clear H; intro _ _ H _) | fail)
        all_goals first | (exfalso; omega) | skip
        (((conv => whnf); refine Cl.mk (goodExpr_r N (.mk kx ox nx mx cx Ax cpx lx) _ (by omega) (hxr.ext H.e)) ?_); rintro _ _ ⟨rfl, hx⟩; replace H := H.ext hx; clear hx)
        cases hb : exB (ET.e (.mk kx ox nx mx cx Ax cpx lx)) with
        | true =>
          repeat' ((conv => whnf); first | refine ztT ?_ | (refine ztB ?_ ?_ <;> intro _ <;> try (exfalso; omega)) | (refine ztW ?_; clear H; intro _ _ H _) | fail)
          exact ⟨i + 1, ⟨at_int (m := ((i + 1 : Nat) : Int)) rfl (w64 (by simp) (by omega) (by omega)), rfl, trivial⟩, rfl, ⟨by omega, by rw [hall, hat, hb, Bool.true_and], H⟩, by omega⟩
        | false =>
          repeat' ((conv => whnf); first | refine ztT ?_ | (refine ztB ?_ ?_ <;> intro _ <;> try (exfalso; omega)) | (refine ztW ?_; clear H; intro _ _ H _) | fail)
          exact ⟨b_eq (by rw [hq, hall, hat, hb]; rfl), H.e⟩
      · repeat' ((conv => whnf); first | refine ztT ?_ | (refine ztB ?_ ?_ <;> intro _ <;> try (exfalso; omega)) | (refine ztW ?_; clear H; intro _ _ H _) | fail)
        all_goals first | (exfalso; omega) | skip
        exact ⟨b_eq (by rw [hq, hall, List.drop_of_length_le (by omega)]; rfl), H.e⟩
end Go.Proofs.YtfnjodpehomgfaaGreatDoor
namespace Go.Proofs.YtfnjodpehomgfaaGreatDoor
open Go Go.Sh Go.Tx
attribute [local irreducible] Blk Ext RdS
def GoodStC (N : Nat) : Prop := ∀ (s : SM) (w : World), SM.ht s ≤ N → SM.Rd w s →
  Cl Tryz.prog 91 #[s.v] w (fun v w' => v = .bool (stB s.e) ∧ Ext w w') (fun _ _ => False)
theorem goodBlock_of {N : Nat} (ih : GoodStC N) (A : Option Addr) (c : Nat) (l : List SM) (w : World) (hN : SM.hts l ≤ N) (hr : RdS SM.enc 10 w A l) (hrs : SM.Rds w l) (hlen : l.length ≤ 9000000) :
    Cl Tryz.prog 65 #[.slice A l.length c] w (fun v w' => v = .bool (stBs (SM.es l)) ∧ Ext w w') (fun _ _ => False) := by
  refine calls_ex (args := [.slice A l.length c]) T.ok Tryz.func65 rfl rfl rfl rfl ?_
  have H := Hp.begin nw w
  repeat' ((conv => whnf); first | refine ztT ?_ | (refine ztB ?_ ?_ <;> intro _ <;> try (exfalso; omega)) | (refine ztW ?_; clear H; intro _ _ H _) | fail)
  refine Lp.g0 T.ok (σ := Nat) (fun i => [(3, .int .i64 (i : Int)), (0, .slice A l.length c)])
    (fun i w' => i ≤ l.length ∧ stBs (SM.es l) = stBs (SM.es (l.drop i)) ∧ Hp nw w w' []) (fun i _ => l.length - i) 0 rfl ⟨rfl, rfl, trivial⟩ ⟨Nat.zero_le _, rfl, H⟩ ?_
  clear H
  rintro i w5 ⟨hi, hall, H⟩
  by_cases hlt : i < l.length
  · obtain ⟨x, hx⟩ : ∃ x, l[i]? = some x := ⟨_, List.getElem?_eq_getElem hlt⟩
    have hat := stBs_at hx
    have hr1 := RdS.from H.e hr
    have hm := List.mem_of_getElem? hx
    have hxh := SM.ht_mem hm
    have hxr := SM.rds_mem hm hrs
    obtain ⟨kd, nm, ⟨kx, ox, nx, mx, cx, Ax, cpx, lx⟩, B, cb, b, E, ce, f⟩ := x
    repeat' ((conv => whnf); first | refine ztT ?_ | (refine ztB ?_ ?_ <;> intro _ <;> try (exfalso; omega)) | (refine ztW ?_; clear H; intro _ _ H _) | fail)
    all_goals first | (exfalso; omega) | skip
    (((conv => whnf); refine Cl.mk (ih (.mk kd nm (.mk kx ox nx mx cx Ax cpx lx) B cb b E ce f) _ (by omega) (hxr.ext H.e)) ?_); rintro _ _ ⟨rfl, hx⟩; replace H := H.ext hx; clear hx)
    cases hb : stB (SM.e (.mk kd nm (.mk kx ox nx mx cx Ax cpx lx) B cb b E ce f)) with
    | true =>
      repeat' ((conv => whnf); first | refine ztT ?_ | (refine ztB ?_ ?_ <;> intro _ <;> try (exfalso; omega)) | (refine ztW ?_; clear H; intro _ _ H _) | fail)
      exact ⟨i + 1, ⟨at_int (m := ((i + 1 : Nat) : Int)) rfl (w64 (by simp) (by omega) (by omega)), rfl, trivial⟩, rfl, ⟨by omega, by rw [hall, hat, hb, Bool.true_and], H.sel [] rfl⟩, by omega⟩
    | false =>
      repeat' ((conv => whnf); first | refine ztT ?_ | (refine ztB ?_ ?_ <;> intro _ <;> try (exfalso; omega)) | (refine ztW ?_; clear H; intro _ _ H _) | fail)
      exact ⟨b_eq (by rw [hall, hat, hb]; rfl), H.e⟩
  · repeat' ((conv => whnf); first | refine ztT ?_ | (refine ztB ?_ ?_ <;> intro _ <;> try (exfalso; omega)) | (refine ztW ?_; clear H; intro _ _ H _) | fail)
    all_goals first | (exfalso; omega) | skip
    exact ⟨b_eq (by rw [hall, List.drop_of_length_le (by omega)]; rfl), H.e⟩
set_option maxRecDepth 100000 in
set_option maxHeartbeats 8000000 in
theorem goodStmt_r : ∀ N, GoodStC N
  | 0, s, w, hN, _ => by cases s; simp [SM.ht] at hN
  | N + 1, .mk kd nm (.mk kx ox nx mx cx Ax cpx lx) B cb b E ce f, w, hN, hR => by
    obtain ⟨hre, hrb, hrbs, hrf, hrfs, hlb, hlf, hnm⟩ := hR
    simp only [SM.ht] at hN
    have ih := goodStmt_r N
    refine calls_ex (args := [.agg #[.int .i64 kd, .string (bs nm), .int .i64 kx, .int .i64 ox, .int .i64 nx, .string (bs mx), .string (bs cx), .slice Ax lx.length cpx, .slice B b.length cb, .slice E f.length ce]]) T.ok Tryz.func91 rfl rfl rfl rfl ?_
    have H := Hp.begin nw w
    have hEb := SM.es_len b
    have hEf := SM.es_len f
    have hic := isCall_e kx ox nx mx cx Ax cpx lx
    have hn0 : stBs [] = true := rfl
    refine Sq.mk ?_
    ((conv => whnf); refine Al.hp H ?_; clear H; intro p1 _ H _)
    rcases kd_cases kd with rfl | rfl | rfl | rfl | rfl | rfl | rfl | rfl | rfl | rfl | h
    rotate_right
    · repeat' ((conv => whnf); first | refine ztT ?_ | (refine ztB ?_ ?_ <;> intro _ <;> try (exfalso; omega)) | (refine ztW ?_; clear H; intro _ _ H _) | fail)
      all_goals first | (exfalso; omega) | skip
      all_goals (refine ⟨b_eq ?_, H.e⟩; simp only [SM.e, stB]; rw [if_neg (by omega), if_neg (by omega), if_neg (by omega), if_neg (by omega), if_neg (by omega), if_neg (by omega)])
    all_goals repeat' (first | ((conv => whnf); first | ((with_reducible show Gd (@BEq.beq Int _ _ _) _ _); first | refine Gd.kT (by assumption) ?_ | refine Gd.kF (by assumption) ?_ | refine Gd.lT (by decide) ?_ | refine Gd.lF (by decide) ?_ | fail) | ((with_reducible show Gd (@bne Int _ _ _) _ _); first | refine Gd.nT (by assumption) ?_ | refine Gd.nF (by assumption) ?_ | refine Gd.lT (by decide) ?_ | refine Gd.lF (by decide) ?_ | fail) | ((with_reducible show Gd (@decide _ _) _ _); first | refine Gd.lT (by decide) ?_ | refine Gd.lF (by decide) ?_ | fail) | ((conv => whnf); first | refine ztT ?_ | (refine ztB ?_ ?_ <;> intro _ <;> try (exfalso; omega)) | (refine ztW ?_; clear H; intro _ _ H _) | fail)) | (((conv => whnf); refine Cl.mk (noExpr_r (.mk kx ox nx mx cx Ax cpx lx) _) ?_); rintro _ _ ⟨rfl, hx⟩; replace H := H.ext hx; clear hx) | (((conv => whnf); refine Cl.mk (goodName_r nm _ hnm) ?_); rintro _ _ ⟨rfl, hx⟩; replace H := H.ext hx; clear hx) | (((conv => whnf); refine Cl.mk (goodExpr_r _ (.mk kx ox nx mx cx Ax cpx lx) _ (Nat.le_refl _) (hre.ext H.e)) ?_); rintro _ _ ⟨rfl, hx⟩; replace H := H.ext hx; clear hx) | (((conv => whnf); refine Cl.mk (goodBlock_of ih B cb b _ (by omega) (RdS.from H.e hrb) (hrbs.ext H.e) hlb) ?_); rintro _ _ ⟨rfl, hx⟩; replace H := H.ext hx; clear hx) | (((conv => whnf); refine Cl.mk (goodBlock_of ih E ce f _ (by omega) (RdS.from H.e hrf) (hrfs.ext H.e) hlf) ?_); rintro _ _ ⟨rfl, hx⟩; replace H := H.ext hx; clear hx))
    all_goals (refine ⟨b_eq ?_, H.e⟩; clear H hre hrb hrbs hrf hrfs ih)
    all_goals first
      | (simp_all [SM.e, stB, bs_nil, SM.es_nil, len0]; done)
      | (have hb0 : ¬ b.length = 0 := by omega
         simp [SM.e, stB, hEb, hEf, hb0]; done)
      | (have hf0 : ¬ f.length = 0 := by omega
         simp [SM.e, stB, hEb, hEf, hf0]; done)
      | (have hb0 : b = [] := List.length_eq_zero_iff.1 (by omega)
         have hf0 : f = [] := List.length_eq_zero_iff.1 (by omega)
         subst hb0 hf0
         simp_all [SM.e, SM.es, stB, bs_nil]; done)
      | (have hf0 : f = [] := List.length_eq_zero_iff.1 (by omega)
         subst hf0
         simp_all [SM.e, SM.es, stB, bs_nil]; done)
      | (simp_all [SM.e, stB, bs_nil, SM.es_nil, len0]; omega)
      | skip
set_option maxHeartbeats 4000000 in
theorem Good_r (m : List FM) (A : Option Addr) (c : Nat) (w : World) (hr : RdS FM.enc 3 w A m) (hrs : ∀ f ∈ m, FM.Rd w f) (hml : m.length ≤ 9000000) :
    Cl Tryz.prog 38 #[.agg #[.slice A m.length c]] w (fun v w' => v = .bool (treeB (m.map FM.e)) ∧ Ext w w') (fun _ _ => False) := by
  refine calls_ex (args := [.agg #[.slice A m.length c]]) T.ok Tryz.func38 rfl rfl rfl rfl ?_
  have H := Hp.begin nw w
  refine Sq.mk ?_
  ((conv => whnf); refine Al.hp H ?_; clear H; intro p1 _ H _)
  by_cases hm0 : m = []
  · subst hm0
    repeat' ((conv => whnf); first | refine ztT ?_ | (refine ztB ?_ ?_ <;> intro _ <;> try (exfalso; omega)) | (refine ztW ?_; clear H; intro _ _ H _) | fail)
    all_goals first | (exfalso; omega) | skip
    exact ⟨rfl, H.e⟩
  have hml0 : 0 < m.length := List.length_pos_iff.2 hm0
  have htr : treeB (m.map FM.e) = (m.map FM.e).all fnB := by
    unfold treeB
    rw [decide_eq_true (by simpa using hm0), Bool.true_and]
  rw [htr]
  repeat' ((conv => whnf); first | refine ztT ?_ | (refine ztB ?_ ?_ <;> intro _ <;> try (exfalso; omega)) | (refine ztW ?_; clear H; intro _ _ H _) | fail)
  all_goals first | (exfalso; omega) | skip
  refine Lp.g0 T.ok (σ := Nat) (fun i => [(3, .int .i64 (i : Int)), (1, .pointer (some ⟨p1, 0, none⟩))])
    (fun i w' => i ≤ m.length ∧ (m.map FM.e).all fnB = ((m.drop i).map FM.e).all fnB ∧ Hp nw w w' [bk p1 24 [.slice A m.length c]]) (fun i _ => m.length - i) 0 rfl ⟨rfl, rfl, trivial⟩ ⟨Nat.zero_le _, rfl, H⟩ ?_
  clear H
  rintro i w5 ⟨hi, hall, H⟩
  by_cases hlt : i < m.length
  · obtain ⟨f, hf⟩ : ∃ x, m[i]? = some x := ⟨_, List.getElem?_eq_getElem hlt⟩
    have hr1 := RdS.from H.e hr
    obtain ⟨q1, q2, q3, q4, q5, q6, q7, q8⟩ := hrs f (List.mem_of_getElem? hf)
    have hat : ((m.drop i).map FM.e).all fnB = (fnB f.e && ((m.drop (i + 1)).map FM.e).all fnB) := by
      obtain ⟨g1, g2⟩ := List.getElem?_eq_some_iff.1 hf
      rw [List.drop_eq_getElem_cons g1, g2]; rfl
    rw [hat] at hall
    have hfb : fnB f.e = (isNameB f.name && f.params.all isNameB && stBs (SM.es f.body)) := rfl
    rw [hfb] at hall
    repeat' ((conv => whnf); first | refine ztT ?_ | (refine ztB ?_ ?_ <;> intro _ <;> try (exfalso; omega)) | (refine ztW ?_; clear H; intro _ _ H _) | fail)
    all_goals first | (exfalso; omega) | skip
    ((conv => whnf); refine Al.hp H ?_; clear H; intro p4 _ H _)
    have hgn := fun w' => goodName_r f.name w' q7
    cases hnb : isNameB f.name with
    | false =>
      rw [hnb] at hgn hall
      repeat' (first | ((conv => whnf); first | refine ztT ?_ | (refine ztB ?_ ?_ <;> intro _ <;> try (exfalso; omega)) | (refine ztW ?_; clear H; intro _ _ H _) | fail) | (((conv => whnf); refine Cl.mk (hgn _) ?_); rintro _ _ ⟨rfl, hx⟩; replace H := H.ext hx; clear hx))
      exact ⟨b_eq (by rw [hall]; simp), H.e⟩
    | true =>
      rw [hnb, Bool.true_and] at hall
      rw [hnb] at hgn
      repeat' (first | ((conv => whnf); first | refine ztT ?_ | (refine ztB ?_ ?_ <;> intro _ <;> try (exfalso; omega)) | (refine ztW ?_; clear H; intro _ _ H _) | fail) | (((conv => whnf); refine Cl.mk (hgn _) ?_); rintro _ _ ⟨rfl, hx⟩; replace H := H.ext hx; clear hx))
      clear hr1
      refine Lp.g0 T.ok (σ := Nat) (fun j => [(5, .int .i64 (j : Int)), (4, .pointer (some ⟨p4, 0, none⟩)), (3, .int .i64 (i : Int)), (1, .pointer (some ⟨p1, 0, none⟩))])
        (fun j w' => j ≤ f.params.length ∧ f.params.all isNameB = (f.params.drop j).all isNameB ∧ Hp nw w w' [bk p4 34 (FM.enc f), bk p1 24 [.slice A m.length c]]) (fun j _ => f.params.length - j) 0 rfl ⟨rfl, rfl, rfl, rfl, trivial⟩ ⟨Nat.zero_le _, rfl, H⟩ ?_
      clear H
      rintro j w6 ⟨hj, hpa, H⟩
      by_cases hlt2 : j < f.params.length
      · obtain ⟨x, hx⟩ : ∃ x, f.params[j]? = some x := ⟨_, List.getElem?_eq_getElem hlt2⟩
        have hr2 := RdS.from H.e q1
        have hxl := q8 x (List.mem_of_getElem? hx)
        have hpt : (f.params.drop j).all isNameB = (isNameB x && (f.params.drop (j + 1)).all isNameB) := by
          obtain ⟨g1, g2⟩ := List.getElem?_eq_some_iff.1 hx
          rw [List.drop_eq_getElem_cons g1, g2]; rfl
        rw [hpt] at hpa
        have hgx := fun w' => goodName_r x w' hxl
        cases hxb : isNameB x with
        | false =>
          rw [hxb] at hgx hpa
          repeat' (first | ((conv => whnf); first | refine ztT ?_ | (refine ztB ?_ ?_ <;> intro _ <;> try (exfalso; omega)) | (refine ztW ?_; clear H; intro _ _ H _) | fail) | (((conv => whnf); refine Cl.mk (hgx _) ?_); rintro _ _ ⟨rfl, hx⟩; replace H := H.ext hx; clear hx))
          all_goals first | (exfalso; omega) | skip
          exact ⟨b_eq (by rw [hall, hpa]; simp), H.e⟩
        | true =>
          rw [hxb, Bool.true_and] at hpa
          rw [hxb] at hgx
          repeat' (first | ((conv => whnf); first | refine ztT ?_ | (refine ztB ?_ ?_ <;> intro _ <;> try (exfalso; omega)) | (refine ztW ?_; clear H; intro _ _ H _) | fail) | (((conv => whnf); refine Cl.mk (hgx _) ?_); rintro _ _ ⟨rfl, hx⟩; replace H := H.ext hx; clear hx))
          all_goals first | (exfalso; omega) | skip
          exact ⟨j + 1, ⟨at_int (m := ((j + 1 : Nat) : Int)) rfl (w64 (by simp) (by omega) (by omega)), rfl, rfl, rfl, trivial⟩, rfl, ⟨hlt2, hpa, H⟩, (show f.params.length - (j + 1) < f.params.length - j by omega)⟩
      · have hpa1 : f.params.all isNameB = true := by rw [hpa, List.drop_of_length_le (by omega)]; rfl
        rw [hpa1, Bool.true_and] at hall
        have hgb := fun w' (e : Ext w w') => goodBlock_of (goodStmt_r _) f.B f.cb f.body w' (Nat.le_refl _) (RdS.from e q2) (q3.ext e) q6
        cases hbb : stBs (SM.es f.body) with
        | false =>
          rw [hbb] at hgb hall
          repeat' (first | ((conv => whnf); first | refine ztT ?_ | (refine ztB ?_ ?_ <;> intro _ <;> try (exfalso; omega)) | (refine ztW ?_; clear H; intro _ _ H _) | fail) | (((conv => whnf); refine Cl.mk (hgb _ H.e) ?_); rintro _ _ ⟨rfl, hx⟩; replace H := H.ext hx; clear hx))
          all_goals first | (exfalso; omega) | skip
          exact ⟨b_eq (by rw [hall]; rfl), H.e⟩
        | true =>
          rw [hbb, Bool.true_and] at hall
          rw [hbb] at hgb
          repeat' (first | ((conv => whnf); first | refine ztT ?_ | (refine ztB ?_ ?_ <;> intro _ <;> try (exfalso; omega)) | (refine ztW ?_; clear H; intro _ _ H _) | fail) | (((conv => whnf); refine Cl.mk (hgb _ H.e) ?_); rintro _ _ ⟨rfl, hx⟩; replace H := H.ext hx; clear hx))
          all_goals first | (exfalso; omega) | skip
          exact ⟨i + 1, ⟨at_int (m := ((i + 1 : Nat) : Int)) rfl (w64 (by simp) (by omega) (by omega)), rfl, trivial⟩, rfl, ⟨hlt, hall, H.sel [1] rfl⟩, (show m.length - (i + 1) < m.length - i by omega)⟩
  · repeat' ((conv => whnf); first | refine ztT ?_ | (refine ztB ?_ ?_ <;> intro _ <;> try (exfalso; omega)) | (refine ztW ?_; clear H; intro _ _ H _) | fail)
    all_goals first | (exfalso; omega) | skip
    exact ⟨b_eq (by rw [hall, List.drop_of_length_le (by omega)]; rfl), H.e⟩
end Go.Proofs.YtfnjodpehomgfaaGreatDoor
namespace Go.Proofs.YtfnjodpehomgfaaGreatDoor
open Go Go.Sh Go.Tx
def lvR (kd o : Int) : Nat := if kd = 9 then 1 else if kd = 8 then 2 else if kd = 4 ∧ 0 < levelN (opNm o) then levelN (opNm o) else if kd = 2 ∨ kd = 3 then 9 else 10
theorem lv_sg (kd o : Int) (h4 : kd = 4 → 0 ≤ o ∧ o < 16) : ((sgK kd o).1 ≠ [] ∧ lvR kd o = (sgK kd o).2 + 1 ∧ (sgK kd o).1 = sgS kd o ∧ (sgK kd o).2 < 8) ∨ ((sgK kd o).1 = [] ∧ (sgK kd o).2 = 8 ∧ 9 ≤ lvR kd o ∧ (kd ≠ 8 ∧ kd ≠ 9)) := by
  by_cases h8 : kd = 8
  · subst h8; exact .inl ⟨by show (sgn2 s_andd).1 ≠ []; decide, by show 2 = (sgn2 s_andd).2 + 1; decide, by show (sgn2 s_andd).1 = s_andd; decide, by show (sgn2 s_andd).2 < 8; decide⟩
  by_cases h9 : kd = 9
  · subst h9; exact .inl ⟨by show (sgn2 s_orr).1 ≠ []; decide, by show 1 = (sgn2 s_orr).2 + 1; decide, by show (sgn2 s_orr).1 = s_orr; decide, by show (sgn2 s_orr).2 < 8; decide⟩
  by_cases hk : kd = 4
  · subst hk
    obtain ⟨k, rfl⟩ : ∃ k : Nat, o = (k : Int) := ⟨o.toNat, by have := h4 rfl; omega⟩
    have hk16 : k < 16 := by have := h4 rfl; omega
    have key : ((List.range 16).all fun k => decide (((sgK 4 (k : Int)).1 ≠ [] ∧ lvR 4 (k : Int) = (sgK 4 (k : Int)).2 + 1 ∧ (sgK 4 (k : Int)).1 = sgS 4 (k : Int) ∧ (sgK 4 (k : Int)).2 < 8) ∨ ((sgK 4 (k : Int)).1 = [] ∧ (sgK 4 (k : Int)).2 = 8 ∧ 9 ≤ lvR 4 (k : Int) ∧ ((4 : Int) ≠ 8 ∧ (4 : Int) ≠ 9)))) = true := by decide +kernel
    have := List.all_eq_true.1 key k (List.mem_range.2 hk16)
    simpa only [decide_eq_true_eq] using this
  · have hs : sgK kd o = ([], 8) := by
      unfold sgK sgS
      rw [if_neg h8, if_neg h9, if_neg hk]; rfl
    refine .inr ⟨by rw [hs], by rw [hs], ?_, h8, h9⟩
    unfold lvR
    rw [if_neg h9, if_neg h8, if_neg (fun h => hk h.1)]
    split <;> omega
theorem lv_lt {kd o : Int} (h4 : kd = 4 → 0 ≤ o ∧ o < 16) {n : Nat} (hn : n ≤ 9) : lvR kd o < n ↔ (sgK kd o).2 + 1 < n := by
  rcases lv_sg kd o h4 with ⟨_, h, _⟩ | ⟨_, h, h2, _⟩ <;> omega
theorem lv_ne {kd o : Int} (h4 : kd = 4 → 0 ≤ o ∧ o < 16) : lvR kd o < 9 ↔ (sgK kd o).1 ≠ [] := by
  rcases lv_sg kd o h4 with ⟨h1, h, _, h3⟩ | ⟨h1, h, h2, _⟩
  · exact ⟨fun _ => h1, fun _ => by omega⟩
  · exact ⟨fun h => absurd h (by omega), fun h => absurd h1 h⟩
theorem join_snoc : ∀ {l : List Bs} {x : Bs}, l ≠ [] → joinC (l ++ [x]) = joinC l ++ 44 :: 32 :: x
  | [], _, h => absurd rfl h
  | [a], x, _ => by simp [joinC]
  | a :: b :: r, x, _ => by
    have := join_snoc (l := b :: r) (x := x) (by simp)
    simp only [List.cons_append] at this ⊢
    simp only [joinC]
    rw [this]; simp
theorem join_take (l : List Bs) (i : Nat) : (joinC (l.take i)).length ≤ (joinC l).length := by
  induction l generalizing i with
  | nil => simp [joinC]
  | cons a r ih =>
    cases i with
    | zero => simp [joinC]
    | succ i =>
      cases r with
      | nil => simp
      | cons b r =>
        cases i with
        | zero => simp only [List.take_succ_cons, List.take_zero, joinC, List.length_append]; omega
        | succ i =>
          have := ih (i + 1)
          simp only [List.take_succ_cons] at this ⊢
          simp only [joinC, List.length_append, List.length_cons]
          omega
attribute [local irreducible] Blk Ext RdS
def lvT : ET → Nat
  | .mk kd o _ _ _ _ _ _ => lvR kd o
theorem fmt_r (n : Int) (w : World) (h0 : -9223372036854775808 ≤ n) (h1 : n ≤ 9223372036854775807) (hP : Pow w) : Cl Tryz.prog 138 #[.int .i64 n, .int .i64 10] w (fun v w' => v = .string (bs (Go.Lib.itoa n)) ∧ Ext w w') (fun _ _ => False) := by
  refine ⟨Calls.mono (show Calls Tryz.prog 138 #[.int .i64 n, .int .i64 10] w _ from Any.strconv_FormatInt_10 itoa_lays n h0 h1 w hP) ?_⟩
  rintro e w' ⟨rfl, k, os, rfl⟩
  exact ⟨rfl, ext_grow w k os⟩
theorem op_range {kd o n : Int} {nm cb : Bs} {m : Nat} (h : hdB kd o n nm cb m = true) : kd = 4 → 0 ≤ o ∧ o < 16 := fun h4 => by
  subst h4
  simp [hdB] at h
  exact (opNm_ne o).1 h.1.1.1.2
set_option maxHeartbeats 1000000 in
theorem levelOf_r (kd o n : Int) (nm cb : Bs) (A : Option Addr) (c : Nat) (ks : List ET) (w : World) (h4 : kd = 4 → 0 ≤ o ∧ o < 16) :
    Cl Tryz.prog 135 #[(ET.mk kd o n nm cb A c ks).v] w (fun v w' => v = .int .i64 (lvR kd o : Int) ∧ Ext w w') (fun _ _ => False) := by
  refine calls_ex (args := [.agg #[.int .i64 kd, .int .i64 o, .int .i64 n, .string (bs nm), .string (bs cb), .slice A ks.length c]]) T.ok Tryz.func135 rfl rfl rfl rfl ?_
  have H := Hp.begin nw w
  refine Sq.mk ?_
  ((conv => whnf); refine Al.hp H ?_; clear H; intro p1 _ H _)
  by_cases hk : kd = 4
  · subst hk
    obtain ⟨k, rfl⟩ : ∃ k : Nat, o = (k : Int) := ⟨o.toNat, by have := h4 rfl; omega⟩
    have hk16 : k < 16 := by have := h4 rfl; omega
    obtain ⟨x, hx⟩ : ∃ x, opNames[k]? = some x := ⟨_, List.getElem?_eq_getElem (show k < opNames.length from hk16)⟩
    have hlen : opNames.length = 16 := rfl
    have hop : opNm (k : Int) = x := by unfold opNm; rw [if_pos (by omega), Int.toNat_natCast, hx]; rfl
    repeat' ((conv => whnf); first | refine ztT ?_ | (refine ztB ?_ ?_ <;> intro _ <;> try (exfalso; omega)) | (refine ztW ?_; clear H; intro _ _ H _) | fail)
    all_goals first | (exfalso; omega) | skip
    ((conv => whnf); refine Cl.mk (names_r _) ?_)
    rintro _ w2 ⟨A2, c2, rfl, H'⟩
    replace H := H.fr0 H' (.inl rfl)
    clear H'
    repeat' ((conv => whnf); first | refine ztT ?_ | (refine ztB ?_ ?_ <;> intro _ <;> try (exfalso; omega)) | (refine ztW ?_; clear H; intro _ _ H _) | fail)
    (((conv => whnf); refine Cl.mk (Level_r x _) ?_); rintro _ _ ⟨rfl, hx⟩; replace H := H.ext hx; clear hx)
    have hlv : lvR 4 (k : Int) = if 0 < levelN x then levelN x else 10 := by unfold lvR; rw [hop]; simp
    rw [hlv]
    repeat' ((conv => whnf); first | refine ztT ?_ | (refine ztB ?_ ?_ <;> intro _ <;> try (exfalso; omega)) | (refine ztW ?_; clear H; intro _ _ H _) | fail)
    · refine ⟨iK ?_, H.e⟩
      rw [if_pos (by omega)]
    · refine ⟨iK ?_, H.e⟩
      rw [if_neg (by omega)]; rfl
  · have hlv : lvR kd o = if kd = 9 then 1 else if kd = 8 then 2 else if kd = 2 ∨ kd = 3 then 9 else 10 := by unfold lvR; simp [hk]
    rw [hlv]
    repeat' ((conv => whnf); first | refine ztT ?_ | (refine ztB ?_ ?_ <;> intro _ <;> try (exfalso; omega)) | (refine ztW ?_; clear H; intro _ _ H _) | fail)
    all_goals first | (exfalso; omega) | skip
    all_goals (refine ⟨iK ?_, H.e⟩; simp_all)
set_option maxHeartbeats 1000000 in
theorem signOf_r (kd o n : Int) (nm cb : Bs) (A : Option Addr) (c : Nat) (ks : List ET) (w : World) (h4 : kd = 8 ∨ kd = 9 ∨ kd = 4 ∧ 0 ≤ o ∧ o < 16) :
    Cl Tryz.prog 137 #[(ET.mk kd o n nm cb A c ks).v] w (fun v w' => v = .string (bs (sgS kd o)) ∧ Ext w w') (fun _ _ => False) := by
  refine calls_ex (args := [.agg #[.int .i64 kd, .int .i64 o, .int .i64 n, .string (bs nm), .string (bs cb), .slice A ks.length c]]) T.ok Tryz.func137 rfl rfl rfl rfl ?_
  have H := Hp.begin nw w
  refine Sq.mk ?_
  ((conv => whnf); refine Al.hp H ?_; clear H; intro p1 _ H _)
  rcases h4 with rfl | rfl | ⟨rfl, h0, h1⟩
  · repeat' ((conv => whnf); first | refine ztT ?_ | (refine ztB ?_ ?_ <;> intro _ <;> try (exfalso; omega)) | (refine ztW ?_; clear H; intro _ _ H _) | fail)
    all_goals first | (exfalso; omega) | skip
    exact ⟨rfl, H.e⟩
  · repeat' ((conv => whnf); first | refine ztT ?_ | (refine ztB ?_ ?_ <;> intro _ <;> try (exfalso; omega)) | (refine ztW ?_; clear H; intro _ _ H _) | fail)
    all_goals first | (exfalso; omega) | skip
    exact ⟨rfl, H.e⟩
  · obtain ⟨k, rfl⟩ : ∃ k : Nat, o = (k : Int) := ⟨o.toNat, by omega⟩
    have hk16 : k < 16 := by omega
    obtain ⟨x, hx⟩ : ∃ x, opNames[k]? = some x := ⟨_, List.getElem?_eq_getElem (show k < opNames.length from hk16)⟩
    have hlen : opNames.length = 16 := rfl
    have hop : sgS 4 (k : Int) = x := by
      show opNm (k : Int) = x
      unfold opNm; rw [if_pos (by omega), Int.toNat_natCast, hx]; rfl
    rw [hop]
    repeat' ((conv => whnf); first | refine ztT ?_ | (refine ztB ?_ ?_ <;> intro _ <;> try (exfalso; omega)) | (refine ztW ?_; clear H; intro _ _ H _) | fail)
    all_goals first | (exfalso; omega) | skip
    ((conv => whnf); refine Cl.mk (names_r _) ?_)
    rintro _ w2 ⟨A2, c2, rfl, H'⟩
    replace H := H.fr0 H' (.inl rfl)
    clear H'
    repeat' ((conv => whnf); first | refine ztT ?_ | (refine ztB ?_ ?_ <;> intro _ <;> try (exfalso; omega)) | (refine ztW ?_; clear H; intro _ _ H _) | fail)
    exact ⟨rfl, H.e⟩
def TextC (N : Nat) : Prop := ∀ (t : ET) (w : World), ET.ht t ≤ N → Rp w → ET.Rd w t → exB t.e = true → nE t.e ≤ 2147483648 →
  Cl Tryz.prog 115 #[t.v] w (fun v w' => v = .string (bs (txE t.e)) ∧ Ext w w') (fun _ _ => False)
theorem within_of {N : Nat} (ih : TextC N) (t : ET) (least : Nat) (w : World) (hN : ET.ht t ≤ N) (hG : Rp w) (hR : ET.Rd w t) (hb : exB t.e = true) (hn : nE t.e ≤ 2147483648) (hl : least ≤ 100) :
    Cl Tryz.prog 136 #[t.v, .int .i64 (least : Int)] w (fun v w' => v = .string (bs (par (decide (lvT t < least)) (txE t.e))) ∧ Ext w w') (fun _ _ => False) := by
  have hlen := txE_len _ hb hR.rg
  obtain ⟨kd, o, n, nm, cb, A, c, ks⟩ := t
  have h4 : kd = 4 → 0 ≤ o ∧ o < 16 := by
    have h2 : (exBs (ET.es ks) && hdB kd o n nm cb (ET.es ks).length) = true := hb
    simp only [Bool.and_eq_true] at h2
    exact op_range h2.2
  refine calls_ex (args := [.agg #[.int .i64 kd, .int .i64 o, .int .i64 n, .string (bs nm), .string (bs cb), .slice A ks.length c], .int .i64 (least : Int)]) T.ok Tryz.func136 rfl rfl rfl rfl ?_
  have H := Hp.begin nw w
  refine Sq.mk ?_
  ((conv => whnf); refine Al.hp H ?_; clear H; intro p1 _ H _)
  repeat' ((conv => whnf); first | refine ztT ?_ | (refine ztB ?_ ?_ <;> intro _ <;> try (exfalso; omega)) | (refine ztW ?_; clear H; intro _ _ H _) | fail)
  (((conv => whnf); refine Cl.mk (ih (.mk kd o n nm cb A c ks) _ hN (hG.ext H.e) (hR.ext H.e) hb hn) ?_); rintro _ _ ⟨rfl, hx⟩; replace H := H.ext hx; clear hx)
  repeat' ((conv => whnf); first | refine ztT ?_ | (refine ztB ?_ ?_ <;> intro _ <;> try (exfalso; omega)) | (refine ztW ?_; clear H; intro _ _ H _) | fail)
  (((conv => whnf); refine Cl.mk (levelOf_r kd o n nm cb A c ks _ h4) ?_); rintro _ _ ⟨rfl, hx⟩; replace H := H.ext hx; clear hx)
  generalize txE (ET.e (.mk kd o n nm cb A c ks)) = s at *
  show _
  by_cases hlt : lvR kd o < least
  · have hp : par (decide (lvT (.mk kd o n nm cb A c ks) < least)) s = 40 :: (s ++ [41]) := by show par (decide (lvR kd o < least)) s = _; unfold par; rw [if_pos (decide_eq_true hlt)]
    rw [hp]
    repeat' ((conv => whnf); first | refine ztT ?_ | (refine ztB ?_ ?_ <;> intro _ <;> try (exfalso; omega)) | (refine ztW ?_; clear H; intro _ _ H _) | fail)
    all_goals first | (exfalso; omega) | skip
    refine Sm.cat (l := [40]) (by simp only [List.length_cons, List.length_nil]; omega) ?_
    repeat' ((conv => whnf); first | refine ztT ?_ | (refine ztB ?_ ?_ <;> intro _ <;> try (exfalso; omega)) | (refine ztW ?_; clear H; intro _ _ H _) | fail)
    refine Sm.cat (l := [40] ++ s) (m := [41]) (by simp only [List.length_append, List.length_cons, List.length_nil]; omega) ?_
    repeat' ((conv => whnf); first | refine ztT ?_ | (refine ztB ?_ ?_ <;> intro _ <;> try (exfalso; omega)) | (refine ztW ?_; clear H; intro _ _ H _) | fail)
    exact ⟨rfl, H.e⟩
  · have hp : par (decide (lvT (.mk kd o n nm cb A c ks) < least)) s = s := by show par (decide (lvR kd o < least)) s = _; unfold par; rw [if_neg (by rw [decide_eq_true_eq]; exact hlt)]
    rw [hp]
    repeat' ((conv => whnf); first | refine ztT ?_ | (refine ztB ?_ ?_ <;> intro _ <;> try (exfalso; omega)) | (refine ztW ?_; clear H; intro _ _ H _) | fail)
    all_goals first | (exfalso; omega) | skip
    exact ⟨rfl, H.e⟩
set_option maxHeartbeats 1000000 in
theorem row_of {N : Nat} (ih : TextC N) (A : Option Addr) (c : Nat) (ks : List ET) (w : World) (hN : ET.hts ks ≤ N) (hG : Rp w) (hr : RdS ET.enc 6 w A ks) (hrs : ET.Rds w ks) (hlen : ks.length ≤ 9000000) (hb : exBs (ET.es ks) = true) (hn : nEs (ET.es ks) ≤ 2147483648) :
    Cl Tryz.prog 139 #[.slice A ks.length c] w (fun v w' => v = .string (bs (joinC (txEs (ET.es ks)))) ∧ Ext w w') (fun _ _ => False) := by
  refine calls_ex (args := [.slice A ks.length c]) T.ok Tryz.func139 rfl rfl rfl rfl ?_
  have H := Hp.begin nw w
  rw [txEs_es]
  have hjl := joinC_len (txEs (ET.es ks))
  have htl := txEs_len (ET.es ks) hb hrs.rg
  have hsum : ((txEs (ET.es ks)).map (fun x => x.length + 2)).sum ≤ ((txEs (ET.es ks)).map (fun x => x.length + 4)).sum := by
    clear hjl htl
    induction txEs (ET.es ks) with
    | nil => simp
    | cons x r ih => simp only [List.map_cons, List.sum_cons]; omega
  rw [txEs_es] at hjl htl hsum
  have hJ : (joinC (ks.map fun t => txE t.e)).length ≤ 171798691840 := by omega
  clear hjl htl hsum
  have hjt := join_take (ks.map fun t => txE t.e)
  repeat' ((conv => whnf); first | refine ztT ?_ | (refine ztB ?_ ?_ <;> intro _ <;> try (exfalso; omega)) | (refine ztW ?_; clear H; intro _ _ H _) | fail)
  refine Lp.g0 T.ok (σ := Nat) (fun i => [(4, .int .i64 (i : Int)), (3, .string (bs (joinC ((ks.map fun t => txE t.e).take i)))), (0, .slice A ks.length c)])
    (fun i w' => i ≤ ks.length ∧ Hp nw w w' []) (fun i _ => ks.length - i) 0 rfl ⟨rfl, rfl, rfl, trivial⟩ ⟨Nat.zero_le _, H⟩ ?_
  clear H
  rintro i w5 ⟨hi, H⟩
  have hil : ((ks.map fun t => txE t.e).take i).length = i := by rw [List.length_take, List.length_map]; omega
  by_cases hlt : i < ks.length
  · obtain ⟨x, hx⟩ : ∃ x, ks[i]? = some x := ⟨_, List.getElem?_eq_getElem hlt⟩
    have hr1 := RdS.from H.e hr
    have hm := List.mem_of_getElem? hx
    have hxh := ET.ht_mem hm
    have hxr := ET.rds_mem hm hrs
    obtain ⟨hxb, hxn⟩ := exBs_mem hb hm
    have htk : (ks.map fun t => txE t.e).take (i + 1) = (ks.map fun t => txE t.e).take i ++ [txE x.e] := by
      rw [List.take_succ_eq_append_getElem (by simpa using hlt)]
      congr 1
      obtain ⟨g1, g2⟩ := List.getElem?_eq_some_iff.1 hx
      simp [g2]
    have hj1 := hjt i
    have hxl := txE_len _ hxb hxr.rg
    obtain ⟨kx, ox, nx, mx, cx, Ax, cpx, lx⟩ := x
    by_cases hi0 : i = 0
    · subst hi0
      repeat' ((conv => whnf); first | refine ztT ?_ | (refine ztB ?_ ?_ <;> intro _ <;> try (exfalso; omega)) | (refine ztW ?_; clear H; intro _ _ H _) | fail)
      all_goals first | (exfalso; omega) | skip
      (((conv => whnf); refine Cl.mk (ih (.mk kx ox nx mx cx Ax cpx lx) _ (by omega) (hG.ext H.e) (hxr.ext H.e) hxb (by omega)) ?_); rintro _ _ ⟨rfl, hx⟩; replace H := H.ext hx; clear hx)
      repeat' ((conv => whnf); first | refine ztT ?_ | (refine ztB ?_ ?_ <;> intro _ <;> try (exfalso; omega)) | (refine ztW ?_; clear H; intro _ _ H _) | fail)
      refine Sm.cat (by omega) ?_
      repeat' ((conv => whnf); first | refine ztT ?_ | (refine ztB ?_ ?_ <;> intro _ <;> try (exfalso; omega)) | (refine ztW ?_; clear H; intro _ _ H _) | fail)
      refine ⟨0 + 1, ⟨at_int (m := ((0 + 1 : Nat) : Int)) rfl (w64 (by simp) (by omega) (by omega)), ?_, rfl, trivial⟩, rfl, ⟨hlt, H⟩, (show ks.length - (0 + 1) < ks.length - 0 by omega)⟩
      rw [htk]; rfl
    · have hne : (ks.map fun t => txE t.e).take i ≠ [] := fun h => by rw [h] at hil; simp at hil; omega
      repeat' ((conv => whnf); first | refine ztT ?_ | (refine ztB ?_ ?_ <;> intro _ <;> try (exfalso; omega)) | (refine ztW ?_; clear H; intro _ _ H _) | fail)
      all_goals first | (exfalso; omega) | skip
      refine Sm.cat (m := [44, 32]) (by simp only [List.length_cons, List.length_nil]; omega) ?_
      repeat' ((conv => whnf); first | refine ztT ?_ | (refine ztB ?_ ?_ <;> intro _ <;> try (exfalso; omega)) | (refine ztW ?_; clear H; intro _ _ H _) | fail)
      (((conv => whnf); refine Cl.mk (ih (.mk kx ox nx mx cx Ax cpx lx) _ (by omega) (hG.ext H.e) (hxr.ext H.e) hxb (by omega)) ?_); rintro _ _ ⟨rfl, hx⟩; replace H := H.ext hx; clear hx)
      repeat' ((conv => whnf); first | refine ztT ?_ | (refine ztB ?_ ?_ <;> intro _ <;> try (exfalso; omega)) | (refine ztW ?_; clear H; intro _ _ H _) | fail)
      refine Sm.cat (by simp only [List.length_append, List.length_cons, List.length_nil]; omega) ?_
      repeat' ((conv => whnf); first | refine ztT ?_ | (refine ztB ?_ ?_ <;> intro _ <;> try (exfalso; omega)) | (refine ztW ?_; clear H; intro _ _ H _) | fail)
      refine ⟨i + 1, ⟨at_int (m := ((i + 1 : Nat) : Int)) rfl (w64 (by simp) (by omega) (by omega)), ?_, rfl, trivial⟩, rfl, ⟨hlt, H⟩, (show ks.length - (i + 1) < ks.length - i by omega)⟩
      rw [htk, join_snoc hne]
      simp only [List.append_assoc, List.cons_append, List.nil_append]
      rfl
  · repeat' ((conv => whnf); first | refine ztT ?_ | (refine ztB ?_ ?_ <;> intro _ <;> try (exfalso; omega)) | (refine ztW ?_; clear H; intro _ _ H _) | fail)
    all_goals first | (exfalso; omega) | skip
    refine ⟨?_, H.e⟩
    rw [List.take_of_length_le (by rw [List.length_map]; omega)]
    rfl
end Go.Proofs.YtfnjodpehomgfaaGreatDoor
namespace Go.Proofs.YtfnjodpehomgfaaGreatDoor
open Go Go.Sh Go.Tx
attribute [local irreducible] Blk Ext RdS
theorem lvT_rng {t : ET} (hb : exB t.e = true) : match t with | .mk kd o _ _ _ _ _ _ => kd = 4 → 0 ≤ o ∧ o < 16 := by
  obtain ⟨kd, o, n, nm, cb, A, c, ks⟩ := t
  have h2 : (exBs (ET.es ks) && hdB kd o n nm cb (ET.es ks).length) = true := hb
  simp only [Bool.and_eq_true] at h2
  exact op_range h2.2
theorem lvT_lt {t : ET} (hb : exB t.e = true) {n : Nat} (hn : n ≤ 9) : lvT t < n ↔ (sgE t.e).2 + 1 < n := by
  have h := lvT_rng hb
  obtain ⟨kd, o, _, _, _, _, _, _⟩ := t
  exact lv_lt h hn
theorem lvT_ne {t : ET} (hb : exB t.e = true) : lvT t < 9 ↔ (sgE t.e).1 ≠ [] := by
  have h := lvT_rng hb
  obtain ⟨kd, o, _, _, _, _, _, _⟩ := t
  exact lv_ne h
theorem sg_kinds {kd o : Int} (h : (sgK kd o).1 ≠ []) : kd = 8 ∨ kd = 9 ∨ kd = 4 := by
  by_cases h8 : kd = 8
  · exact .inl h8
  · by_cases h9 : kd = 9
    · exact .inr (.inl h9)
    · by_cases h4 : kd = 4
      · exact .inr (.inr h4)
      · exfalso
        apply h
        unfold sgK sgS
        rw [if_neg h8, if_neg h9, if_neg h4]; rfl
set_option maxRecDepth 100000 in
set_option maxHeartbeats 8000000 in
theorem text_r : ∀ N, TextC N
  | 0, t, w, hN, _, _, _, _ => by cases t; simp [ET.ht] at hN
  | N + 1, .mk kd o n nm cb A c ks, w, hN, hG, hR, hb, hn => by
    have ih := text_r N
    have hlen := txE_len _ hb hR.rg
    obtain ⟨hr, hrs, hkl, hnm, hcb, hn0, hn1⟩ := hR
    simp only [ET.ht] at hN
    have hes := ET.es_len ks
    have hbk : exBs (ET.es ks) = true ∧ hdB kd o n nm cb ks.length = true := by
      have : (exBs (ET.es ks) && hdB kd o n nm cb (ET.es ks).length) = true := hb
      rw [hes] at this
      simpa using this
    have hnk : nEs (ET.es ks) + 1 ≤ 2147483648 := hn
    obtain ⟨hbs, hhd⟩ := hbk
    have h4 := op_range hhd
    have hkid : ∀ i x, ks[i]? = some x → ET.ht x ≤ N ∧ ET.Rd w x ∧ exB x.e = true ∧ nE x.e ≤ 2147483648 ∧ (txE x.e).length ≤ 171798691840 := fun i x hx => by
      have hm := List.mem_of_getElem? hx
      have h1 := ET.ht_mem hm
      have h2 := ET.rds_mem hm hrs
      obtain ⟨h3, h4⟩ := exBs_mem hbs hm
      have h5 := txE_len _ h3 h2.rg
      exact ⟨by omega, h2, h3, by omega, by omega⟩
    have hx : txE (ET.e (.mk kd o n nm cb A c ks)) = txN kd o n nm cb (ET.es ks) (txEs (ET.es ks)) := rfl
    have hsl := sgK_len kd o
    have hol := opNm_len o
    rw [hx] at hlen
    have hlen2 : (txN kd o n nm cb (ET.es ks) (txEs (ET.es ks))).length ≤ 171798691840 := by omega
    clear hlen hx
    have hgoal : ∀ v : Value, v = .string (bs (txN kd o n nm cb (ET.es ks) (txEs (ET.es ks)))) → v = .string (bs (txE (ET.e (.mk kd o n nm cb A c ks)))) := fun v h => h
    refine calls_ex (args := [.agg #[.int .i64 kd, .int .i64 o, .int .i64 n, .string (bs nm), .string (bs cb), .slice A ks.length c]]) T.ok Tryz.func115 rfl rfl rfl rfl ?_
    have H := Hp.begin nw w
    refine Sq.mk ?_
    ((conv => whnf); refine Al.hp H ?_; clear H; intro p1 _ H _)
    repeat' ((conv => whnf); first | refine ztT ?_ | (refine ztB ?_ ?_ <;> intro _ <;> try (exfalso; omega)) | (refine ztW ?_; clear H; intro _ _ H _) | fail)
    (((conv => whnf); refine Cl.mk (levelOf_r kd o n nm cb A c ks _ h4) ?_); rintro _ _ ⟨rfl, hx⟩; replace H := H.ext hx; clear hx)
    rcases lv_sg kd o h4 with ⟨hne, hlv, hsS, hl8⟩ | ⟨hne0, hlv8, hge, hk8, hk9⟩
    · have h2 := kids_two hhd hne
      obtain ⟨a, ha⟩ : ∃ x, ks[0]? = some x := ⟨_, List.getElem?_eq_getElem (by omega)⟩
      obtain ⟨b, hb2⟩ : ∃ x, ks[1]? = some x := ⟨_, List.getElem?_eq_getElem (by omega)⟩
      obtain ⟨a1, a2, a3, a4, a5⟩ := hkid 0 a ha
      obtain ⟨b1, b2, b3, b4, b5⟩ := hkid 1 b hb2
      obtain ⟨ga1, ga2⟩ := es_at ha
      obtain ⟨gb1, gb2⟩ := es_at hb2
      have hda : decide (lvT a < lvR kd o) = decide ((sgE a.e).2 < (sgK kd o).2) := decide_eq_decide.2 (by rw [lvT_lt a3 (by omega)]; omega)
      have hdb : decide (lvT b < lvR kd o + 1) = decide ((sgE b.e).2 ≤ (sgK kd o).2) := decide_eq_decide.2 (by rw [lvT_lt b3 (by omega)]; omega)
      have htx : txN kd o n nm cb (ET.es ks) (txEs (ET.es ks)) = par (decide ((sgE a.e).2 < (sgK kd o).2)) (txE a.e) ++ (32 :: ((sgK kd o).1 ++ 32 :: par (decide ((sgE b.e).2 ≤ (sgK kd o).2)) (txE b.e))) := by
        unfold txN
        rw [if_pos hne, ga1, ga2, gb1, gb2]
      rw [htx] at hgoal
      have hw1 : IntKind.i64.wrap ((lvR kd o : Int) + 1) = ((lvR kd o + 1 : Nat) : Int) := w64 rfl (by omega) (by omega)
      have hwb := fun w' (e : Ext w w') => within_of ih b (lvR kd o + 1) w' b1 (hG.ext e) (b2.ext e) b3 b4 (by omega)
      rw [← hw1, hdb] at hwb
      have hwa := fun w' (e : Ext w w') => within_of ih a (lvR kd o) w' a1 (hG.ext e) (a2.ext e) a3 a4 (by omega)
      rw [hda] at hwa
      have hso := fun w' => signOf_r kd o n nm cb A c ks w' (by
        rcases sg_kinds hne with h | h | h
        · exact .inl h
        · exact .inr (.inl h)
        · exact .inr (.inr ⟨h, h4 h⟩))
      rw [← hsS] at hso
      have hpa := par_len (decide ((sgE a.e).2 < (sgK kd o).2)) (txE a.e)
      have hpb := par_len (decide ((sgE b.e).2 ≤ (sgK kd o).2)) (txE b.e)
      generalize par (decide ((sgE a.e).2 < (sgK kd o).2)) (txE a.e) = ta at *
      generalize par (decide ((sgE b.e).2 ≤ (sgK kd o).2)) (txE b.e) = tb at *
      generalize (sgK kd o).1 = sg at *
      have hr1 := RdS.from H.e hr
      repeat' ((conv => whnf); first | refine ztT ?_ | (refine ztB ?_ ?_ <;> intro _ <;> try (exfalso; omega)) | (refine ztW ?_; clear H; intro _ _ H _) | fail)
      all_goals first | (exfalso; omega) | skip
      (((conv => whnf); refine Cl.mk (hwa _ H.e) ?_); rintro _ _ ⟨rfl, hx⟩; replace H := H.ext hx; clear hx)
      have hr2 := RdS.from H.e hr
      repeat' ((conv => whnf); first | refine ztT ?_ | (refine ztB ?_ ?_ <;> intro _ <;> try (exfalso; omega)) | (refine ztW ?_; clear H; intro _ _ H _) | fail)
      (((conv => whnf); refine Cl.mk (hwb _ H.e) ?_); rintro _ _ ⟨rfl, hx⟩; replace H := H.ext hx; clear hx)
      repeat' ((conv => whnf); first | refine ztT ?_ | (refine ztB ?_ ?_ <;> intro _ <;> try (exfalso; omega)) | (refine ztW ?_; clear H; intro _ _ H _) | fail)
      refine Sm.cat (l := ta) (m := [32]) (by simp only [List.length_cons, List.length_nil]; omega) ?_
      repeat' ((conv => whnf); first | refine ztT ?_ | (refine ztB ?_ ?_ <;> intro _ <;> try (exfalso; omega)) | (refine ztW ?_; clear H; intro _ _ H _) | fail)
      (((conv => whnf); refine Cl.mk (hso _) ?_); rintro _ _ ⟨rfl, hx⟩; replace H := H.ext hx; clear hx)
      repeat' ((conv => whnf); first | refine ztT ?_ | (refine ztB ?_ ?_ <;> intro _ <;> try (exfalso; omega)) | (refine ztW ?_; clear H; intro _ _ H _) | fail)
      refine Sm.cat (l := ta ++ [32]) (m := sg) (by simp only [List.length_append, List.length_cons, List.length_nil]; omega) ?_
      repeat' ((conv => whnf); first | refine ztT ?_ | (refine ztB ?_ ?_ <;> intro _ <;> try (exfalso; omega)) | (refine ztW ?_; clear H; intro _ _ H _) | fail)
      refine Sm.cat (l := ta ++ [32] ++ sg) (m := [32]) (by simp only [List.length_append, List.length_cons, List.length_nil]; omega) ?_
      repeat' ((conv => whnf); first | refine ztT ?_ | (refine ztB ?_ ?_ <;> intro _ <;> try (exfalso; omega)) | (refine ztW ?_; clear H; intro _ _ H _) | fail)
      refine Sm.cat (l := ta ++ [32] ++ sg ++ [32]) (m := tb) (by simp only [List.length_append, List.length_cons, List.length_nil]; omega) ?_
      repeat' ((conv => whnf); first | refine ztT ?_ | (refine ztB ?_ ?_ <;> intro _ <;> try (exfalso; omega)) | (refine ztW ?_; clear H; intro _ _ H _) | fail)
      refine ⟨hgoal _ ?_, H.e⟩
      simp only [List.append_assoc, List.cons_append, List.nil_append]
      rfl
    · have hne : ¬ (sgK kd o).1 ≠ [] := by rw [hne0]; simp
      have hrw : ∀ w', Ext w w' → Cl Tryz.prog 139 #[.slice A ks.length c] w' (fun v w'' => v = .string (bs (joinC (txEs (ET.es ks)))) ∧ Ext w' w'') (fun _ _ => False) := fun w' e => row_of ih A c ks w' (by omega) (hG.ext e) (RdS.from e hr) (hrs.ext e) hkl hbs (by omega)
      unfold txN at hgoal hlen2
      rw [if_neg hne] at hgoal hlen2
      by_cases k0 : kd = 0
      · rw [if_pos k0] at hgoal
        repeat' ((conv => whnf); first | refine ztT ?_ | (refine ztB ?_ ?_ <;> intro _ <;> try (exfalso; omega)) | (refine ztW ?_; clear H; intro _ _ H _) | fail)
        all_goals first | (exfalso; omega) | skip
        (((conv => whnf); refine Cl.mk (fmt_r n _ hn0 hn1 (hG.ext H.e).pw) ?_); rintro _ _ ⟨rfl, hx⟩; replace H := H.ext hx; clear hx)
        repeat' ((conv => whnf); first | refine ztT ?_ | (refine ztB ?_ ?_ <;> intro _ <;> try (exfalso; omega)) | (refine ztW ?_; clear H; intro _ _ H _) | fail)
        exact ⟨hgoal _ rfl, H.e⟩
      rw [if_neg k0] at hgoal hlen2
      by_cases k1 : kd = 1
      · rw [if_pos k1] at hgoal
        repeat' ((conv => whnf); first | refine ztT ?_ | (refine ztB ?_ ?_ <;> intro _ <;> try (exfalso; omega)) | (refine ztW ?_; clear H; intro _ _ H _) | fail)
        all_goals first | (exfalso; omega) | skip
        exact ⟨hgoal _ rfl, H.e⟩
      rw [if_neg k1] at hgoal hlen2
      by_cases k2 : kd = 2
      · rw [if_pos k2] at hgoal
        have hm : ks.length = 1 := by simp [hdB, k2] at hhd; exact hhd.1.1.1.1
        obtain ⟨a, ha⟩ : ∃ x, ks[0]? = some x := ⟨_, List.getElem?_eq_getElem (by omega)⟩
        obtain ⟨a1, a2, a3, a4, a5⟩ := hkid 0 a ha
        obtain ⟨ga1, ga2⟩ := es_at ha
        rw [ga1, ga2] at hgoal
        have hwa := fun w' (e : Ext w w') => within_of ih a 9 w' a1 (hG.ext e) (a2.ext e) a3 a4 (by omega)
        rw [show decide (lvT a < 9) = decide ((sgE a.e).1 ≠ []) from decide_eq_decide.2 (lvT_ne a3)] at hwa
        have hta := fun w' (e : Ext w w') => ih a w' a1 (hG.ext e) (a2.ext e) a3 a4
        have hpa := par_len (decide ((sgE a.e).1 ≠ [])) (txE a.e)
        have hposn : ∀ kx nx : Int, posB a.e = (decide (kx = 0) && decide (0 ≤ nx)) → (kx = 0 ∧ 0 ≤ nx → par (decide ((sgE a.e).1 ≠ []) || posB a.e) (txE a.e) = 40 :: (txE a.e ++ [41])) ∧ (¬ (kx = 0 ∧ 0 ≤ nx) → par (decide ((sgE a.e).1 ≠ []) || posB a.e) (txE a.e) = par (decide ((sgE a.e).1 ≠ [])) (txE a.e)) := fun kx nx hp => by
          rw [hp]
          refine ⟨fun h => ?_, fun h => ?_⟩
          · rw [decide_eq_true h.1, decide_eq_true h.2, Bool.and_self, Bool.or_true]; rfl
          · have : (decide (kx = 0) && decide (0 ≤ nx)) = false := by
              rw [Bool.and_eq_false_iff]
              by_cases h0 : kx = 0
              · exact .inr (decide_eq_false fun h1 => h ⟨h0, h1⟩)
              · exact .inl (decide_eq_false h0)
            rw [this, Bool.or_false]
        obtain ⟨kx, ox, nx, mx, cx, Ax, cpx, lx⟩ := a
        obtain ⟨hp1, hp2⟩ := hposn kx nx rfl
        clear hposn
        generalize txE (ET.e (.mk kx ox nx mx cx Ax cpx lx)) = ta at *
        have hr1 := RdS.from H.e hr
        repeat' ((conv => whnf); first | refine ztT ?_ | (refine ztB ?_ ?_ <;> intro _ <;> try (exfalso; omega)) | (refine ztW ?_; clear H; intro _ _ H _) | fail)
        all_goals first | (exfalso; omega) | skip
        ((conv => whnf); refine Al.hp H ?_; clear H; intro p9 _ H _)
        by_cases hpos : kx = 0 ∧ 0 ≤ nx
        · rw [hp1 hpos] at hgoal
          obtain ⟨hx0, hnn⟩ := hpos
          repeat' ((conv => whnf); first | refine ztT ?_ | (refine ztB ?_ ?_ <;> intro _ <;> try (exfalso; omega)) | (refine ztW ?_; clear H; intro _ _ H _) | fail)
          all_goals first | (exfalso; omega) | skip
          (((conv => whnf); refine Cl.mk (hta _ H.e) ?_); rintro _ _ ⟨rfl, hx⟩; replace H := H.ext hx; clear hx)
          repeat' ((conv => whnf); first | refine ztT ?_ | (refine ztB ?_ ?_ <;> intro _ <;> try (exfalso; omega)) | (refine ztW ?_; clear H; intro _ _ H _) | fail)
          refine Sm.cat (l := [45, 40]) (m := ta) (by simp only [List.length_cons, List.length_nil]; omega) ?_
          repeat' ((conv => whnf); first | refine ztT ?_ | (refine ztB ?_ ?_ <;> intro _ <;> try (exfalso; omega)) | (refine ztW ?_; clear H; intro _ _ H _) | fail)
          refine Sm.cat (l := [45, 40] ++ ta) (m := [41]) (by simp only [List.length_append, List.length_cons, List.length_nil]; omega) ?_
          repeat' ((conv => whnf); first | refine ztT ?_ | (refine ztB ?_ ?_ <;> intro _ <;> try (exfalso; omega)) | (refine ztW ?_; clear H; intro _ _ H _) | fail)
          exact ⟨hgoal _ rfl, H.e⟩
        · rw [hp2 hpos] at hgoal
          generalize par (decide ((sgE (ET.e (.mk kx ox nx mx cx Ax cpx lx))).1 ≠ [])) ta = tp at *
          repeat' ((conv => whnf); first | refine ztT ?_ | (refine ztB ?_ ?_ <;> intro _ <;> try (exfalso; omega)) | (refine ztW ?_; clear H; intro _ _ H _) | fail)
          all_goals first | (exfalso; omega) | skip
          all_goals
            (((conv => whnf); refine Cl.mk (hwa _ H.e) ?_); rintro _ _ ⟨rfl, hx⟩; replace H := H.ext hx; clear hx)
            repeat' ((conv => whnf); first | refine ztT ?_ | (refine ztB ?_ ?_ <;> intro _ <;> try (exfalso; omega)) | (refine ztW ?_; clear H; intro _ _ H _) | fail)
            refine Sm.cat (l := [45]) (m := tp) (by simp only [List.length_cons, List.length_nil]; omega) ?_
            repeat' ((conv => whnf); first | refine ztT ?_ | (refine ztB ?_ ?_ <;> intro _ <;> try (exfalso; omega)) | (refine ztW ?_; clear H; intro _ _ H _) | fail)
            exact ⟨hgoal _ rfl, H.e⟩
      rw [if_neg k2] at hgoal hlen2
      by_cases k3 : kd = 3
      · rw [if_pos k3] at hgoal
        have hm : ks.length = 1 := by simp [hdB, k3] at hhd; exact hhd.1.1.1.1
        obtain ⟨a, ha⟩ : ∃ x, ks[0]? = some x := ⟨_, List.getElem?_eq_getElem (by omega)⟩
        obtain ⟨a1, a2, a3, a4, a5⟩ := hkid 0 a ha
        obtain ⟨ga1, ga2⟩ := es_at ha
        rw [ga1, ga2] at hgoal
        have hwa := fun w' (e : Ext w w') => within_of ih a 9 w' a1 (hG.ext e) (a2.ext e) a3 a4 (by omega)
        rw [show decide (lvT a < 9) = decide ((sgE a.e).1 ≠ []) from decide_eq_decide.2 (lvT_ne a3)] at hwa
        have hpa := par_len (decide ((sgE a.e).1 ≠ [])) (txE a.e)
        generalize par (decide ((sgE a.e).1 ≠ [])) (txE a.e) = tp at *
        have hr1 := RdS.from H.e hr
        repeat' ((conv => whnf); first | refine ztT ?_ | (refine ztB ?_ ?_ <;> intro _ <;> try (exfalso; omega)) | (refine ztW ?_; clear H; intro _ _ H _) | fail)
        all_goals first | (exfalso; omega) | skip
        (((conv => whnf); refine Cl.mk (hwa _ H.e) ?_); rintro _ _ ⟨rfl, hx⟩; replace H := H.ext hx; clear hx)
        repeat' ((conv => whnf); first | refine ztT ?_ | (refine ztB ?_ ?_ <;> intro _ <;> try (exfalso; omega)) | (refine ztW ?_; clear H; intro _ _ H _) | fail)
        refine Sm.cat (l := [33]) (m := tp) (by simp only [List.length_cons, List.length_nil]; omega) ?_
        repeat' ((conv => whnf); first | refine ztT ?_ | (refine ztB ?_ ?_ <;> intro _ <;> try (exfalso; omega)) | (refine ztW ?_; clear H; intro _ _ H _) | fail)
        exact ⟨hgoal _ rfl, H.e⟩
      rw [if_neg k3] at hgoal hlen2
      by_cases k4 : kd = 4
      · rw [if_pos k4] at hgoal hlen2
        simp only [List.length_append, List.length_cons, List.length_nil] at hlen2
        have hso := fun w' => signOf_r kd o n nm cb A c ks w' (.inr (.inr ⟨k4, h4 k4⟩))
        rw [show sgS kd o = opNm o by rw [k4]; rfl] at hso
        repeat' ((conv => whnf); first | refine ztT ?_ | (refine ztB ?_ ?_ <;> intro _ <;> try (exfalso; omega)) | (refine ztW ?_; clear H; intro _ _ H _) | fail)
        all_goals first | (exfalso; omega) | skip
        (conv => whnf)
        refine Dr.tr T.ok mixed (trl [0, 3, 4, 101, 2, 105, 6, 7, 8]) (by kernel_rfl) (fun W w1 hW hmk eT _ => ?_)
        repeat' (first | ((conv => whnf); first | refine ztQ ?_ | (refine ztB ?_ ?_ <;> intro _ <;> try (exfalso; omega)) | fail) | ((conv => whnf); refine QSm.mk hW (fun w' _ => run_cat (by simp; omega) w') ?_))
        replace H := H.ext eT
        ((conv => whnf); refine Cl.mk (hso _) ?_)
        rintro _ w2 ⟨rfl, ex⟩
        replace H := H.ext ex
        refine ⟨hmk _ (Ext.trans eT ex), ?_⟩
        repeat' (first | ((conv => whnf); first | refine ztQ ?_ | (refine ztB ?_ ?_ <;> intro _ <;> try (exfalso; omega)) | fail) | ((conv => whnf); refine QSm.mk hW (fun w' _ => run_cat (by simp; omega) w') ?_))
        ((conv => whnf); refine Cl.mk (hrw _ H.e) ?_)
        rintro _ w3 ⟨rfl, ex2⟩
        replace H := H.ext ex2
        refine ⟨hmk _ (Ext.trans (Ext.trans eT ex) ex2), ?_⟩
        repeat' (first | ((conv => whnf); first | refine ztQ ?_ | (refine ztB ?_ ?_ <;> intro _ <;> try (exfalso; omega)) | fail) | ((conv => whnf); refine QSm.mk hW (fun w' _ => run_cat (by simp; omega) w') ?_))
        repeat' ((conv => whnf); first | refine ztT ?_ | (refine ztB ?_ ?_ <;> intro _ <;> try (exfalso; omega)) | (refine ztW ?_; clear H; intro _ _ H _) | fail)
        refine ⟨hgoal _ ?_, H.e⟩
        simp only [List.append_assoc, List.cons_append, List.nil_append]
        rfl
      rw [if_neg k4] at hgoal hlen2
      by_cases k5 : kd = 5
      · rw [if_pos k5] at hgoal hlen2
        simp only [List.length_append, List.length_cons, List.length_nil] at hlen2
        repeat' ((conv => whnf); first | refine ztT ?_ | (refine ztB ?_ ?_ <;> intro _ <;> try (exfalso; omega)) | (refine ztW ?_; clear H; intro _ _ H _) | fail)
        all_goals first | (exfalso; omega) | skip
        (conv => whnf)
        refine Dr.tr T.ok mixed (trl [0, 1, 2, 3, 4, 105, 6, 7, 8]) (by kernel_rfl) (fun W w1 hW hmk eT _ => ?_)
        repeat' (first | ((conv => whnf); first | refine ztQ ?_ | (refine ztB ?_ ?_ <;> intro _ <;> try (exfalso; omega)) | fail) | ((conv => whnf); refine QSm.mk hW (fun w' _ => run_cat (by simp; omega) w') ?_))
        replace H := H.ext eT
        ((conv => whnf); refine Cl.mk (hrw _ H.e) ?_)
        rintro _ w2 ⟨rfl, ex2⟩
        replace H := H.ext ex2
        refine ⟨hmk _ (Ext.trans eT ex2), ?_⟩
        repeat' (first | ((conv => whnf); first | refine ztQ ?_ | (refine ztB ?_ ?_ <;> intro _ <;> try (exfalso; omega)) | fail) | ((conv => whnf); refine QSm.mk hW (fun w' _ => run_cat (by simp; omega) w') ?_))
        repeat' ((conv => whnf); first | refine ztT ?_ | (refine ztB ?_ ?_ <;> intro _ <;> try (exfalso; omega)) | (refine ztW ?_; clear H; intro _ _ H _) | fail)
        refine ⟨hgoal _ ?_, H.e⟩
        simp only [List.append_assoc, List.cons_append, List.nil_append]
        rfl
      rw [if_neg k5] at hgoal hlen2
      by_cases k6 : kd = 6
      · rw [if_pos k6] at hgoal hlen2
        simp only [List.length_append, List.length_cons, List.length_nil] at hlen2
        repeat' ((conv => whnf); first | refine ztT ?_ | (refine ztB ?_ ?_ <;> intro _ <;> try (exfalso; omega)) | (refine ztW ?_; clear H; intro _ _ H _) | fail)
        all_goals first | (exfalso; omega) | skip
        (conv => whnf)
        refine Dr.tr T.ok mixed (trl [0, 1, 2, 3, 4, 5, 6, 7, 8, 9, 110, 11, 12, 13]) (by kernel_rfl) (fun W w1 hW hmk eT _ => ?_)
        repeat' (first | ((conv => whnf); first | refine ztQ ?_ | (refine ztB ?_ ?_ <;> intro _ <;> try (exfalso; omega)) | fail) | ((conv => whnf); refine QSm.mk hW (fun w' _ => run_cat (by simp; omega) w') ?_))
        replace H := H.ext eT
        ((conv => whnf); refine Cl.mk (hrw _ H.e) ?_)
        rintro _ w2 ⟨rfl, ex2⟩
        replace H := H.ext ex2
        refine ⟨hmk _ (Ext.trans eT ex2), ?_⟩
        repeat' (first | ((conv => whnf); first | refine ztQ ?_ | (refine ztB ?_ ?_ <;> intro _ <;> try (exfalso; omega)) | fail) | ((conv => whnf); refine QSm.mk hW (fun w' _ => run_cat (by simp; omega) w') ?_))
        repeat' ((conv => whnf); first | refine ztT ?_ | (refine ztB ?_ ?_ <;> intro _ <;> try (exfalso; omega)) | (refine ztW ?_; clear H; intro _ _ H _) | fail)
        refine ⟨hgoal _ ?_, H.e⟩
        simp only [List.append_assoc, List.cons_append, List.nil_append]
        rfl
      rw [if_neg k6] at hgoal hlen2
      · have k7 : kd = 7 := by
          simp only [hdB] at hhd
          rw [if_neg k0, if_neg k1, if_neg (by omega), if_neg (by omega), if_neg k4, if_neg k5, if_neg k6] at hhd
          by_cases h7 : kd = 7
          · exact h7
          · rw [if_neg h7] at hhd; cases hhd
        simp only [List.length_append, List.length_cons, List.length_nil] at hlen2
        repeat' ((conv => whnf); first | refine ztT ?_ | (refine ztB ?_ ?_ <;> intro _ <;> try (exfalso; omega)) | (refine ztW ?_; clear H; intro _ _ H _) | fail)
        all_goals first | (exfalso; omega) | skip
        (conv => whnf)
        refine Dr.tr T.ok mixed (trl [0, 1, 2, 3, 4, 5, 106, 7, 8, 9]) (by kernel_rfl) (fun W w1 hW hmk eT _ => ?_)
        repeat' (first | ((conv => whnf); first | refine ztQ ?_ | (refine ztB ?_ ?_ <;> intro _ <;> try (exfalso; omega)) | fail) | ((conv => whnf); refine QSm.mk hW (fun w' _ => run_cat (by simp; omega) w') ?_))
        replace H := H.ext eT
        ((conv => whnf); refine Cl.mk (hrw _ H.e) ?_)
        rintro _ w2 ⟨rfl, ex2⟩
        replace H := H.ext ex2
        refine ⟨hmk _ (Ext.trans eT ex2), ?_⟩
        repeat' (first | ((conv => whnf); first | refine ztQ ?_ | (refine ztB ?_ ?_ <;> intro _ <;> try (exfalso; omega)) | fail) | ((conv => whnf); refine QSm.mk hW (fun w' _ => run_cat (by simp; omega) w') ?_))
        repeat' ((conv => whnf); first | refine ztT ?_ | (refine ztB ?_ ?_ <;> intro _ <;> try (exfalso; omega)) | (refine ztW ?_; clear H; intro _ _ H _) | fail)
        refine ⟨hgoal _ ?_, H.e⟩
        simp only [List.append_assoc, List.cons_append, List.nil_append]
        rfl
end Go.Proofs.YtfnjodpehomgfaaGreatDoor
namespace Go.Proofs.YtfnjodpehomgfaaGreatDoor
open Go Go.Sh Go.Tx
attribute [local irreducible] Blk Ext RdS
theorem tabs_r (n : Nat) (w : World) (hn : n ≤ 1099511627776) : Cl Tryz.prog 93 #[.int .i64 (n : Int)] w (fun v w' => v = .string (bs (tabs n)) ∧ Ext w w') (fun _ _ => False) := by
  refine calls_ex (args := [.int .i64 (n : Int)]) T.ok Tryz.func93 rfl rfl rfl rfl ?_
  have H := Hp.begin nw w
  repeat' ((conv => whnf); first | refine ztT ?_ | (refine ztB ?_ ?_ <;> intro _ <;> try (exfalso; omega)) | (refine ztW ?_; clear H; intro _ _ H _) | fail)
  refine Lp.g0 T.ok (σ := Nat) (fun i => [(4, .int .i64 (i : Int)), (3, .string (bs (tabs i))), (0, .int .i64 (n : Int))])
    (fun i w' => i ≤ n ∧ Hp nw w w' []) (fun i _ => n - i) 0 rfl ⟨rfl, rfl, rfl, trivial⟩ ⟨Nat.zero_le _, H⟩ ?_
  clear H
  rintro i w5 ⟨hi, H⟩
  have htl := tabs_len i
  by_cases hlt : i < n
  · repeat' ((conv => whnf); first | refine ztT ?_ | (refine ztB ?_ ?_ <;> intro _ <;> try (exfalso; omega)) | (refine ztW ?_; clear H; intro _ _ H _) | fail)
    all_goals first | (exfalso; omega) | skip
    refine Sm.cat (l := tabs i) (m := [9]) (by simp only [List.length_cons, List.length_nil]; omega) ?_
    repeat' ((conv => whnf); first | refine ztT ?_ | (refine ztB ?_ ?_ <;> intro _ <;> try (exfalso; omega)) | (refine ztW ?_; clear H; intro _ _ H _) | fail)
    refine ⟨i + 1, ⟨at_int (m := ((i + 1 : Nat) : Int)) rfl (w64 (by simp) (by omega) (by omega)), ?_, rfl, trivial⟩, rfl, ⟨hlt, H⟩, (show n - (i + 1) < n - i by omega)⟩
    show some _ = some (Value.string (bs (tabs (i + 1))))
    unfold tabs
    rw [List.replicate_succ']
  · obtain rfl : i = n := by omega
    repeat' ((conv => whnf); first | refine ztT ?_ | (refine ztB ?_ ?_ <;> intro _ <;> try (exfalso; omega)) | (refine ztW ?_; clear H; intro _ _ H _) | fail)
    all_goals first | (exfalso; omega) | skip
    exact ⟨rfl, H.e⟩
def LineC (N : Nat) : Prop := ∀ (s : SM) (o : Nat) (w : World), SM.ht s ≤ N → Rp w → SM.Rd w s → stB s.e = true → nS s.e ≤ 2147483648 → o + SM.ht s ≤ 1099511627776 → (txS o s.e).length ≤ 140737488355328 →
  Cl Tryz.prog 92 #[s.v, .int .i64 (o : Int)] w (fun v w' => v = .string (bs (txS o s.e)) ∧ Ext w w') (fun _ _ => False)
set_option maxHeartbeats 4000000 in
theorem lines_of {N : Nat} (ih : LineC N) (ls : List SM) (B : Option Addr) (cb o : Nat) (w : World) (hN : SM.hts ls ≤ N) (hG : Rp w) (hr : RdS SM.enc 10 w B ls) (hrs : SM.Rds w ls) (hls : ls.length ≤ 9000000) (hb : stBs (SM.es ls) = true) (hn : nSs (SM.es ls) ≤ 2147483648) (ho : o + SM.hts ls ≤ 1099511627776)
    (hlen : (txB o (SM.es ls)).length ≤ 140737488355328) :
    Cl Tryz.prog 66 #[.slice B ls.length cb, .int .i64 (o : Int)] w (fun v w' => v = .string (bs (txB o (SM.es ls))) ∧ Ext w w') (fun _ _ => False) := by
  refine calls_ex (args := [.slice B ls.length cb, .int .i64 (o : Int)]) T.ok Tryz.func66 rfl rfl rfl rfl ?_
  have H := Hp.begin nw w
  repeat' ((conv => whnf); first | refine ztT ?_ | (refine ztB ?_ ?_ <;> intro _ <;> try (exfalso; omega)) | (refine ztW ?_; clear H; intro _ _ H _) | fail)
  refine Lp.g0 T.ok (σ := Nat) (fun i => [(6, .int .i64 (i : Int)), (5, .string (bs (txB o (SM.es (ls.take i))))), (1, .int .i64 (o : Int)), (0, .slice B ls.length cb)])
    (fun i w' => i ≤ ls.length ∧ Hp nw w w' []) (fun i _ => ls.length - i) 0 rfl ⟨rfl, rfl, rfl, rfl, trivial⟩ ⟨Nat.zero_le _, H⟩ ?_
  clear H
  rintro i w5 ⟨hi, H⟩
  by_cases hlt : i < ls.length
  · obtain ⟨x, hx⟩ : ∃ x, ls[i]? = some x := ⟨_, List.getElem?_eq_getElem hlt⟩
    have hm := List.mem_of_getElem? hx
    have hxh := SM.ht_mem hm
    have hxr := SM.rds_mem hm hrs
    obtain ⟨hxb, hxn⟩ := stBs_mem hb hm
    have hr1 := RdS.from H.e hr
    have het := es_take o hx
    have hle := es_take_le o ls (i + 1)
    have htl := tabs_len o
    rw [het] at hle
    simp only [List.length_append, List.length_cons, List.length_nil] at hle
    have hli := fun w' (e : Ext w w') => ih x o w' (by omega) (hG.ext e) (hxr.ext e) hxb (by omega) (by omega) (by omega)
    obtain ⟨kd, nm, ⟨kx, ox, nx, mx, cx, Ax, cpx, lx⟩, B2, cb2, b2, E2, ce2, f2⟩ := x
    generalize txS o (SM.e (.mk kd nm (.mk kx ox nx mx cx Ax cpx lx) B2 cb2 b2 E2 ce2 f2)) = tx at *
    repeat' ((conv => whnf); first | refine ztT ?_ | (refine ztB ?_ ?_ <;> intro _ <;> try (exfalso; omega)) | (refine ztW ?_; clear H; intro _ _ H _) | fail)
    all_goals first | (exfalso; omega) | skip
    (((conv => whnf); refine Cl.mk (hli _ H.e) ?_); rintro _ _ ⟨rfl, hx⟩; replace H := H.ext hx; clear hx)
    repeat' ((conv => whnf); first | refine ztT ?_ | (refine ztB ?_ ?_ <;> intro _ <;> try (exfalso; omega)) | (refine ztW ?_; clear H; intro _ _ H _) | fail)
    (((conv => whnf); refine Cl.mk (tabs_r o _ (by omega)) ?_); rintro _ _ ⟨rfl, hx⟩; replace H := H.ext hx; clear hx)
    repeat' ((conv => whnf); first | refine ztT ?_ | (refine ztB ?_ ?_ <;> intro _ <;> try (exfalso; omega)) | (refine ztW ?_; clear H; intro _ _ H _) | fail)
    refine Sm.cat (m := tabs o) (by omega) ?_
    repeat' ((conv => whnf); first | refine ztT ?_ | (refine ztB ?_ ?_ <;> intro _ <;> try (exfalso; omega)) | (refine ztW ?_; clear H; intro _ _ H _) | fail)
    refine Sm.cat (m := tx) (by rw [List.length_append]; omega) ?_
    repeat' ((conv => whnf); first | refine ztT ?_ | (refine ztB ?_ ?_ <;> intro _ <;> try (exfalso; omega)) | (refine ztW ?_; clear H; intro _ _ H _) | fail)
    refine Sm.cat (m := [10]) (by simp only [List.length_append, List.length_cons, List.length_nil]; omega) ?_
    repeat' ((conv => whnf); first | refine ztT ?_ | (refine ztB ?_ ?_ <;> intro _ <;> try (exfalso; omega)) | (refine ztW ?_; clear H; intro _ _ H _) | fail)
    refine ⟨i + 1, ⟨at_int (m := ((i + 1 : Nat) : Int)) rfl (w64 (by simp) (by omega) (by omega)), ?_, rfl, rfl, trivial⟩, rfl, ⟨hlt, H⟩, (show ls.length - (i + 1) < ls.length - i by omega)⟩
    rw [het]
    simp only [List.append_assoc]
    rfl
  · repeat' ((conv => whnf); first | refine ztT ?_ | (refine ztB ?_ ?_ <;> intro _ <;> try (exfalso; omega)) | (refine ztW ?_; clear H; intro _ _ H _) | fail)
    all_goals first | (exfalso; omega) | skip
    refine ⟨?_, H.e⟩
    rw [List.take_of_length_le (by omega)]
    rfl
set_option maxRecDepth 100000 in
set_option maxHeartbeats 8000000 in
theorem line_r : ∀ N, LineC N
  | 0, s, o, w, hN, _, _, _, _, _, _ => by cases s; simp [SM.ht] at hN
  | N + 1, .mk kd nm (.mk kx ox nx mx cx Ax cpx lx) B cb bd E ce f, o, w, hN, hG, hR, hb, hn, ho, hlen => by
    have ih := line_r N
    obtain ⟨hre, hrb, hrbs, hrf, hrfs, hlb, hlf, hnm⟩ := hR
    simp only [SM.ht] at hN ho
    have hnn : nE (ET.e (.mk kx ox nx mx cx Ax cpx lx)) + nSs (SM.es bd) + nSs (SM.es f) + 1 ≤ 2147483648 := hn
    have hx : txS o (SM.e (.mk kd nm (.mk kx ox nx mx cx Ax cpx lx) B cb bd E ce f)) = stT kd nm (txE (ET.e (.mk kx ox nx mx cx Ax cpx lx))) o (txB (o + 1) (SM.es bd)) (elseT o (SM.es f) (txH o (SM.es f)) (txB (o + 1) (SM.es f))) := rfl
    rw [hx] at hlen ⊢
    have htl := tabs_len o
    have hbd : stB (SM.e (.mk kd nm (.mk kx ox nx mx cx Ax cpx lx) B cb bd E ce f)) = true := hb
    simp only [SM.e, stB] at hbd
    have hexp : exB (ET.e (.mk kx ox nx mx cx Ax cpx lx)) = true → ∀ w', Ext w w' → Cl Tryz.prog 115 #[ET.v (.mk kx ox nx mx cx Ax cpx lx)] w' (fun v w'' => v = .string (bs (txE (ET.e (.mk kx ox nx mx cx Ax cpx lx)))) ∧ Ext w' w'') (fun _ _ => False) := fun he w' e => text_r _ _ _ (Nat.le_refl _) (hG.ext e) (hre.ext e) he (by omega)
    have hw1 : IntKind.i64.wrap ((o : Int) + 1) = ((o + 1 : Nat) : Int) := w64 rfl (by omega) (by omega)
    have hbody : stBs (SM.es bd) = true → (txB (o + 1) (SM.es bd)).length ≤ 140737488355328 → ∀ w', Ext w w' → Cl Tryz.prog 66 #[.slice B bd.length cb, .int .i64 ((o + 1 : Nat) : Int)] w' (fun v w'' => v = .string (bs (txB (o + 1) (SM.es bd))) ∧ Ext w' w'') (fun _ _ => False) := fun h1 h2 w' e => lines_of ih bd B cb (o + 1) w' (by omega) (hG.ext e) (RdS.from e hrb) (hrbs.ext e) hlb h1 (by omega) (by omega) h2
    have hbody2 : stBs (SM.es f) = true → (txB (o + 1) (SM.es f)).length ≤ 140737488355328 → ∀ w', Ext w w' → Cl Tryz.prog 66 #[.slice E f.length ce, .int .i64 ((o + 1 : Nat) : Int)] w' (fun v w'' => v = .string (bs (txB (o + 1) (SM.es f))) ∧ Ext w' w'') (fun _ _ => False) := fun h1 h2 w' e => lines_of ih f E ce (o + 1) w' (by omega) (hG.ext e) (RdS.from e hrf) (hrfs.ext e) hlf h1 (by omega) (by omega) h2
    rw [← hw1] at hbody hbody2
    have htab := fun w' => tabs_r o w' (by omega)
    have hone : ∀ x, f[0]? = some x → stBs (SM.es f) = true → (txS o x.e).length ≤ 140737488355328 → ∀ w', Ext w w' → Cl Tryz.prog 92 #[x.v, .int .i64 (o : Int)] w' (fun v w'' => v = .string (bs (txS o x.e)) ∧ Ext w' w'') (fun _ _ => False) := fun x hx h1 h2 w' e => by
      have hm := List.mem_of_getElem? hx
      have hxh := SM.ht_mem hm
      have hxr := SM.rds_mem hm hrfs
      obtain ⟨hxb, hxn⟩ := stBs_mem h1 hm
      exact ih x o w' (by omega) (hG.ext e) (hxr.ext e) hxb (by omega) (by omega) h2
    refine calls_ex (args := [.agg #[.int .i64 kd, .string (bs nm), .int .i64 kx, .int .i64 ox, .int .i64 nx, .string (bs mx), .string (bs cx), .slice Ax lx.length cpx, .slice B bd.length cb, .slice E f.length ce], .int .i64 (o : Int)]) T.ok Tryz.func92 rfl rfl rfl rfl ?_
    have H := Hp.begin nw w
    refine Sq.mk ?_
    ((conv => whnf); refine Al.hp H ?_; clear H; intro p1 _ H _)
    clear hx hb
    obtain ⟨e, he⟩ : ∃ e, e = txE (ET.e (.mk kx ox nx mx cx Ax cpx lx)) := ⟨_, rfl⟩
    rw [← he] at hlen hexp ⊢
    obtain ⟨tb, htb⟩ : ∃ x, x = txB (o + 1) (SM.es bd) := ⟨_, rfl⟩
    rw [← htb] at hlen hbody ⊢
    by_cases k0 : kd = 0
    · subst k0
      have hxb : exB (ET.e (.mk kx ox nx mx cx Ax cpx lx)) = true := by simp at hbd; simp [hbd]
      rw [show stT 0 nm e o tb (elseT o (SM.es f) (txH o (SM.es f)) (txB (o + 1) (SM.es f))) = k_let ++ 32 :: (nm ++ 32 :: 61 :: 32 :: (e ++ [59])) from rfl] at hlen ⊢
      simp only [List.length_append, List.length_cons, List.length_nil] at hlen
      repeat' ((conv => whnf); first | refine ztT ?_ | (refine ztB ?_ ?_ <;> intro _ <;> try (exfalso; omega)) | (refine ztW ?_; clear H; intro _ _ H _) | fail)
      all_goals first | (exfalso; omega) | skip
      (conv => whnf)
      refine Dr.tr T.ok mixed (trl [0, 1, 2, 3, 4, 5, 106, 7, 8, 9]) (by kernel_rfl) (fun W w1 hW hmk eT _ => ?_)
      repeat' (first | ((conv => whnf); first | refine ztQ ?_ | (refine ztB ?_ ?_ <;> intro _ <;> try (exfalso; omega)) | fail) | ((conv => whnf); refine QSm.mk hW (fun w' _ => run_cat (by simp; omega) w') ?_))
      replace H := H.ext eT
      ((conv => whnf); refine Cl.mk (hexp hxb _ H.e) ?_)
      rintro _ w2 ⟨rfl, ex2⟩
      replace H := H.ext ex2
      refine ⟨hmk _ (Ext.trans eT ex2), ?_⟩
      repeat' (first | ((conv => whnf); first | refine ztQ ?_ | (refine ztB ?_ ?_ <;> intro _ <;> try (exfalso; omega)) | fail) | ((conv => whnf); refine QSm.mk hW (fun w' _ => run_cat (by simp; omega) w') ?_))
      repeat' ((conv => whnf); first | refine ztT ?_ | (refine ztB ?_ ?_ <;> intro _ <;> try (exfalso; omega)) | (refine ztW ?_; clear H; intro _ _ H _) | fail)
      refine ⟨?_, H.e⟩
      simp only [List.append_assoc, List.cons_append, List.nil_append]
      rfl
    by_cases k1 : kd = 1
    · subst k1
      have hxb : exB (ET.e (.mk kx ox nx mx cx Ax cpx lx)) = true := by simp at hbd; simp [hbd]
      rw [show stT 1 nm e o tb (elseT o (SM.es f) (txH o (SM.es f)) (txB (o + 1) (SM.es f))) = nm ++ 32 :: 61 :: 32 :: (e ++ [59]) from rfl] at hlen ⊢
      simp only [List.length_append, List.length_cons, List.length_nil] at hlen
      repeat' ((conv => whnf); first | refine ztT ?_ | (refine ztB ?_ ?_ <;> intro _ <;> try (exfalso; omega)) | (refine ztW ?_; clear H; intro _ _ H _) | fail)
      all_goals first | (exfalso; omega) | skip
      (conv => whnf)
      refine Dr.tr T.ok mixed (trl [0, 1, 2, 3, 4, 105, 6, 7, 8]) (by kernel_rfl) (fun W w1 hW hmk eT _ => ?_)
      repeat' (first | ((conv => whnf); first | refine ztQ ?_ | (refine ztB ?_ ?_ <;> intro _ <;> try (exfalso; omega)) | fail) | ((conv => whnf); refine QSm.mk hW (fun w' _ => run_cat (by simp; omega) w') ?_))
      replace H := H.ext eT
      ((conv => whnf); refine Cl.mk (hexp hxb _ H.e) ?_)
      rintro _ w2 ⟨rfl, ex2⟩
      replace H := H.ext ex2
      refine ⟨hmk _ (Ext.trans eT ex2), ?_⟩
      repeat' (first | ((conv => whnf); first | refine ztQ ?_ | (refine ztB ?_ ?_ <;> intro _ <;> try (exfalso; omega)) | fail) | ((conv => whnf); refine QSm.mk hW (fun w' _ => run_cat (by simp; omega) w') ?_))
      repeat' ((conv => whnf); first | refine ztT ?_ | (refine ztB ?_ ?_ <;> intro _ <;> try (exfalso; omega)) | (refine ztW ?_; clear H; intro _ _ H _) | fail)
      refine ⟨?_, H.e⟩
      simp only [List.append_assoc, List.cons_append, List.nil_append]
      rfl
    by_cases k2 : kd = 2
    · subst k2
      have hxb : exB (ET.e (.mk kx ox nx mx cx Ax cpx lx)) = true := by simp at hbd; simp [hbd]
      rw [show stT 2 nm e o tb (elseT o (SM.es f) (txH o (SM.es f)) (txB (o + 1) (SM.es f))) = k_spawn ++ 32 :: (nm ++ 32 :: 61 :: 32 :: (e ++ [59])) from rfl] at hlen ⊢
      simp only [List.length_append, List.length_cons, List.length_nil] at hlen
      repeat' ((conv => whnf); first | refine ztT ?_ | (refine ztB ?_ ?_ <;> intro _ <;> try (exfalso; omega)) | (refine ztW ?_; clear H; intro _ _ H _) | fail)
      all_goals first | (exfalso; omega) | skip
      (conv => whnf)
      refine Dr.tr T.ok mixed (trl [0, 1, 2, 3, 4, 5, 106, 7, 8, 9]) (by kernel_rfl) (fun W w1 hW hmk eT _ => ?_)
      repeat' (first | ((conv => whnf); first | refine ztQ ?_ | (refine ztB ?_ ?_ <;> intro _ <;> try (exfalso; omega)) | fail) | ((conv => whnf); refine QSm.mk hW (fun w' _ => run_cat (by simp; omega) w') ?_))
      replace H := H.ext eT
      ((conv => whnf); refine Cl.mk (hexp hxb _ H.e) ?_)
      rintro _ w2 ⟨rfl, ex2⟩
      replace H := H.ext ex2
      refine ⟨hmk _ (Ext.trans eT ex2), ?_⟩
      repeat' (first | ((conv => whnf); first | refine ztQ ?_ | (refine ztB ?_ ?_ <;> intro _ <;> try (exfalso; omega)) | fail) | ((conv => whnf); refine QSm.mk hW (fun w' _ => run_cat (by simp; omega) w') ?_))
      repeat' ((conv => whnf); first | refine ztT ?_ | (refine ztB ?_ ?_ <;> intro _ <;> try (exfalso; omega)) | (refine ztW ?_; clear H; intro _ _ H _) | fail)
      refine ⟨?_, H.e⟩
      simp only [List.append_assoc, List.cons_append, List.nil_append]
      rfl
    by_cases k3 : kd = 3
    · subst k3
      repeat' ((conv => whnf); first | refine ztT ?_ | (refine ztB ?_ ?_ <;> intro _ <;> try (exfalso; omega)) | (refine ztW ?_; clear H; intro _ _ H _) | fail)
      all_goals first | (exfalso; omega) | skip
      exact ⟨rfl, H.e⟩
    by_cases k8 : kd = 8
    · subst k8
      repeat' ((conv => whnf); first | refine ztT ?_ | (refine ztB ?_ ?_ <;> intro _ <;> try (exfalso; omega)) | (refine ztW ?_; clear H; intro _ _ H _) | fail)
      all_goals first | (exfalso; omega) | skip
      exact ⟨rfl, H.e⟩
    by_cases k9 : kd = 9
    · subst k9
      repeat' ((conv => whnf); first | refine ztT ?_ | (refine ztB ?_ ?_ <;> intro _ <;> try (exfalso; omega)) | (refine ztW ?_; clear H; intro _ _ H _) | fail)
      all_goals first | (exfalso; omega) | skip
      exact ⟨rfl, H.e⟩
    by_cases k6 : kd = 6
    · subst k6
      have hxb : exB (ET.e (.mk kx ox nx mx cx Ax cpx lx)) = true := by simp at hbd; simp [hbd]
      rw [show stT 6 nm e o tb (elseT o (SM.es f) (txH o (SM.es f)) (txB (o + 1) (SM.es f))) = k_do ++ 32 :: (e ++ [59]) from rfl] at hlen ⊢
      simp only [List.length_append, List.length_cons, List.length_nil] at hlen
      repeat' ((conv => whnf); first | refine ztT ?_ | (refine ztB ?_ ?_ <;> intro _ <;> try (exfalso; omega)) | (refine ztW ?_; clear H; intro _ _ H _) | fail)
      all_goals first | (exfalso; omega) | skip
      (((conv => whnf); refine Cl.mk (hexp hxb _ H.e) ?_); rintro _ _ ⟨rfl, hx⟩; replace H := H.ext hx; clear hx)
      repeat' ((conv => whnf); first | refine ztT ?_ | (refine ztB ?_ ?_ <;> intro _ <;> try (exfalso; omega)) | (refine ztW ?_; clear H; intro _ _ H _) | fail)
      refine Sm.cat (l := k_do ++ [32]) (m := e) (by simp only [List.length_append, List.length_cons, List.length_nil]; omega) ?_
      repeat' ((conv => whnf); first | refine ztT ?_ | (refine ztB ?_ ?_ <;> intro _ <;> try (exfalso; omega)) | (refine ztW ?_; clear H; intro _ _ H _) | fail)
      refine Sm.cat (l := k_do ++ [32] ++ e) (m := [59]) (by simp only [List.length_append, List.length_cons, List.length_nil]; omega) ?_
      repeat' ((conv => whnf); first | refine ztT ?_ | (refine ztB ?_ ?_ <;> intro _ <;> try (exfalso; omega)) | (refine ztW ?_; clear H; intro _ _ H _) | fail)
      refine ⟨?_, H.e⟩
      simp only [List.append_assoc, List.cons_append, List.nil_append]
      rfl
    by_cases k7 : kd = 7
    · subst k7
      have hxb : exB (ET.e (.mk kx ox nx mx cx Ax cpx lx)) = true := by simp at hbd; simp [hbd]
      rw [show stT 7 nm e o tb (elseT o (SM.es f) (txH o (SM.es f)) (txB (o + 1) (SM.es f))) = k_return ++ 32 :: (e ++ [59]) from rfl] at hlen ⊢
      simp only [List.length_append, List.length_cons, List.length_nil] at hlen
      repeat' ((conv => whnf); first | refine ztT ?_ | (refine ztB ?_ ?_ <;> intro _ <;> try (exfalso; omega)) | (refine ztW ?_; clear H; intro _ _ H _) | fail)
      all_goals first | (exfalso; omega) | skip
      (((conv => whnf); refine Cl.mk (hexp hxb _ H.e) ?_); rintro _ _ ⟨rfl, hx⟩; replace H := H.ext hx; clear hx)
      repeat' ((conv => whnf); first | refine ztT ?_ | (refine ztB ?_ ?_ <;> intro _ <;> try (exfalso; omega)) | (refine ztW ?_; clear H; intro _ _ H _) | fail)
      refine Sm.cat (l := k_return ++ [32]) (m := e) (by simp only [List.length_append, List.length_cons, List.length_nil]; omega) ?_
      repeat' ((conv => whnf); first | refine ztT ?_ | (refine ztB ?_ ?_ <;> intro _ <;> try (exfalso; omega)) | (refine ztW ?_; clear H; intro _ _ H _) | fail)
      refine Sm.cat (l := k_return ++ [32] ++ e) (m := [59]) (by simp only [List.length_append, List.length_cons, List.length_nil]; omega) ?_
      repeat' ((conv => whnf); first | refine ztT ?_ | (refine ztB ?_ ?_ <;> intro _ <;> try (exfalso; omega)) | (refine ztW ?_; clear H; intro _ _ H _) | fail)
      refine ⟨?_, H.e⟩
      simp only [List.append_assoc, List.cons_append, List.nil_append]
      rfl
    by_cases k5 : kd = 5
    · subst k5
      have hxb : exB (ET.e (.mk kx ox nx mx cx Ax cpx lx)) = true ∧ stBs (SM.es bd) = true := by simp at hbd; simp [hbd]
      rw [show stT 5 nm e o tb (elseT o (SM.es f) (txH o (SM.es f)) (txB (o + 1) (SM.es f))) = k_while ++ 32 :: (e ++ 32 :: 123 :: 10 :: (tb ++ (tabs o ++ [125]))) from rfl] at hlen ⊢
      simp only [List.length_append, List.length_cons, List.length_nil] at hlen
      repeat' ((conv => whnf); first | refine ztT ?_ | (refine ztB ?_ ?_ <;> intro _ <;> try (exfalso; omega)) | (refine ztW ?_; clear H; intro _ _ H _) | fail)
      all_goals first | (exfalso; omega) | skip
      (conv => whnf)
      refine Dr.tr T.ok mixed (trl [0, 1, 5, 6, 7, 8, 11, 102, 3, 4, 109, 10, 112, 13, 14, 15]) (by kernel_rfl) (fun W w1 hW hmk eT _ => ?_)
      repeat' (first | ((conv => whnf); first | refine ztQ ?_ | (refine ztB ?_ ?_ <;> intro _ <;> try (exfalso; omega)) | fail) | ((conv => whnf); refine QSm.mk hW (fun w' _ => run_cat (by simp; omega) w') ?_))
      replace H := H.ext eT
      ((conv => whnf); refine Cl.mk (hexp hxb.1 _ H.e) ?_)
      rintro _ w2 ⟨rfl, ex2⟩
      replace H := H.ext ex2
      refine ⟨hmk _ (Ext.trans eT ex2), ?_⟩
      repeat' (first | ((conv => whnf); first | refine ztQ ?_ | (refine ztB ?_ ?_ <;> intro _ <;> try (exfalso; omega)) | fail) | ((conv => whnf); refine QSm.mk hW (fun w' _ => run_cat (by simp; omega) w') ?_))
      ((conv => whnf); refine Cl.mk (hbody hxb.2 (by omega) _ H.e) ?_)
      rintro _ w3 ⟨rfl, ex3⟩
      replace H := H.ext ex3
      refine ⟨hmk _ (Ext.trans (Ext.trans eT ex2) ex3), ?_⟩
      repeat' (first | ((conv => whnf); first | refine ztQ ?_ | (refine ztB ?_ ?_ <;> intro _ <;> try (exfalso; omega)) | fail) | ((conv => whnf); refine QSm.mk hW (fun w' _ => run_cat (by simp; omega) w') ?_))
      ((conv => whnf); refine Cl.mk (htab _) ?_)
      rintro _ w4 ⟨rfl, ex4⟩
      replace H := H.ext ex4
      refine ⟨hmk _ (Ext.trans (Ext.trans (Ext.trans eT ex2) ex3) ex4), ?_⟩
      repeat' (first | ((conv => whnf); first | refine ztQ ?_ | (refine ztB ?_ ?_ <;> intro _ <;> try (exfalso; omega)) | fail) | ((conv => whnf); refine QSm.mk hW (fun w' _ => run_cat (by simp; omega) w') ?_))
      repeat' ((conv => whnf); first | refine ztT ?_ | (refine ztB ?_ ?_ <;> intro _ <;> try (exfalso; omega)) | (refine ztW ?_; clear H; intro _ _ H _) | fail)
      refine ⟨?_, H.e⟩
      simp only [List.append_assoc, List.cons_append, List.nil_append]
      rfl
    have k4 : kd = 4 := by
      rw [if_neg (by omega), if_neg k2, if_neg (by omega), if_neg (by omega), if_neg k5] at hbd
      by_cases h4 : kd = 4
      · exact h4
      · rw [if_neg h4] at hbd; cases hbd
    subst k4
    have hxb : exB (ET.e (.mk kx ox nx mx cx Ax cpx lx)) = true ∧ stBs (SM.es bd) = true ∧ stBs (SM.es f) = true := by simp at hbd; simp [hbd]
    obtain ⟨el, hel⟩ : ∃ x, x = elseT o (SM.es f) (txH o (SM.es f)) (txB (o + 1) (SM.es f)) := ⟨_, rfl⟩
    rw [← hel] at hlen ⊢
    rw [show stT 4 nm e o tb el = k_if ++ 32 :: (e ++ 32 :: 123 :: 10 :: (tb ++ (tabs o ++ 125 :: el))) from rfl] at hlen ⊢
    simp only [List.length_append, List.length_cons, List.length_nil] at hlen
    repeat' ((conv => whnf); first | refine ztT ?_ | (refine ztB ?_ ?_ <;> intro _ <;> try (exfalso; omega)) | (refine ztW ?_; clear H; intro _ _ H _) | fail)
    all_goals first | (exfalso; omega) | skip
    (conv => whnf)
    refine Dr.tr T.ok mixed (trl [0, 1, 5, 6, 7, 8, 11, 102, 3, 4, 109, 10, 112, 13, 14, 15]) (by kernel_rfl) (fun W w1 hW hmk eT _ => ?_)
    repeat' (first | ((conv => whnf); first | refine ztQ ?_ | (refine ztB ?_ ?_ <;> intro _ <;> try (exfalso; omega)) | fail) | ((conv => whnf); refine QSm.mk hW (fun w' _ => run_cat (by simp; omega) w') ?_))
    replace H := H.ext eT
    ((conv => whnf); refine Cl.mk (hexp hxb.1 _ H.e) ?_)
    rintro _ w2 ⟨rfl, ex2⟩
    replace H := H.ext ex2
    refine ⟨hmk _ (Ext.trans eT ex2), ?_⟩
    repeat' (first | ((conv => whnf); first | refine ztQ ?_ | (refine ztB ?_ ?_ <;> intro _ <;> try (exfalso; omega)) | fail) | ((conv => whnf); refine QSm.mk hW (fun w' _ => run_cat (by simp; omega) w') ?_))
    ((conv => whnf); refine Cl.mk (hbody hxb.2.1 (by omega) _ H.e) ?_)
    rintro _ w3 ⟨rfl, ex3⟩
    replace H := H.ext ex3
    refine ⟨hmk _ (Ext.trans (Ext.trans eT ex2) ex3), ?_⟩
    repeat' (first | ((conv => whnf); first | refine ztQ ?_ | (refine ztB ?_ ?_ <;> intro _ <;> try (exfalso; omega)) | fail) | ((conv => whnf); refine QSm.mk hW (fun w' _ => run_cat (by simp; omega) w') ?_))
    ((conv => whnf); refine Cl.mk (htab _) ?_)
    rintro _ w4 ⟨rfl, ex4⟩
    replace H := H.ext ex4
    refine ⟨hmk _ (Ext.trans (Ext.trans (Ext.trans eT ex2) ex3) ex4), ?_⟩
    have hE := H.e
    rcases Nat.eq_zero_or_pos f.length with h0 | hpos
    · repeat' (first | ((conv => whnf); first | refine ztQ ?_ | (refine ztB ?_ ?_ <;> intro _ <;> try (exfalso; omega)) | fail) | ((conv => whnf); refine QSm.mk hW (fun w' _ => run_cat (by simp; omega) w') ?_) | ((conv => whnf); first | refine ztT ?_ | (refine ztB ?_ ?_ <;> intro _ <;> try (exfalso; omega)) | (refine ztW ?_; clear H; intro _ _ H _) | fail))
      all_goals first | (exfalso; omega) | skip
      refine ⟨?_, H.e⟩
      rw [hel, else_nil o _ _ h0]
      simp only [List.append_assoc, List.cons_append, List.nil_append]
      rfl
    obtain ⟨x, hx⟩ : ∃ x, f[0]? = some x := ⟨_, List.getElem?_eq_getElem hpos⟩
    have hr2 := RdS.from H.e hrf
    by_cases h1 : f.length = 1 ∧ x.kd = 4
    · obtain ⟨g1, g2⟩ := else_one o (txH o (SM.es f)) (txB (o + 1) (SM.es f)) hx h1.1 h1.2
      rw [g1, g2] at hel
      rw [hel] at hlen ⊢
      simp only [List.length_append, List.length_cons, List.length_nil] at hlen
      have hli := hone x hx hxb.2.2 (by omega)
      obtain ⟨hf1, hxk⟩ := h1
      obtain ⟨kd2, nm2, ⟨kx2, ox2, nx2, mx2, cx2, Ax2, cpx2, lx2⟩, B2, cb2, b2, E2, ce2, f2⟩ := x
      have hxk : kd2 = 4 := hxk
      generalize txS o (SM.e (.mk kd2 nm2 (.mk kx2 ox2 nx2 mx2 cx2 Ax2 cpx2 lx2) B2 cb2 b2 E2 ce2 f2)) = tx at *
      repeat' (first | ((conv => whnf); first | refine ztQ ?_ | (refine ztB ?_ ?_ <;> intro _ <;> try (exfalso; omega)) | fail) | ((conv => whnf); refine QSm.mk hW (fun w' _ => run_cat (by simp; omega) w') ?_) | ((conv => whnf); first | refine ztT ?_ | (refine ztB ?_ ?_ <;> intro _ <;> try (exfalso; omega)) | (refine ztW ?_; clear H; intro _ _ H _) | fail))
      all_goals first | (exfalso; omega) | skip
      refine Sm.cat (m := [32, 101, 108, 115, 101, 32]) (by simp only [List.length_append, List.length_cons, List.length_nil]; omega) ?_
      repeat' ((conv => whnf); first | refine ztT ?_ | (refine ztB ?_ ?_ <;> intro _ <;> try (exfalso; omega)) | (refine ztW ?_; clear H; intro _ _ H _) | fail)
      (((conv => whnf); refine Cl.mk (hli _ H.e) ?_); rintro _ _ ⟨rfl, hx⟩; replace H := H.ext hx; clear hx)
      repeat' ((conv => whnf); first | refine ztT ?_ | (refine ztB ?_ ?_ <;> intro _ <;> try (exfalso; omega)) | (refine ztW ?_; clear H; intro _ _ H _) | fail)
      refine Sm.cat (m := tx) (by simp only [List.length_append, List.length_cons, List.length_nil]; omega) ?_
      repeat' ((conv => whnf); first | refine ztT ?_ | (refine ztB ?_ ?_ <;> intro _ <;> try (exfalso; omega)) | (refine ztW ?_; clear H; intro _ _ H _) | fail)
      refine ⟨?_, H.e⟩
      simp only [List.append_assoc, List.cons_append, List.nil_append]
      rfl
    · have g1 := else_many o (txH o (SM.es f)) (txB (o + 1) (SM.es f)) hx h1
      rw [g1] at hel
      rw [hel] at hlen ⊢
      simp only [List.length_append, List.length_cons, List.length_nil] at hlen
      have hbd2 := hbody2 hxb.2.2 (by omega)
      have h1' : f.length = 1 → ¬ x.kd = 4 := fun a b => h1 ⟨a, b⟩
      obtain ⟨kd2, nm2, ⟨kx2, ox2, nx2, mx2, cx2, Ax2, cpx2, lx2⟩, B2, cb2, b2, E2, ce2, f2⟩ := x
      have h1' : f.length = 1 → ¬ kd2 = 4 := h1'
      generalize txB (o + 1) (SM.es f) = tf at *
      repeat' (first | ((conv => whnf); first | refine ztQ ?_ | (refine ztB ?_ ?_ <;> intro _ <;> try (exfalso; omega)) | fail) | ((conv => whnf); refine QSm.mk hW (fun w' _ => run_cat (by simp; omega) w') ?_) | ((conv => whnf); first | refine ztT ?_ | (refine ztB ?_ ?_ <;> intro _ <;> try (exfalso; omega)) | (refine ztW ?_; clear H; intro _ _ H _) | fail))
      all_goals first | (exfalso; omega) | skip
      all_goals
        refine Sm.cat (m := [32, 101, 108, 115, 101, 32, 123, 10]) (by simp only [List.length_append, List.length_cons, List.length_nil]; omega) ?_
        repeat' ((conv => whnf); first | refine ztT ?_ | (refine ztB ?_ ?_ <;> intro _ <;> try (exfalso; omega)) | (refine ztW ?_; clear H; intro _ _ H _) | fail)
        (((conv => whnf); refine Cl.mk (hbd2 _ H.e) ?_); rintro _ _ ⟨rfl, hx⟩; replace H := H.ext hx; clear hx)
        repeat' ((conv => whnf); first | refine ztT ?_ | (refine ztB ?_ ?_ <;> intro _ <;> try (exfalso; omega)) | (refine ztW ?_; clear H; intro _ _ H _) | fail)
        refine Sm.cat (m := tf) (by simp only [List.length_append, List.length_cons, List.length_nil]; omega) ?_
        repeat' ((conv => whnf); first | refine ztT ?_ | (refine ztB ?_ ?_ <;> intro _ <;> try (exfalso; omega)) | (refine ztW ?_; clear H; intro _ _ H _) | fail)
        (((conv => whnf); refine Cl.mk (htab _) ?_); rintro _ _ ⟨rfl, hx⟩; replace H := H.ext hx; clear hx)
        repeat' ((conv => whnf); first | refine ztT ?_ | (refine ztB ?_ ?_ <;> intro _ <;> try (exfalso; omega)) | (refine ztW ?_; clear H; intro _ _ H _) | fail)
        refine Sm.cat (m := tabs o) (by simp only [List.length_append, List.length_cons, List.length_nil]; omega) ?_
        repeat' ((conv => whnf); first | refine ztT ?_ | (refine ztB ?_ ?_ <;> intro _ <;> try (exfalso; omega)) | (refine ztW ?_; clear H; intro _ _ H _) | fail)
        refine Sm.cat (m := [125]) (by simp only [List.length_append, List.length_cons, List.length_nil]; omega) ?_
        repeat' ((conv => whnf); first | refine ztT ?_ | (refine ztB ?_ ?_ <;> intro _ <;> try (exfalso; omega)) | (refine ztW ?_; clear H; intro _ _ H _) | fail)
        refine ⟨?_, H.e⟩
        simp only [List.append_assoc, List.cons_append, List.nil_append]
        rfl
end Go.Proofs.YtfnjodpehomgfaaGreatDoor
