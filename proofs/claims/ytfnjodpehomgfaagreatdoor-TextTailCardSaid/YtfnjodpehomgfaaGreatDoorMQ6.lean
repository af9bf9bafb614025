/- own work: TyN, TzO, TyP, TyQ, TzP, TyV, TzQ, TzS, TxI, TxJ, TxK, TxL, TxM -/
import Derived.WalkKit
import Derived.LaidEql
import Derived.Stop.Asserts
import Derived.RowKitTokens
import Derived.Test.YtfnjodpehomgfaaGreatDoorMQ5
set_option linter.unusedVariables false
set_option linter.unusedSimpArgs false
set_option linter.unusedSectionVars false
namespace Go.Proofs.YtfnjodpehomgfaaGreatDoor
open Go Go.Sh Go.Tx
attribute [local irreducible] Blk Ext RdS
structure FM where
  name : Bs
  P : Option Addr
  cp : Nat
  params : List Bs
  B : Option Addr
  cb : Nat
  body : List SM
def FM.e (f : FM) : Fnc := ⟨f.name, f.params, SM.es f.body⟩
def FM.enc (f : FM) : List Value := [.string (bs f.name), .slice f.P f.params.length f.cp, .slice f.B f.body.length f.cb]
def FM.v (f : FM) : Value := .agg f.enc.toArray
def FM.fp (f : FM) (k : Nat) : Prop := obk f.P = some k ∨ obk f.B = some k ∨ SM.fps f.body k
def FM.Ok (w : World) (f : FM) : Prop := Que strE 1 9 w 0 f.P f.cp f.params ∧ Que SM.enc 10 76 w 0 f.B f.cb f.body ∧ SM.Oks w f.body ∧ f.params.length ≤ 2000000 ∧ f.body.length ≤ 2000000
def FM.Sep (f : FM) : Prop := SM.Seps f.body ∧ (∀ k, ¬ (obk f.P = some k ∧ (obk f.B = some k ∨ SM.fps f.body k))) ∧ ∀ k, ¬ (obk f.B = some k ∧ SM.fps f.body k)
def FM.fps : List FM → Nat → Prop
  | [], _ => False
  | x :: r, k => FM.fp x k ∨ FM.fps r k
def FM.Oks (w : World) : List FM → Prop
  | [] => True
  | x :: r => FM.Ok w x ∧ FM.Oks w r
def FM.Seps : List FM → Prop
  | [] => True
  | x :: r => FM.Sep x ∧ FM.Seps r ∧ ∀ b, ¬ (FM.fp x b ∧ FM.fps r b)
theorem FM.fps_app (b : Nat) : ∀ l m : List FM, FM.fps (l ++ m) b ↔ FM.fps l b ∨ FM.fps m b
  | [], m => by simp [FM.fps]
  | x :: r, m => by simp [FM.fps, FM.fps_app b r m, or_assoc]
theorem FM.oks_app (w : World) : ∀ l m : List FM, FM.Oks w (l ++ m) ↔ FM.Oks w l ∧ FM.Oks w m
  | [], m => by simp [FM.Oks]
  | x :: r, m => by simp [FM.Oks, FM.oks_app w r m, and_assoc]
theorem FM.seps_app : ∀ l m : List FM, FM.Seps l → FM.Seps m → (∀ b, ¬ (FM.fps l b ∧ FM.fps m b)) → FM.Seps (l ++ m)
  | [], m, _, h, _ => h
  | x :: r, m, hl, hm, hd => by
    obtain ⟨h1, h2, h3⟩ := hl
    refine ⟨h1, FM.seps_app r m h2 hm fun b hb => hd b ⟨.inr hb.1, hb.2⟩, fun b hb => ?_⟩
    rcases (FM.fps_app b r m).1 hb.2 with h | h
    · exact h3 b ⟨hb.1, h⟩
    · exact hd b ⟨.inl hb.1, h⟩
theorem FM.Ok.lt {w : World} {f : FM} (h : FM.Ok w f) (k : Nat) (hk : FM.fp f k) : k < w.heap.size := by
  rcases hk with hk | hk | hk
  · exact (qu_ok h.1).lt k hk
  · exact (qu_ok h.2.1).lt k hk
  · exact SM.Oks.lt h.2.2.1 k hk
theorem FM.Oks.lt {w : World} : ∀ {l : List FM}, FM.Oks w l → ∀ b, FM.fps l b → b < w.heap.size
  | [], _, b, hb => hb.elim
  | x :: r, h, b, hb => by
    rcases hb with hb | hb
    · exact FM.Ok.lt h.1 b hb
    · exact FM.Oks.lt h.2 b hb
theorem FM.Ok.loc {w w' : World} (hs : w.heap.size ≤ w'.heap.size) {f : FM} (h : FM.Ok w f) (hb : ∀ b, FM.fp f b → w'.heap[b]? = w.heap[b]?) : FM.Ok w' f :=
  ⟨(qu_ok h.1).loc w' hs fun k hk => hb k (.inl hk), (qu_ok h.2.1).loc w' hs fun k hk => hb k (.inr (.inl hk)), SM.Oks.loc hs h.2.2.1 fun k hk => hb k (.inr (.inr hk)), h.2.2.2⟩
theorem FM.Oks.loc {w w' : World} (hs : w.heap.size ≤ w'.heap.size) : ∀ {l : List FM}, FM.Oks w l → (∀ b, FM.fps l b → w'.heap[b]? = w.heap[b]?) → FM.Oks w' l
  | [], _, _ => trivial
  | x :: r, h, hb => ⟨FM.Ok.loc hs h.1 fun b hk => hb b (.inl hk), FM.Oks.loc hs h.2 fun b hk => hb b (.inr hk)⟩
abbrev fns (l : List FM) : Ck := ⟨FM.fps l, fun w => FM.Oks w l ∧ FM.Seps l, true, false⟩
theorem fns_ok {l : List FM} {w : World} (h1 : FM.Oks w l) (h2 : FM.Seps l) : (fns l).Ok w :=
  ⟨⟨h1, h2⟩, FM.Oks.lt h1, fun w' hs hb => ⟨FM.Oks.loc hs h1 hb, h2⟩⟩
section
variable {S : Nat → Prop} {w0 w : World} {Γ : List Ck}
theorem Hp.fns0 (H : Hp S w0 w Γ) : Hp S w0 w (fns [] :: Γ) :=
  H.fr0 (Hp.one (Tch.refl _ _) (fns_ok trivial trivial) (fun k hk => hk.elim)) (.inl rfl)
theorem Hp.fnsS {l : List FM} {t : FM} (H : Hp S w0 w (fns [t] :: fns l :: Γ)) : Hp S w0 w (fns (l ++ [t]) :: Γ) := by
  refine Hp.join2 H rfl rfl (.inl rfl) (fun k hk => ?_) (fun hd h1 h2 => fns_ok ((FM.oks_app w l [t]).2 ⟨h2.holds.1, h1.holds.1⟩) (FM.seps_app _ _ h2.holds.2 h1.holds.2 fun b hb => hd b ⟨hb.2, hb.1⟩))
  rcases (FM.fps_app k l [t]).1 hk with h | h
  · exact .inr h
  · exact .inl h
theorem Hp.fnsN {P B : Option Addr} {cp cb : Nat} {ps : List Bs} {b : List SM} (nm : Bs) (H : Hp S w0 w (qu strE 1 9 P cp ps :: stl B cb b :: Γ)) (hlen : ps.length ≤ 2000000 := by first | (simp; done) | omega | assumption) : Hp S w0 w (fns [⟨nm, P, cp, ps, B, cb, b⟩] :: Γ) := by
  refine Hp.join2 H rfl rfl (.inl rfl) (fun k hk => ?_) (fun hd h1 h2 => fns_ok ⟨⟨h1.holds, h2.holds.1, h2.holds.2.1, hlen, h2.holds.2.2.2.2⟩, trivial⟩ ⟨⟨h2.holds.2.2.1, hd, h2.holds.2.2.2.1⟩, trivial, fun b hb => hb.2.elim⟩)
  rcases hk with (hk | hk | hk) | hk
  · exact .inl hk
  · exact .inr (.inl hk)
  · exact .inr (.inr hk)
  · exact hk.elim
end
theorem con_all {src : Bs} {pr : Nat} {wb : World} (X : Txt src pr wb) : ∀ f, Con src pr wb (pf f)
  | 0 => ⟨fun _ _ _ _ _ _ _ _ h => absurd rfl h, fun _ _ _ _ _ _ h => absurd rfl h, fun _ _ _ _ _ _ h => absurd rfl h, fun _ _ _ _ _ _ h => absurd rfl h, fun _ _ _ _ _ _ h => absurd rfl h⟩
  | f + 1 => ⟨expr_c X (con_all X f), unary_c X (con_all X f), primary_c X (con_all X f), block_c X (con_all X f), choice_c X (con_all X f)⟩
def OkF (src : Bs) (pr : Nat) (R : Res Fnc) (w : World) (v : Value) (w' : World) : Prop := ∃ f ts', R = .ok (FM.e f) ts' ∧ v = f.v ∧ Hp (· = pr) w w' [fns [f], rdr src pr ts']
theorem fm_v {v : Value} {nm : Bs} {P B : Option Addr} {cp cb : Nat} {ps : List Bs} {b : List SM} (h : v = .agg #[.string (bs nm), .slice P ps.length cp, .slice B b.length cb]) : v = FM.v ⟨nm, P, cp, ps, B, cb, b⟩ := h
section
variable {src : Bs} {pr : Nat} {wb : World} {F : PF} (X : Txt src pr wb) (C : Con src pr wb F)
include X C
set_option maxHeartbeats 4000000 in
theorem function_c (ts : List Tk) (w : World) (hwb : Ext wb w) (h : Rdr src pr ts w) (hne : functionP F ts ≠ .out) :
    Cl Tryz.prog 34 #[.pointer (some ⟨pr, 0, none⟩)] w (OkF src pr (functionP F ts) w) (PanX (functionP F ts) pr w) := by
  have HB := X.ok hwb
  have hsl := X.len
  obtain ⟨R, hR⟩ : ∃ R, R = functionP F ts := ⟨_, rfl⟩
  rw [← hR] at hne ⊢
  unfold functionP at hR
  refine calls_ex (args := [.pointer (some ⟨pr, 0, none⟩)]) T.ok Tryz.func34 rfl rfl rfl rfl ?_
  have H := Hp.start (S := (· = pr)) (rdr_ok h) (fun k hk => hk)
  clear h
  refine Sq.mk ?_
  ((conv => whnf); refine Al.hp H ?_; clear H; intro p2 _ H _)
  repeat' ((conv => whnf); first | ((with_reducible show Gd (bs _ == _) _ _); first | refine Gd.sY (by assumption) ?_ | refine Gd.sk (by assumption) ?_ | refine Gd.sN (by assumption) ?_) | ((conv => whnf); first | (((with_reducible show Gd ..); first | (with_reducible first | refine Gd.t ?_ | refine Gd.f ?_ | (first | apply Gd.dec | apply Gd.beq | apply Gd.bne) <;> intro _ | refine Gd.not ?_) | refine Gd.t ?_ | refine Gd.f ?_ | apply Gd.var <;> intro _) <;> try (exfalso; omega)) | with_reducible refine Sq.mk ?_ | ((with_reducible show Ld1 ..); first | refine Ld1.h H ?_ | refine Ld1.rF ?_ | refine Ld1.r ?_) | ((with_reducible show Ld ..); first | refine Ld.h H ?_ | refine Ld.r ?_) | ((with_reducible show Ix ..); first | refine Ix.h ?_ | refine Ix.ha ?_) | (refine Al.hp H ?_; clear H; intro _ _ H _) | (refine St.h H ?_; clear H; intro _ H)) | refine Sm.strix T.ok ?_)
  (((conv => whnf); refine Cl.mkX (take_c k_fn src pr (ts) wb _ (H.base2 HB) X.lo X.tb X.len (H.atC 1 rfl) (by decide)) ?_ ?_; rotate_left; (rintro ch w9 ⟨e9, p9, q9, h9, rfl, H'⟩; exact ⟨e9, p9, q9, (by rw [hR, h9]; rfl), rfl, Hp.pan H H' (.inl rfl)⟩)); rintro _ w8 ⟨t1, ts1, h1, rfl, H'⟩; replace H := H.upd (c := rdr src pr (ts)) H' rfl (.inl rfl); clear H'; rw [h1, Res.bind_ok] at hR; clear h1)
  repeat' ((conv => whnf); first | ((with_reducible show Gd (bs _ == _) _ _); first | refine Gd.sY (by assumption) ?_ | refine Gd.sk (by assumption) ?_ | refine Gd.sN (by assumption) ?_) | ((conv => whnf); first | (((with_reducible show Gd ..); first | (with_reducible first | refine Gd.t ?_ | refine Gd.f ?_ | (first | apply Gd.dec | apply Gd.beq | apply Gd.bne) <;> intro _ | refine Gd.not ?_) | refine Gd.t ?_ | refine Gd.f ?_ | apply Gd.var <;> intro _) <;> try (exfalso; omega)) | with_reducible refine Sq.mk ?_ | ((with_reducible show Ld1 ..); first | refine Ld1.h H ?_ | refine Ld1.rF ?_ | refine Ld1.r ?_) | ((with_reducible show Ld ..); first | refine Ld.h H ?_ | refine Ld.r ?_) | ((with_reducible show Ix ..); first | refine Ix.h ?_ | refine Ix.ha ?_) | (refine Al.hp H ?_; clear H; intro _ _ H _) | (refine St.h H ?_; clear H; intro _ H)) | refine Sm.strix T.ok ?_)
  (((conv => whnf); refine Cl.mkX (take_c k_name src pr (ts1) wb _ (H.base2 HB) X.lo X.tb X.len (H.atC 1 rfl) (by decide)) ?_ ?_; rotate_left; (rintro ch w9 ⟨e9, p9, q9, h9, rfl, H'⟩; exact ⟨e9, p9, q9, (by rw [hR, h9]; rfl), rfl, Hp.pan H H' (.inl rfl)⟩)); rintro _ w8 ⟨t2, ts2, h1, rfl, H'⟩; replace H := H.upd (c := rdr src pr (ts1)) H' rfl (.inl rfl); clear H'; rw [h1, Res.bind_ok] at hR; clear h1)
  repeat' ((conv => whnf); first | ((with_reducible show Gd (bs _ == _) _ _); first | refine Gd.sY (by assumption) ?_ | refine Gd.sk (by assumption) ?_ | refine Gd.sN (by assumption) ?_) | ((conv => whnf); first | (((with_reducible show Gd ..); first | (with_reducible first | refine Gd.t ?_ | refine Gd.f ?_ | (first | apply Gd.dec | apply Gd.beq | apply Gd.bne) <;> intro _ | refine Gd.not ?_) | refine Gd.t ?_ | refine Gd.f ?_ | apply Gd.var <;> intro _) <;> try (exfalso; omega)) | with_reducible refine Sq.mk ?_ | ((with_reducible show Ld1 ..); first | refine Ld1.h H ?_ | refine Ld1.rF ?_ | refine Ld1.r ?_) | ((with_reducible show Ld ..); first | refine Ld.h H ?_ | refine Ld.r ?_) | ((with_reducible show Ix ..); first | refine Ix.h ?_ | refine Ix.ha ?_) | (refine St.h H ?_; clear H; intro _ H)) | refine Sm.strix T.ok ?_)
  ((conv => whnf); refine Al.hp H ?_; clear H; intro p3 _ H _)
  repeat' ((conv => whnf); first | ((with_reducible show Gd (bs _ == _) _ _); first | refine Gd.sY (by assumption) ?_ | refine Gd.sk (by assumption) ?_ | refine Gd.sN (by assumption) ?_) | ((conv => whnf); first | (((with_reducible show Gd ..); first | (with_reducible first | refine Gd.t ?_ | refine Gd.f ?_ | (first | apply Gd.dec | apply Gd.beq | apply Gd.bne) <;> intro _ | refine Gd.not ?_) | refine Gd.t ?_ | refine Gd.f ?_ | apply Gd.var <;> intro _) <;> try (exfalso; omega)) | with_reducible refine Sq.mk ?_ | ((with_reducible show Ld1 ..); first | refine Ld1.h H ?_ | refine Ld1.rF ?_ | refine Ld1.r ?_) | ((with_reducible show Ld ..); first | refine Ld.h H ?_ | refine Ld.r ?_) | ((with_reducible show Ix ..); first | refine Ix.h ?_ | refine Ix.ha ?_) | (refine Al.hp H ?_; clear H; intro _ _ H _) | (refine St.h H ?_; clear H; intro _ H)) | refine Sm.strix T.ok ?_)
  (((conv => whnf); refine Cl.mkX (take_c s_lp src pr (ts2) wb _ (H.base2 HB) X.lo X.tb X.len (H.atC 2 rfl) (by decide)) ?_ ?_; rotate_left; (rintro ch w9 ⟨e9, p9, q9, h9, rfl, H'⟩; exact ⟨e9, p9, q9, (by rw [hR, h9]; rfl), rfl, Hp.pan H H' (.inl rfl)⟩)); rintro _ w8 ⟨t3, ts3, h1, rfl, H'⟩; replace H := H.upd (c := rdr src pr (ts2)) H' rfl (.inl rfl); clear H'; rw [h1, Res.bind_ok] at hR; clear h1)
  have hN : ts3.length ≤ src.length + 2 := (H.atC (c := rdr src pr ts3) 2 rfl).len
  generalize hN0 : ts3.length + 1 = N at hR
  have hNb : N ≤ 1000010 := by omega
  replace H := Hp.nil H strE 1 9
  have hfix : ∀ w', Hp (· = pr) w w' [qu strE 1 9 none 0 [], bk p3 34 [.string (bs t2.text), .slice none 0 0, .slice none 0 0], bk p2 34 T.t34.zero.cells.toList, rdr src pr ts3] → Hp (· = pr) w w' [qu strE 1 9 none 0 [], bk p3 34 [.string (bs t2.text), .slice none 0 0, .slice none 0 0], bk p2 34 T.t34.zero.cells.toList, rdr src pr ts3] := fun _ h => h
  replace H := hfix _ H
  clear hfix
  repeat' ((conv => whnf); first | ((with_reducible show Gd (bs _ == _) _ _); first | refine Gd.sY (by assumption) ?_ | refine Gd.sk (by assumption) ?_ | refine Gd.sN (by assumption) ?_) | ((conv => whnf); first | (((with_reducible show Gd ..); first | (with_reducible first | refine Gd.t ?_ | refine Gd.f ?_ | (first | apply Gd.dec | apply Gd.beq | apply Gd.bne) <;> intro _ | refine Gd.not ?_) | refine Gd.t ?_ | refine Gd.f ?_ | apply Gd.var <;> intro _) <;> try (exfalso; omega)) | with_reducible refine Sq.mk ?_ | ((with_reducible show Ld1 ..); first | refine Ld1.h H ?_ | refine Ld1.rF ?_ | refine Ld1.r ?_) | ((with_reducible show Ld ..); first | refine Ld.h H ?_ | refine Ld.r ?_) | ((with_reducible show Ix ..); first | refine Ix.h ?_ | refine Ix.ha ?_) | (refine Al.hp H ?_; clear H; intro _ _ H _) | (refine St.h H ?_; clear H; intro _ H)) | refine Sm.strix T.ok ?_)
  refine Lp.g0 T.ok (σ := Nat × Option Addr × Nat × List Bs × List Tk) (fun q => [(3, .pointer (some ⟨p3, 0, none⟩)), (2, .pointer (some ⟨p2, 0, none⟩)), (0, .pointer (some ⟨pr, 0, none⟩))])
    (fun q w' => R = (loopN q.1 q.2.2.2.1 q.2.2.2.2).bind (fun ps ts4 => (takeP s_rp ts4).bind fun _ ts5 => (F.block 1 ts5).bind fun b ts6 => .ok ⟨t2.text, ps, b⟩ ts6) ∧ q.1 + q.2.2.2.1.length ≤ N ∧ Hp (· = pr) w w' [qu strE 1 9 q.2.1 q.2.2.1 q.2.2.2.1, bk p3 34 [.string (bs t2.text), .slice q.2.1 q.2.2.2.1.length q.2.2.1, .slice none 0 0], bk p2 34 T.t34.zero.cells.toList, rdr src pr q.2.2.2.2]) (fun q _ => q.1) (N, none, 0, [], ts3) rfl ⟨rfl, rfl, rfl, trivial⟩ ⟨hR, Nat.le_refl _, H⟩ ?_
  clear H hR hN0 hN
  rintro ⟨f, A, c, l, ts⟩ w5 ⟨hR, hN, H⟩
  simp only at hR hN H ⊢
  cases f with
  | zero => exact absurd hR hne
  | succ f =>
  simp only [loopN] at hR
  (obtain ⟨nx, t0, r0, rfl, hnx, hr0, hb0⟩ := H.atC (c := rdr src pr ts) 3 rfl; replace H := Hp.ofR H hb0; clear hb0)
  by_cases hk : t0.kind = s_rp
  · rw [if_pos (show curK (t0 :: r0) = s_rp from hk), Res.bind_ok] at hR
    repeat' ((conv => whnf); first | ((with_reducible show Gd (bs _ == _) _ _); first | refine Gd.sY (by assumption) ?_ | refine Gd.sk (by assumption) ?_ | refine Gd.sN (by assumption) ?_) | ((conv => whnf); first | (((with_reducible show Gd ..); first | (with_reducible first | refine Gd.t ?_ | refine Gd.f ?_ | (first | apply Gd.dec | apply Gd.beq | apply Gd.bne) <;> intro _ | refine Gd.not ?_) | refine Gd.t ?_ | refine Gd.f ?_ | apply Gd.var <;> intro _) <;> try (exfalso; omega)) | with_reducible refine Sq.mk ?_ | ((with_reducible show Ld1 ..); first | refine Ld1.h H ?_ | refine Ld1.rF ?_ | refine Ld1.r ?_) | ((with_reducible show Ld ..); first | refine Ld.h H ?_ | refine Ld.r ?_) | ((with_reducible show Ix ..); first | refine Ix.h ?_ | refine Ix.ha ?_) | (refine Al.hp H ?_; clear H; intro _ _ H _) | (refine St.h H ?_; clear H; intro _ H)) | refine Sm.strix T.ok ?_)
    (replace H := Hp.toR H hnx hr0; clear hnx hr0)
    (((conv => whnf); refine Cl.mkX (take_c s_rp src pr (t0 :: r0) wb _ (H.base2 HB) X.lo X.tb X.len (H.atC 3 rfl) (by decide)) ?_ ?_; rotate_left; (rintro ch w9 ⟨e9, p9, q9, h9, rfl, H'⟩; exact ⟨e9, p9, q9, (by rw [hR, h9]; rfl), rfl, Hp.pan H H' (.inl rfl)⟩)); rintro _ w8 ⟨t5, ts5, h1, rfl, H'⟩; replace H := H.upd (c := rdr src pr (t0 :: r0)) H' rfl (.inl rfl); clear H'; rw [h1, Res.bind_ok] at hR; clear h1)
    repeat' ((conv => whnf); first | ((with_reducible show Gd (bs _ == _) _ _); first | refine Gd.sY (by assumption) ?_ | refine Gd.sk (by assumption) ?_ | refine Gd.sN (by assumption) ?_) | ((conv => whnf); first | (((with_reducible show Gd ..); first | (with_reducible first | refine Gd.t ?_ | refine Gd.f ?_ | (first | apply Gd.dec | apply Gd.beq | apply Gd.bne) <;> intro _ | refine Gd.not ?_) | refine Gd.t ?_ | refine Gd.f ?_ | apply Gd.var <;> intro _) <;> try (exfalso; omega)) | with_reducible refine Sq.mk ?_ | ((with_reducible show Ld1 ..); first | refine Ld1.h H ?_ | refine Ld1.rF ?_ | refine Ld1.r ?_) | ((with_reducible show Ld ..); first | refine Ld.h H ?_ | refine Ld.r ?_) | ((with_reducible show Ix ..); first | refine Ix.h ?_ | refine Ix.ha ?_) | (refine Al.hp H ?_; clear H; intro _ _ H _) | (refine St.h H ?_; clear H; intro _ H)) | refine Sm.strix T.ok ?_)
    ((conv => whnf); refine Cl.mkX (C.block 1 ts5 _ (by omega) (H.base2 HB) (H.atC 3 rfl) (Res.bind_out (by rw [← hR]; exact hne))) ?_ ?_; rotate_left; (rintro ch w9 ⟨e9, p9, q9, h9, rfl, H'⟩; exact ⟨e9, p9, q9, (by rw [hR, h9]; rfl), rfl, Hp.pan H H' (.inl rfl)⟩))
    rintro _ w6 ⟨B, cB, b, ts6, h6, rfl, H'⟩
    replace H := H.updn (c := rdr src pr ts5) (Hp.swap H') rfl (.inl rfl) (.inl rfl)
    clear H'
    rw [h6, Res.bind_ok] at hR
    repeat' ((conv => whnf); first | ((with_reducible show Gd (bs _ == _) _ _); first | refine Gd.sY (by assumption) ?_ | refine Gd.sk (by assumption) ?_ | refine Gd.sN (by assumption) ?_) | ((conv => whnf); first | (((with_reducible show Gd ..); first | (with_reducible first | refine Gd.t ?_ | refine Gd.f ?_ | (first | apply Gd.dec | apply Gd.beq | apply Gd.bne) <;> intro _ | refine Gd.not ?_) | refine Gd.t ?_ | refine Gd.f ?_ | apply Gd.var <;> intro _) <;> try (exfalso; omega)) | with_reducible refine Sq.mk ?_ | ((with_reducible show Ld1 ..); first | refine Ld1.h H ?_ | refine Ld1.rF ?_ | refine Ld1.r ?_) | ((with_reducible show Ld ..); first | refine Ld.h H ?_ | refine Ld.r ?_) | ((with_reducible show Ix ..); first | refine Ix.h ?_ | refine Ix.ha ?_) | (refine Al.hp H ?_; clear H; intro _ _ H _) | (refine St.h H ?_; clear H; intro _ H)) | refine Sm.strix T.ok ?_)
    exact ⟨⟨t2.text, A, c, l, B, cB, b⟩, ts6, hR, fm_v rfl, Hp.fnsN t2.text (H.sel [1, 0, 2] rfl)⟩
  rw [if_neg (show ¬ curK (t0 :: r0) = s_rp from hk)] at hR
  by_cases hl0 : l.length = 0
  · rw [if_neg (by omega), Res.bind_ok, Res.bind_assoc] at hR
    repeat' ((conv => whnf); first | ((with_reducible show Gd (bs _ == _) _ _); first | refine Gd.sY (by assumption) ?_ | refine Gd.sk (by assumption) ?_ | refine Gd.sN (by assumption) ?_) | ((conv => whnf); first | (((with_reducible show Gd ..); first | (with_reducible first | refine Gd.t ?_ | refine Gd.f ?_ | (first | apply Gd.dec | apply Gd.beq | apply Gd.bne) <;> intro _ | refine Gd.not ?_) | refine Gd.t ?_ | refine Gd.f ?_ | apply Gd.var <;> intro _) <;> try (exfalso; omega)) | with_reducible refine Sq.mk ?_ | ((with_reducible show Ld1 ..); first | refine Ld1.h H ?_ | refine Ld1.rF ?_ | refine Ld1.r ?_) | ((with_reducible show Ld ..); first | refine Ld.h H ?_ | refine Ld.r ?_) | ((with_reducible show Ix ..); first | refine Ix.h ?_ | refine Ix.ha ?_) | (refine Al.hp H ?_; clear H; intro _ _ H _) | (refine St.h H ?_; clear H; intro _ H)) | refine Sm.strix T.ok ?_)
    all_goals first | (exfalso; omega) | skip
    (replace H := Hp.toR H hnx hr0; clear hnx hr0)
    (conv => whnf)
    refine Dr.chX T.ok mixed [0, 1, 2, 7] [3, 4, 5, 6, 8] (by kernel_rfl) rfl rfl (fun w' => Blk w' p3 34 [.string (bs t2.text), .slice A l.length c, .slice none 0 0]) (PanX R pr w) (fun ch F' w' hds h => by (conv => whnf); rw [show F'.ds = [] from hds]; exact h) (fun w1 eT _ => ?_)
    replace H := H.ext eT
    repeat' ((conv => whnf); first | refine QLd1.own (fun _ hw => hw) ?_ | refine QLd.own (fun _ hw => hw) ?_)
    (conv => whnf)
    refine ⟨H.blk 1 rfl, ?_⟩
    (((conv => whnf); refine Cl.mkX (take_c k_name src pr (t0 :: r0) wb _ (H.base2 HB) X.lo X.tb X.len (H.atC 3 rfl) (by decide)) ?_ ?_; rotate_left; (rintro ch w9 ⟨e9, p9, q9, h9, rfl, H'⟩; exact ⟨e9, p9, q9, (by rw [hR, h9]; rfl), rfl, Hp.pan H H' (.inl rfl)⟩)); rintro _ w8 ⟨t6, ts6, h1, rfl, H'⟩; replace H := H.upd (c := rdr src pr (t0 :: r0)) H' rfl (.inl rfl); clear H'; rw [h1, Res.bind_ok] at hR; clear h1)
    (conv => whnf)
    refine ⟨H.blk 1 rfl, ?_⟩
    (conv => whnf)
    refine ⟨H.blk 1 rfl, ?_⟩
    refine Sm.lith (cs := [.string (bs t6.text)]) H T.ok (fun p5 w4 H _ => ?_)
    (conv => whnf)
    refine ⟨H.blk 2 rfl, ?_⟩
    refine Sm.ap1 (enc := strE) t6.text H T.ok ?_ ?_ (fun A' c' w7 H => ?_)
    · show (l.length + 1) * 16 ≤ _; omega
    · omega
    simp only [List.cons_append, List.nil_append] at H
    (conv => whnf)
    refine ⟨H.blk 1 rfl, ?_⟩
    repeat' ((conv => whnf); first | ((with_reducible show Gd (bs _ == _) _ _); first | refine Gd.sY (by assumption) ?_ | refine Gd.sk (by assumption) ?_ | refine Gd.sN (by assumption) ?_) | ((conv => whnf); first | (((with_reducible show Gd ..); first | (with_reducible first | refine Gd.t ?_ | refine Gd.f ?_ | (first | apply Gd.dec | apply Gd.beq | apply Gd.bne) <;> intro _ | refine Gd.not ?_) | refine Gd.t ?_ | refine Gd.f ?_ | apply Gd.var <;> intro _) <;> try (exfalso; omega)) | with_reducible refine Sq.mk ?_ | ((with_reducible show Ld1 ..); first | refine Ld1.h H ?_ | refine Ld1.rF ?_ | refine Ld1.r ?_) | ((with_reducible show Ld ..); first | refine Ld.h H ?_ | refine Ld.r ?_) | ((with_reducible show Ix ..); first | refine Ix.h ?_ | refine Ix.ha ?_) | (refine Al.hp H ?_; clear H; intro _ _ H _) | (refine St.h H ?_; clear H; intro _ H)) | refine Sm.strix T.ok ?_)
    refine ⟨(f, A', c', l ++ [t6.text], ts6), ⟨rfl, rfl, rfl, trivial⟩, rfl, ⟨hR, ?_, ?_⟩, Nat.lt_succ_self f⟩
    · simp only [List.length_append, List.length_cons, List.length_nil]; omega
    · have hl1 : (l ++ [t6.text]).length = l.length + 1 := by simp
      simp only [hl1]
      exact H
  · rw [if_pos hl0] at hR
    replace hR : R = (takeP s_comma (t0 :: r0)).bind fun _ ts1 => (takeP k_name ts1).bind fun t ts2 => (loopN f (l ++ [t.text]) ts2).bind (fun ps ts4 => (takeP s_rp ts4).bind fun _ ts5 => (F.block 1 ts5).bind fun b ts6 => .ok ⟨t2.text, ps, b⟩ ts6) := by
      rw [hR]
      cases takeP s_comma (t0 :: r0) with
      | out => rfl
      | err e p => rfl
      | ok a ts1 => simp only [Res.bind_ok, Res.bind_assoc]
    repeat' ((conv => whnf); first | ((with_reducible show Gd (bs _ == _) _ _); first | refine Gd.sY (by assumption) ?_ | refine Gd.sk (by assumption) ?_ | refine Gd.sN (by assumption) ?_) | ((conv => whnf); first | (((with_reducible show Gd ..); first | (with_reducible first | refine Gd.t ?_ | refine Gd.f ?_ | (first | apply Gd.dec | apply Gd.beq | apply Gd.bne) <;> intro _ | refine Gd.not ?_) | refine Gd.t ?_ | refine Gd.f ?_ | apply Gd.var <;> intro _) <;> try (exfalso; omega)) | with_reducible refine Sq.mk ?_ | ((with_reducible show Ld1 ..); first | refine Ld1.h H ?_ | refine Ld1.rF ?_ | refine Ld1.r ?_) | ((with_reducible show Ld ..); first | refine Ld.h H ?_ | refine Ld.r ?_) | ((with_reducible show Ix ..); first | refine Ix.h ?_ | refine Ix.ha ?_) | (refine Al.hp H ?_; clear H; intro _ _ H _) | (refine St.h H ?_; clear H; intro _ H)) | refine Sm.strix T.ok ?_)
    all_goals first | (exfalso; omega) | skip
    (replace H := Hp.toR H hnx hr0; clear hnx hr0)
    (((conv => whnf); refine Cl.mkX (take_c s_comma src pr (t0 :: r0) wb _ (H.base2 HB) X.lo X.tb X.len (H.atC 3 rfl) (by decide)) ?_ ?_; rotate_left; (rintro ch w9 ⟨e9, p9, q9, h9, rfl, H'⟩; exact ⟨e9, p9, q9, (by rw [hR, h9]; rfl), rfl, Hp.pan H H' (.inl rfl)⟩)); rintro _ w8 ⟨t7, ts7, h1, rfl, H'⟩; replace H := H.upd (c := rdr src pr (t0 :: r0)) H' rfl (.inl rfl); clear H'; rw [h1, Res.bind_ok] at hR; clear h1)
    repeat' ((conv => whnf); first | ((with_reducible show Gd (bs _ == _) _ _); first | refine Gd.sY (by assumption) ?_ | refine Gd.sk (by assumption) ?_ | refine Gd.sN (by assumption) ?_) | ((conv => whnf); first | (((with_reducible show Gd ..); first | (with_reducible first | refine Gd.t ?_ | refine Gd.f ?_ | (first | apply Gd.dec | apply Gd.beq | apply Gd.bne) <;> intro _ | refine Gd.not ?_) | refine Gd.t ?_ | refine Gd.f ?_ | apply Gd.var <;> intro _) <;> try (exfalso; omega)) | with_reducible refine Sq.mk ?_ | ((with_reducible show Ld1 ..); first | refine Ld1.h H ?_ | refine Ld1.rF ?_ | refine Ld1.r ?_) | ((with_reducible show Ld ..); first | refine Ld.h H ?_ | refine Ld.r ?_) | ((with_reducible show Ix ..); first | refine Ix.h ?_ | refine Ix.ha ?_) | (refine Al.hp H ?_; clear H; intro _ _ H _) | (refine St.h H ?_; clear H; intro _ H)) | refine Sm.strix T.ok ?_)
    (conv => whnf)
    refine Dr.chX T.ok mixed [0, 1, 2, 7] [3, 4, 5, 6, 8] (by kernel_rfl) rfl rfl (fun w' => Blk w' p3 34 [.string (bs t2.text), .slice A l.length c, .slice none 0 0]) (PanX R pr w) (fun ch F' w' hds h => by (conv => whnf); rw [show F'.ds = [] from hds]; exact h) (fun w1 eT _ => ?_)
    replace H := H.ext eT
    repeat' ((conv => whnf); first | refine QLd1.own (fun _ hw => hw) ?_ | refine QLd.own (fun _ hw => hw) ?_)
    (conv => whnf)
    refine ⟨H.blk 1 rfl, ?_⟩
    (((conv => whnf); refine Cl.mkX (take_c k_name src pr (ts7) wb _ (H.base2 HB) X.lo X.tb X.len (H.atC 3 rfl) (by decide)) ?_ ?_; rotate_left; (rintro ch w9 ⟨e9, p9, q9, h9, rfl, H'⟩; exact ⟨e9, p9, q9, (by rw [hR, h9]; rfl), rfl, Hp.pan H H' (.inl rfl)⟩)); rintro _ w8 ⟨t6, ts6, h1, rfl, H'⟩; replace H := H.upd (c := rdr src pr (ts7)) H' rfl (.inl rfl); clear H'; rw [h1, Res.bind_ok] at hR; clear h1)
    (conv => whnf)
    refine ⟨H.blk 1 rfl, ?_⟩
    (conv => whnf)
    refine ⟨H.blk 1 rfl, ?_⟩
    refine Sm.lith (cs := [.string (bs t6.text)]) H T.ok (fun p5 w4 H _ => ?_)
    (conv => whnf)
    refine ⟨H.blk 2 rfl, ?_⟩
    refine Sm.ap1 (enc := strE) t6.text H T.ok ?_ ?_ (fun A' c' w7 H => ?_)
    · show (l.length + 1) * 16 ≤ _; omega
    · omega
    simp only [List.cons_append, List.nil_append] at H
    (conv => whnf)
    refine ⟨H.blk 1 rfl, ?_⟩
    repeat' ((conv => whnf); first | ((with_reducible show Gd (bs _ == _) _ _); first | refine Gd.sY (by assumption) ?_ | refine Gd.sk (by assumption) ?_ | refine Gd.sN (by assumption) ?_) | ((conv => whnf); first | (((with_reducible show Gd ..); first | (with_reducible first | refine Gd.t ?_ | refine Gd.f ?_ | (first | apply Gd.dec | apply Gd.beq | apply Gd.bne) <;> intro _ | refine Gd.not ?_) | refine Gd.t ?_ | refine Gd.f ?_ | apply Gd.var <;> intro _) <;> try (exfalso; omega)) | with_reducible refine Sq.mk ?_ | ((with_reducible show Ld1 ..); first | refine Ld1.h H ?_ | refine Ld1.rF ?_ | refine Ld1.r ?_) | ((with_reducible show Ld ..); first | refine Ld.h H ?_ | refine Ld.r ?_) | ((with_reducible show Ix ..); first | refine Ix.h ?_ | refine Ix.ha ?_) | (refine Al.hp H ?_; clear H; intro _ _ H _) | (refine St.h H ?_; clear H; intro _ H)) | refine Sm.strix T.ok ?_)
    refine ⟨(f, A', c', l ++ [t6.text], ts6), ⟨rfl, rfl, rfl, trivial⟩, rfl, ⟨hR, ?_, ?_⟩, Nat.lt_succ_self f⟩
    · simp only [List.length_append, List.length_cons, List.length_nil]; omega
    · have hl1 : (l ++ [t6.text]).length = l.length + 1 := by simp
      simp only [hl1]
      exact H
end
end Go.Proofs.YtfnjodpehomgfaaGreatDoor
namespace Go.Proofs.YtfnjodpehomgfaaGreatDoor
open Go Go.Sh Go.Tx
attribute [local irreducible] Blk Ext RdS
theorem namesR_s (n : Nat) (l : List Bs) (ts : List Tk) : namesR (n + 1) l ts = (if curK ts = s_comma then (stepP false ts).bind fun _ ts1 => (takeP k_name ts1).bind fun t ts2 => namesR n (l ++ [t.text]) ts2 else (takeP s_rp ts).bind fun _ ts1 => .ok l ts1) := rfl
section
variable {src : Bs} {ws : List Tk} {A : Option Addr} {cw pr : Nat} {wb : World}
def OkRF (ws : List Tk) (A : Option Addr) (cw pr : Nat) {α : Type} (g : α → Fnc) (R : Res α) (w : World) (v : Value) (w' : World) : Prop :=
  ∃ f s', v = FM.v f ∧ AtR R s' ∧ Vl R (fun a => FM.e f = g a) ∧ Hp (· = pr) w w' [fns [f], rq ws A cw pr s']
variable (Y : RY src ws A cw pr wb)
include Y
theorem stmt_deep (d : Nat) (ts : List Tk) (w : World) (hd : 40 < d) (hd2 : d ≤ 41) (hk : curK ts = k_if) (hwb : Ext wb w) (h : RdQ ws A cw pr ⟨ts, none⟩ w) (hg : Gdw ts) :
    Cl Tryz.prog 83 #[.pointer (some ⟨pr, 0, none⟩), .int .i64 (d : Int)] w (OkRS ws A cw pr id (.err 144 (curT ts).at_) w) (fun _ _ => False) := by
  have X := Y.x
  have HB := X.ok hwb
  have hpl := h.pls X
  have hts := ends_ne hg.ends
  have hrk : rKind (curT (⟨ts, none⟩ : RS).ts) = k_if := (chk_ok hg.ok).1.trans hk
  refine calls_ex (args := [.pointer (some ⟨pr, 0, none⟩), .int .i64 (d : Int)]) T.ok Tryz.func83 rfl rfl rfl rfl ?_
  have H := Hp.start (S := (· = pr)) (rq_ok h) (fun k hk => hk)
  clear h
  refine Sq.mk ?_
  ((conv => whnf); refine Al.hp H ?_; clear H; intro p4 _ H _)
  repeat' ((conv => whnf); first | (((with_reducible show Gd ..); first | (with_reducible first | refine Gd.t ?_ | refine Gd.f ?_ | (first | apply Gd.dec | apply Gd.beq | apply Gd.bne) <;> intro _ | refine Gd.not ?_) | refine Gd.t ?_ | refine Gd.f ?_ | apply Gd.var <;> intro _) <;> try (exfalso; omega)) | with_reducible refine Sq.mk ?_ | ((with_reducible show Ld1 ..); first | refine Ld1.h H ?_ | refine Ld1.rF ?_ | refine Ld1.r ?_) | ((with_reducible show Ld ..); first | refine Ld.h H ?_ | refine Ld.r ?_) | ((with_reducible show Ix ..); first | refine Ix.h ?_ | refine Ix.ha ?_) | (refine St.h H ?_; clear H; intro _ H))
  (((conv => whnf); refine Cl.mk (next_r X ⟨ts, none⟩ _ (H.base2 HB) (H.atC 1 rfl) hts) ?_); rintro _ _ ⟨rfl, hx⟩; replace H := H.ext hx; clear hx)
  ((conv => whnf); refine Al.hp H ?_; clear H; intro p5 _ H _)
  repeat' ((conv => whnf); first | (((with_reducible show Gd ..); first | (with_reducible first | refine Gd.t ?_ | refine Gd.f ?_ | (first | apply Gd.dec | apply Gd.beq | apply Gd.bne) <;> intro _ | refine Gd.not ?_) | refine Gd.t ?_ | refine Gd.f ?_ | apply Gd.var <;> intro _) <;> try (exfalso; omega)) | with_reducible refine Sq.mk ?_ | ((with_reducible show Ld1 ..); first | refine Ld1.h H ?_ | refine Ld1.rF ?_ | refine Ld1.r ?_) | ((with_reducible show Ld ..); first | refine Ld.h H ?_ | refine Ld.r ?_) | ((with_reducible show Ix ..); first | refine Ix.h ?_ | refine Ix.ha ?_) | (refine St.h H ?_; clear H; intro _ H))
  (((conv => whnf); refine Cl.mk (begins_r (rKind (curT (⟨ts, none⟩ : RS).ts)) _) ?_); rintro _ _ ⟨rfl, hx⟩; replace H := H.ext hx; clear hx)
  rw [show beginsB (rKind (curT (⟨ts, none⟩ : RS).ts)) = true by rw [hrk]; rfl]
  have hw : wrongR 144 ⟨ts, none⟩ = ⟨ts, some (144, (curT ts).at_)⟩ := wrong_good rfl hg.ok hpl.cur.1
  repeat' ((conv => whnf); first | (((with_reducible show Gd ..); first | (with_reducible first | refine Gd.t ?_ | refine Gd.f ?_ | (first | apply Gd.dec | apply Gd.beq | apply Gd.bne) <;> intro _ | refine Gd.not ?_) | refine Gd.t ?_ | refine Gd.f ?_ | apply Gd.var <;> intro _) <;> try (exfalso; omega)) | with_reducible refine Sq.mk ?_ | ((with_reducible show Ld1 ..); first | refine Ld1.h H ?_ | refine Ld1.rF ?_ | refine Ld1.r ?_) | ((with_reducible show Ld ..); first | refine Ld.h H ?_ | refine Ld.r ?_) | ((with_reducible show Ix ..); first | refine Ix.h ?_ | refine Ix.ha ?_) | (refine St.h H ?_; clear H; intro _ H))
  all_goals first | (exfalso; omega) | skip
  ((conv => whnf); refine Cl.mk (wrong_r X 144 ⟨ts, none⟩ _ (by decide) (H.base2 HB) (H.atC 2 rfl) hts) ?_)
  rintro _ w3 H'
  rw [hw] at H'
  replace H := H.upd (c := rq ws A cw pr ⟨ts, none⟩) H' rfl (.inl rfl)
  clear H'
  repeat' ((conv => whnf); first | (((with_reducible show Gd ..); first | (with_reducible first | refine Gd.t ?_ | refine Gd.f ?_ | (first | apply Gd.dec | apply Gd.beq | apply Gd.bne) <;> intro _ | refine Gd.not ?_) | refine Gd.t ?_ | refine Gd.f ?_ | apply Gd.var <;> intro _) <;> try (exfalso; omega)) | with_reducible refine Sq.mk ?_ | ((with_reducible show Ld1 ..); first | refine Ld1.h H ?_ | refine Ld1.rF ?_ | refine Ld1.r ?_) | ((with_reducible show Ld ..); first | refine Ld.h H ?_ | refine Ld.r ?_) | ((with_reducible show Ix ..); first | refine Ix.h ?_ | refine Ix.ha ?_) | (refine St.h H ?_; clear H; intro _ H))
  exact ⟨.mk 0 [] (.mk 0 0 0 [] [] none 0 []) none 0 [] none 0 [], _, sm_v rfl, ⟨hg.ends, .inl rfl⟩, Vl.err, Hp.stsE 0 [] (Hp.trsZ 0 0 0 [] [] (H.sel [2] rfl))⟩
theorem rcon_all : ∀ f, RCon src ws A cw pr wb (pf f)
  | 0 => by
    refine ⟨fun _ _ _ _ _ _ _ _ _ h => absurd rfl h, fun _ _ _ _ _ _ _ h => absurd rfl h, fun _ _ _ _ _ _ _ h => absurd rfl h, fun _ _ _ _ _ _ _ h => absurd rfl h, fun d ts w hd hk hwb h hg hne => ?_⟩
    by_cases h40 : 40 < d
    · have he : ((deepP d ts).bind fun _ ts => (pf 0).choice d ts) = .err 144 (curT ts).at_ := by unfold deepP; rw [if_pos h40]; rfl
      rw [he]
      exact stmt_deep Y d ts w h40 hd hk hwb h hg
    · exfalso
      apply hne
      unfold deepP
      rw [if_neg h40]; rfl
  | f + 1 => ⟨fun lv d ts w h1 h2 h3 h4 h5 h6 => expr_r Y (rcon_all f) lv d ts w h1 h2 h3 h4 h5 h6, fun d ts w h2 h3 h4 h5 h6 => unary_r Y (rcon_all f) d ts w h2 h3 h4 h5 h6, fun d ts w h2 h3 h4 h5 h6 => primary_r Y (rcon_all f) d ts w h2 h3 h4 h5 h6, fun d ts w h2 h3 h4 h5 h6 => block_r Y (rcon_all f) d ts w h2 h3 h4 h5 h6, fun d ts w h2 hk h3 h4 h5 h6 => stmt_if Y (rcon_all f) d ts w h2 hk h3 h4 h5 h6⟩
set_option maxHeartbeats 4000000 in
theorem functionD (s : RS) (w : World) {e : Int} {p : Nat} (hwb : Ext wb w) (h : RdQ ws A cw pr s w) (ha : AtR (.err e p : Res Unit) s) : Cl Tryz.prog 30 #[.pointer (some ⟨pr, 0, none⟩)] w (fun v w' => ∃ f, v = FM.v f ∧ Hp (· = pr) w w' [fns [f], rq ws A cw pr ⟨s.ts, some (e, p)⟩]) (fun _ _ => False) := by
  have X := Y.x
  have HB := X.ok hwb
  have hts := ends_ne ha.ends
  refine calls_ex (args := [.pointer (some ⟨pr, 0, none⟩)]) T.ok Tryz.func30 rfl rfl rfl rfl ?_
  have H := Hp.start (S := (· = pr)) (rq_ok h) (fun k hk => hk)
  clear h
  refine Sq.mk ?_
  ((conv => whnf); refine Al.hp H ?_; clear H; intro p2 _ H _)
  repeat' ((conv => whnf); first | (((with_reducible show Gd ..); first | (with_reducible first | refine Gd.t ?_ | refine Gd.f ?_ | (first | apply Gd.dec | apply Gd.beq | apply Gd.bne) <;> intro _ | refine Gd.not ?_) | refine Gd.t ?_ | refine Gd.f ?_ | apply Gd.var <;> intro _) <;> try (exfalso; omega)) | with_reducible refine Sq.mk ?_ | ((with_reducible show Ld1 ..); first | refine Ld1.h H ?_ | refine Ld1.rF ?_ | refine Ld1.r ?_) | ((with_reducible show Ld ..); first | refine Ld.h H ?_ | refine Ld.r ?_) | ((with_reducible show Ix ..); first | refine Ix.h ?_ | refine Ix.ha ?_) | (refine St.h H ?_; clear H; intro _ H))
  ((conv => whnf); refine Cl.mk (take_r X k_fn s _ (H.base2 HB) (H.atC 1 rfl) hts) ?_)
  rintro _ w3 ⟨rfl, H'⟩
  rw [takeR_doom ha.at_ (by decide) (by decide)] at H'
  replace H := H.upd (c := rq ws A cw pr s) H' rfl (.inl rfl)
  clear H'
  have hD : Doom e p ⟨s.ts, some (e, p)⟩ := .inl rfl
  have haD : AtR (.err e p : Res Unit) ⟨s.ts, some (e, p)⟩ := ⟨ha.ends, hD⟩
  repeat' ((conv => whnf); first | (((with_reducible show Gd ..); first | (with_reducible first | refine Gd.t ?_ | refine Gd.f ?_ | (first | apply Gd.dec | apply Gd.beq | apply Gd.bne) <;> intro _ | refine Gd.not ?_) | refine Gd.t ?_ | refine Gd.f ?_ | apply Gd.var <;> intro _) <;> try (exfalso; omega)) | with_reducible refine Sq.mk ?_ | ((with_reducible show Ld1 ..); first | refine Ld1.h H ?_ | refine Ld1.rF ?_ | refine Ld1.r ?_) | ((with_reducible show Ld ..); first | refine Ld.h H ?_ | refine Ld.r ?_) | ((with_reducible show Ix ..); first | refine Ix.h ?_ | refine Ix.ha ?_) | (refine St.h H ?_; clear H; intro _ H))
  ((conv => whnf); refine Cl.mk (take_r X k_name ⟨s.ts, some (e, p)⟩ _ (H.base2 HB) (H.atC 1 rfl) hts) ?_)
  rintro _ w3 ⟨rfl, H'⟩
  rw [takeR_doom hD (by decide) (by decide)] at H'
  replace H := H.upd (c := rq ws A cw pr ⟨s.ts, some (e, p)⟩) H' rfl (.inl rfl)
  clear H'
  ((conv => whnf); refine Al.hp H ?_; clear H; intro p3 _ H _)
  repeat' ((conv => whnf); first | (((with_reducible show Gd ..); first | (with_reducible first | refine Gd.t ?_ | refine Gd.f ?_ | (first | apply Gd.dec | apply Gd.beq | apply Gd.bne) <;> intro _ | refine Gd.not ?_) | refine Gd.t ?_ | refine Gd.f ?_ | apply Gd.var <;> intro _) <;> try (exfalso; omega)) | with_reducible refine Sq.mk ?_ | ((with_reducible show Ld1 ..); first | refine Ld1.h H ?_ | refine Ld1.rF ?_ | refine Ld1.r ?_) | ((with_reducible show Ld ..); first | refine Ld.h H ?_ | refine Ld.r ?_) | ((with_reducible show Ix ..); first | refine Ix.h ?_ | refine Ix.ha ?_) | (refine St.h H ?_; clear H; intro _ H))
  ((conv => whnf); refine Al.hp H ?_; clear H; intro p4 _ H _)
  repeat' ((conv => whnf); first | (((with_reducible show Gd ..); first | (with_reducible first | refine Gd.t ?_ | refine Gd.f ?_ | (first | apply Gd.dec | apply Gd.beq | apply Gd.bne) <;> intro _ | refine Gd.not ?_) | refine Gd.t ?_ | refine Gd.f ?_ | apply Gd.var <;> intro _) <;> try (exfalso; omega)) | with_reducible refine Sq.mk ?_ | ((with_reducible show Ld1 ..); first | refine Ld1.h H ?_ | refine Ld1.rF ?_ | refine Ld1.r ?_) | ((with_reducible show Ld ..); first | refine Ld.h H ?_ | refine Ld.r ?_) | ((with_reducible show Ix ..); first | refine Ix.h ?_ | refine Ix.ha ?_) | (refine St.h H ?_; clear H; intro _ H))
  ((conv => whnf); refine Cl.mk (take_r X s_lp ⟨s.ts, some (e, p)⟩ _ (H.base2 HB) (H.atC 3 rfl) hts) ?_)
  rintro _ w3 ⟨rfl, H'⟩
  rw [takeR_doom hD (by decide) (by decide)] at H'
  replace H := H.upd (c := rq ws A cw pr ⟨s.ts, some (e, p)⟩) H' rfl (.inl rfl)
  clear H'
  repeat' ((conv => whnf); first | (((with_reducible show Gd ..); first | (with_reducible first | refine Gd.t ?_ | refine Gd.f ?_ | (first | apply Gd.dec | apply Gd.beq | apply Gd.bne) <;> intro _ | refine Gd.not ?_) | refine Gd.t ?_ | refine Gd.f ?_ | apply Gd.var <;> intro _) <;> try (exfalso; omega)) | with_reducible refine Sq.mk ?_ | ((with_reducible show Ld1 ..); first | refine Ld1.h H ?_ | refine Ld1.rF ?_ | refine Ld1.r ?_) | ((with_reducible show Ld ..); first | refine Ld.h H ?_ | refine Ld.r ?_) | ((with_reducible show Ix ..); first | refine Ix.h ?_ | refine Ix.ha ?_) | (refine St.h H ?_; clear H; intro _ H))
  (((conv => whnf); refine Cl.mk (is_r X k_name ⟨s.ts, some (e, p)⟩ _ (H.base2 HB) (H.atC 3 rfl) hts) ?_); rintro _ _ ⟨rfl, hx⟩; replace H := H.ext hx; clear hx)
  rw [is_err haD (by decide) (by decide)]
  repeat' ((conv => whnf); first | (((with_reducible show Gd ..); first | (with_reducible first | refine Gd.t ?_ | refine Gd.f ?_ | (first | apply Gd.dec | apply Gd.beq | apply Gd.bne) <;> intro _ | refine Gd.not ?_) | refine Gd.t ?_ | refine Gd.f ?_ | apply Gd.var <;> intro _) <;> try (exfalso; omega)) | with_reducible refine Sq.mk ?_ | ((with_reducible show Ld1 ..); first | refine Ld1.h H ?_ | refine Ld1.rF ?_ | refine Ld1.r ?_) | ((with_reducible show Ld ..); first | refine Ld.h H ?_ | refine Ld.r ?_) | ((with_reducible show Ix ..); first | refine Ix.h ?_ | refine Ix.ha ?_) | (refine St.h H ?_; clear H; intro _ H))
  ((conv => whnf); refine Cl.mk (take_r X s_rp ⟨s.ts, some (e, p)⟩ _ (H.base2 HB) (H.atC 3 rfl) hts) ?_)
  rintro _ w3 ⟨rfl, H'⟩
  rw [takeR_doom hD (by decide) (by decide)] at H'
  replace H := H.upd (c := rq ws A cw pr ⟨s.ts, some (e, p)⟩) H' rfl (.inl rfl)
  clear H'
  repeat' ((conv => whnf); first | (((with_reducible show Gd ..); first | (with_reducible first | refine Gd.t ?_ | refine Gd.f ?_ | (first | apply Gd.dec | apply Gd.beq | apply Gd.bne) <;> intro _ | refine Gd.not ?_) | refine Gd.t ?_ | refine Gd.f ?_ | apply Gd.var <;> intro _) <;> try (exfalso; omega)) | with_reducible refine Sq.mk ?_ | ((with_reducible show Ld1 ..); first | refine Ld1.h H ?_ | refine Ld1.rF ?_ | refine Ld1.r ?_) | ((with_reducible show Ld ..); first | refine Ld.h H ?_ | refine Ld.r ?_) | ((with_reducible show Ix ..); first | refine Ix.h ?_ | refine Ix.ha ?_) | (refine St.h H ?_; clear H; intro _ H))
  ((conv => whnf); refine Cl.mk (blockD Y 1 ⟨s.ts, some (e, p)⟩ _ (H.base2 HB) (H.atC 3 rfl) haD) ?_)
  rintro _ w3 ⟨B, c, l, rfl, H'⟩
  replace H := H.updn (c := rq ws A cw pr ⟨s.ts, some (e, p)⟩) (Hp.swap H') rfl (.inl rfl) (.inl rfl)
  clear H'
  repeat' ((conv => whnf); first | (((with_reducible show Gd ..); first | (with_reducible first | refine Gd.t ?_ | refine Gd.f ?_ | (first | apply Gd.dec | apply Gd.beq | apply Gd.bne) <;> intro _ | refine Gd.not ?_) | refine Gd.t ?_ | refine Gd.f ?_ | apply Gd.var <;> intro _) <;> try (exfalso; omega)) | with_reducible refine Sq.mk ?_ | ((with_reducible show Ld1 ..); first | refine Ld1.h H ?_ | refine Ld1.rF ?_ | refine Ld1.r ?_) | ((with_reducible show Ld ..); first | refine Ld.h H ?_ | refine Ld.r ?_) | ((with_reducible show Ix ..); first | refine Ix.h ?_ | refine Ix.ha ?_) | (refine St.h H ?_; clear H; intro _ H))
  replace H := Hp.nil H strE 1 9
  exact ⟨⟨[], none, 0, [], B, c, l⟩, fm_v rfl, Hp.fnsN [] (H.sel [0, 0, 3] rfl)⟩
variable {F : PF} (C : RCon src ws A cw pr wb F)
include C
set_option maxHeartbeats 8000000 in
theorem function_r {α : Type} (R0 : Res α) (s : RS) (w : World) (hwb : Ext wb w) (h : RdQ ws A cw pr s w) (ha : AtR R0 s) (hne : (R0.and fun _ ts => functionP F ts) ≠ .out) :
    Cl Tryz.prog 30 #[.pointer (some ⟨pr, 0, none⟩)] w (OkRF ws A cw pr Prod.snd (R0.and fun _ ts => functionP F ts) w) (fun _ _ => False) := by
  have X := Y.x
  have HB := X.ok hwb
  obtain ⟨R, hR⟩ : ∃ R, R = R0.and fun _ ts => functionP F ts := ⟨_, rfl⟩
  rw [← hR] at hne ⊢
  refine calls_ex (args := [.pointer (some ⟨pr, 0, none⟩)]) T.ok Tryz.func30 rfl rfl rfl rfl ?_
  have H := Hp.start (S := (· = pr)) (rq_ok h) (fun k hk => hk)
  clear h
  refine Sq.mk ?_
  ((conv => whnf); refine Al.hp H ?_; clear H; intro p2 _ H _)
  repeat' ((conv => whnf); first | (((with_reducible show Gd ..); first | (with_reducible first | refine Gd.t ?_ | refine Gd.f ?_ | (first | apply Gd.dec | apply Gd.beq | apply Gd.bne) <;> intro _ | refine Gd.not ?_) | refine Gd.t ?_ | refine Gd.f ?_ | apply Gd.var <;> intro _) <;> try (exfalso; omega)) | with_reducible refine Sq.mk ?_ | ((with_reducible show Ld1 ..); first | refine Ld1.h H ?_ | refine Ld1.rF ?_ | refine Ld1.r ?_) | ((with_reducible show Ld ..); first | refine Ld.h H ?_ | refine Ld.r ?_) | ((with_reducible show Ix ..); first | refine Ix.h ?_ | refine Ix.ha ?_) | (refine St.h H ?_; clear H; intro _ H))
  (((conv => whnf); refine Cl.mk (takeRR Y C k_fn (R0) s _ (H.base2 HB) (H.atC 1 rfl) ha (by decide) (by decide) (by decide)) ?_); rintro _ w3 ⟨kd_, pp_, tx0, ee_, s1, rfl, ha1, hv1, H'⟩; replace H := H.upd (c := rq ws A cw pr s) H' rfl (.inl rfl); clear H')
  repeat' ((conv => whnf); first | (((with_reducible show Gd ..); first | (with_reducible first | refine Gd.t ?_ | refine Gd.f ?_ | (first | apply Gd.dec | apply Gd.beq | apply Gd.bne) <;> intro _ | refine Gd.not ?_) | refine Gd.t ?_ | refine Gd.f ?_ | apply Gd.var <;> intro _) <;> try (exfalso; omega)) | with_reducible refine Sq.mk ?_ | ((with_reducible show Ld1 ..); first | refine Ld1.h H ?_ | refine Ld1.rF ?_ | refine Ld1.r ?_) | ((with_reducible show Ld ..); first | refine Ld.h H ?_ | refine Ld.r ?_) | ((with_reducible show Ix ..); first | refine Ix.h ?_ | refine Ix.ha ?_) | (refine St.h H ?_; clear H; intro _ H))
  (((conv => whnf); refine Cl.mk (takeRR Y C k_name (R0.and fun _ ts => takeP k_fn ts) s1 _ (H.base2 HB) (H.atC 1 rfl) ha1 (by decide) (by decide) (by decide)) ?_); rintro _ w3 ⟨kd_, pp_, tx1, ee_, s2, rfl, ha2, hv2, H'⟩; replace H := H.upd (c := rq ws A cw pr s1) H' rfl (.inl rfl); clear H')
  ((conv => whnf); refine Al.hp H ?_; clear H; intro p3 _ H _)
  repeat' ((conv => whnf); first | (((with_reducible show Gd ..); first | (with_reducible first | refine Gd.t ?_ | refine Gd.f ?_ | (first | apply Gd.dec | apply Gd.beq | apply Gd.bne) <;> intro _ | refine Gd.not ?_) | refine Gd.t ?_ | refine Gd.f ?_ | apply Gd.var <;> intro _) <;> try (exfalso; omega)) | with_reducible refine Sq.mk ?_ | ((with_reducible show Ld1 ..); first | refine Ld1.h H ?_ | refine Ld1.rF ?_ | refine Ld1.r ?_) | ((with_reducible show Ld ..); first | refine Ld.h H ?_ | refine Ld.r ?_) | ((with_reducible show Ix ..); first | refine Ix.h ?_ | refine Ix.ha ?_) | (refine St.h H ?_; clear H; intro _ H))
  ((conv => whnf); refine Al.hp H ?_; clear H; intro p4 _ H _)
  repeat' ((conv => whnf); first | (((with_reducible show Gd ..); first | (with_reducible first | refine Gd.t ?_ | refine Gd.f ?_ | (first | apply Gd.dec | apply Gd.beq | apply Gd.bne) <;> intro _ | refine Gd.not ?_) | refine Gd.t ?_ | refine Gd.f ?_ | apply Gd.var <;> intro _) <;> try (exfalso; omega)) | with_reducible refine Sq.mk ?_ | ((with_reducible show Ld1 ..); first | refine Ld1.h H ?_ | refine Ld1.rF ?_ | refine Ld1.r ?_) | ((with_reducible show Ld ..); first | refine Ld.h H ?_ | refine Ld.r ?_) | ((with_reducible show Ix ..); first | refine Ix.h ?_ | refine Ix.ha ?_) | (refine St.h H ?_; clear H; intro _ H))
  (((conv => whnf); refine Cl.mk (takeRR Y C s_lp ((R0.and fun _ ts => takeP k_fn ts).and fun _ ts => takeP k_name ts) s2 _ (H.base2 HB) (H.atC 3 rfl) ha2 (by decide) (by decide) (by decide)) ?_); rintro _ w3 ⟨kd_, pp_, tx2, ee_, s3, rfl, ha3, hv3, H'⟩; replace H := H.upd (c := rq ws A cw pr s2) H' rfl (.inl rfl); clear H')
  replace hR : R = (((R0.and fun _ ts => takeP k_fn ts).and fun _ ts => takeP k_name ts).and fun _ ts => takeP s_lp ts).bind fun q ts3 => (loopN (ts3.length + 1) [] ts3).bind fun ps ts4 => (takeP s_rp ts4).bind fun _ ts5 => (F.block 1 ts5).bind fun b ts6 => .ok (q.1.1.1, ⟨q.1.2.text, ps, b⟩) ts6 := by
    rw [hR]
    simp only [Res.and_bind]
    cases R0 with
    | out => rfl
    | err e p => rfl
    | ok a ts =>
      show ((functionP F ts).bind _) = _
      unfold functionP
      simp only [Res.bind_assoc]
      rfl
  have hvn := Vl.fst (f := fun _ ts => takeP s_lp ts) hv2
  have hsm3 := RdQ.small X (H.atC (c := rq ws A cw pr s3) 3 rfl)
  clear hv1 hv2 hv3 ha1 ha2 ha
  generalize (((R0.and fun _ ts => takeP k_fn ts).and fun _ ts => takeP k_name ts).and fun _ ts => takeP s_lp ts) = R3 at ha3 hvn hR
  replace H := Hp.nil H strE 1 9
  (have hfix : ∀ Γ w', Hp (· = pr) w w' (qu strE 1 9 none 0 ([] : List Bs) :: bk p4 34 [.string (bs tx1), .slice none (([] : List Bs)).length 0, .slice none 0 0] :: Γ) → Hp (· = pr) w w' (qu strE 1 9 none 0 ([] : List Bs) :: bk p4 34 [.string (bs tx1), .slice none (([] : List Bs)).length 0, .slice none 0 0] :: Γ) := fun _ _ h => h)
  replace H := hfix _ _ H
  clear hfix
  repeat' ((conv => whnf); first | (((with_reducible show Gd ..); first | (with_reducible first | refine Gd.t ?_ | refine Gd.f ?_ | (first | apply Gd.dec | apply Gd.beq | apply Gd.bne) <;> intro _ | refine Gd.not ?_) | refine Gd.t ?_ | refine Gd.f ?_ | apply Gd.var <;> intro _) <;> try (exfalso; omega)) | with_reducible refine Sq.mk ?_ | ((with_reducible show Ld1 ..); first | refine Ld1.h H ?_ | refine Ld1.rF ?_ | refine Ld1.r ?_) | ((with_reducible show Ld ..); first | refine Ld.h H ?_ | refine Ld.r ?_) | ((with_reducible show Ix ..); first | refine Ix.h ?_ | refine Ix.ha ?_) | (refine St.h H ?_; clear H; intro _ H))
  (((conv => whnf); refine Cl.mk (is_r X k_name s3 _ (H.base2 HB) (H.atC 4 rfl) (ends_ne ha3.ends)) ?_); rintro _ _ ⟨rfl, hx⟩; replace H := H.ext hx; clear hx)
  by_cases hkn : isR k_name s3 = true
  case neg =>
    rw [Bool.eq_false_iff.2 hkn]
    have ha := ha3
    have hexit : R = ((R3.and fun _ ts => takeP s_rp ts).and fun _ ts => F.block 1 ts).map (fun p => (p.1.1.1.1.1, ⟨p.1.1.1.2.text, [], p.2⟩)) := by
      rw [hR, Res.map]
      simp only [Res.and_bind]
      cases R3 with
      | out => rfl
      | err e p => rfl
      | ok q ts3 =>
        rw [is_ok ha3] at hkn
        have hk : ¬ curK ts3 = k_name := by simpa using hkn
        show (loopN (ts3.length + 1) [] ts3).bind _ = (takeP s_rp ts3).bind _
        unfold loopN
        by_cases hrp : curK ts3 = s_rp
        · rw [if_pos hrp]; rfl
        · rw [if_neg hrp, if_neg (by simp)]
          show ((takeP k_name ts3).bind _).bind _ = _
          rw [take_no hk, take_no hrp]; rfl
    ((repeat' ((conv => whnf); first | (((with_reducible show Gd ..); first | (with_reducible first | refine Gd.t ?_ | refine Gd.f ?_ | (first | apply Gd.dec | apply Gd.beq | apply Gd.bne) <;> intro _ | refine Gd.not ?_) | refine Gd.t ?_ | refine Gd.f ?_ | apply Gd.var <;> intro _) <;> try (exfalso; omega)) | with_reducible refine Sq.mk ?_ | ((with_reducible show Ld1 ..); first | refine Ld1.h H ?_ | refine Ld1.rF ?_ | refine Ld1.r ?_) | ((with_reducible show Ld ..); first | refine Ld.h H ?_ | refine Ld.r ?_) | ((with_reducible show Ix ..); first | refine Ix.h ?_ | refine Ix.ha ?_) | (refine St.h H ?_; clear H; intro _ H))); (((conv => whnf); refine Cl.mk (takeRR Y C s_rp (R3) s3 _ (H.base2 HB) (H.atC 4 rfl) ha (by decide) (by decide) (by decide)) ?_); rintro _ w3 ⟨kd_, pp_, tx9, ee_, s6, rfl, ha6, hv6, H'⟩; replace H := H.upd (c := rq ws A cw pr s3) H' rfl (.inl rfl); clear H'); (repeat' ((conv => whnf); first | (((with_reducible show Gd ..); first | (with_reducible first | refine Gd.t ?_ | refine Gd.f ?_ | (first | apply Gd.dec | apply Gd.beq | apply Gd.bne) <;> intro _ | refine Gd.not ?_) | refine Gd.t ?_ | refine Gd.f ?_ | apply Gd.var <;> intro _) <;> try (exfalso; omega)) | with_reducible refine Sq.mk ?_ | ((with_reducible show Ld1 ..); first | refine Ld1.h H ?_ | refine Ld1.rF ?_ | refine Ld1.r ?_) | ((with_reducible show Ld ..); first | refine Ld.h H ?_ | refine Ld.r ?_) | ((with_reducible show Ix ..); first | refine Ix.h ?_ | refine Ix.ha ?_) | (refine St.h H ?_; clear H; intro _ H))); ((conv => whnf); refine Cl.mk (blockR Y C ((R3).and fun _ ts => takeP s_rp ts) 1 s6 _ (by omega) (H.base2 HB) (H.atC 4 rfl) ha6 (Res.map_out (g := (fun p => (p.1.1.1.1.1, (⟨p.1.1.1.2.text, [], p.2⟩ : Fnc)))) (by rw [← hexit]; exact hne))) ?_); rintro _ w9 ⟨B, cB, b, s7, rfl, ha7, hv7, H'⟩; replace H := H.updn (c := rq ws A cw pr s6) (Hp.swap H') rfl (.inl rfl) (.inl rfl); clear H'; (repeat' ((conv => whnf); first | (((with_reducible show Gd ..); first | (with_reducible first | refine Gd.t ?_ | refine Gd.f ?_ | (first | apply Gd.dec | apply Gd.beq | apply Gd.bne) <;> intro _ | refine Gd.not ?_) | refine Gd.t ?_ | refine Gd.f ?_ | apply Gd.var <;> intro _) <;> try (exfalso; omega)) | with_reducible refine Sq.mk ?_ | ((with_reducible show Ld1 ..); first | refine Ld1.h H ?_ | refine Ld1.rF ?_ | refine Ld1.r ?_) | ((with_reducible show Ld ..); first | refine Ld.h H ?_ | refine Ld.r ?_) | ((with_reducible show Ix ..); first | refine Ix.h ?_ | refine Ix.ha ?_) | (refine St.h H ?_; clear H; intro _ H))); refine ⟨⟨tx1, none, 0, ([] : List Bs), B, cB, b⟩, s7, fm_v rfl, by rw [hexit]; exact ha7.map _, ?_, Hp.fnsN tx1 (H.sel [1, 0, 3] rfl)⟩; rw [hexit]; refine Vl.map (Vl.mono2 hv7 (Vl.fst (Vl.fst hvn)) fun a h1 h2 => by simp only [FM.e]; rw [h1, h2]))
  rw [hkn]
  obtain ⟨q, ts3, rfl⟩ : ∃ a ts, R3 = .ok a ts := by
    cases R3 with
    | out => exact absurd hR hne
    | err e p => rw [is_err ha3 (by decide) (by decide)] at hkn; cases hkn
    | ok a ts => exact ⟨a, ts, rfl⟩
  obtain ⟨rfl, hg3⟩ := ha3.gd
  rw [is_ok ha3] at hkn
  have hk3 : curK ts3 = k_name := by simpa using hkn
  have hnm : tx1 = q.1.2.text := hvn q ts3 rfl
  have hR2 : R = (((.ok q ts3 : Res (((α × Tk) × Tk) × Tk)).and fun _ ts => takeP k_name ts).map (fun p => [p.2.text])).bind fun ps ts => (namesR ts3.length ps ts).bind fun ps ts5 => (F.block 1 ts5).bind fun b ts6 => .ok (q.1.1.1, ⟨q.1.2.text, ps, b⟩) ts6 := by
    rw [hR, Res.map_bind, Res.and_bind]
    show (loopN (ts3.length + 1) [] ts3).bind _ = (takeP k_name ts3).bind _
    unfold loopN
    rw [if_neg (by rw [hk3]; decide), if_neg (by simp)]
    show ((takeP k_name ts3).bind _).bind _ = _
    rw [Res.bind_assoc]
    congr 1
    funext t ts4
    rw [List.nil_append, ← names_R ts3.length [t.text] ts4 (by simp), Res.bind_assoc]
    congr 1
    funext ps ts5
    rw [Res.bind_assoc]; rfl
  simp only at hsm3
  repeat' ((conv => whnf); first | (((with_reducible show Gd ..); first | (with_reducible first | refine Gd.t ?_ | refine Gd.f ?_ | (first | apply Gd.dec | apply Gd.beq | apply Gd.bne) <;> intro _ | refine Gd.not ?_) | refine Gd.t ?_ | refine Gd.f ?_ | apply Gd.var <;> intro _) <;> try (exfalso; omega)) | with_reducible refine Sq.mk ?_ | ((with_reducible show Ld1 ..); first | refine Ld1.h H ?_ | refine Ld1.rF ?_ | refine Ld1.r ?_) | ((with_reducible show Ld ..); first | refine Ld.h H ?_ | refine Ld.r ?_) | ((with_reducible show Ix ..); first | refine Ix.h ?_ | refine Ix.ha ?_) | (refine St.h H ?_; clear H; intro _ H))
  (((conv => whnf); refine Cl.mk (takeRR Y C k_name ((.ok q ts3 : Res (((α × Tk) × Tk) × Tk))) ⟨ts3, none⟩ _ (H.base2 HB) (H.atC 4 rfl) ha3 (by decide) (by decide) (by decide)) ?_); rintro _ w3 ⟨kd_, pp_, tx4, ee_, s4, rfl, ha4, hv4, H'⟩; replace H := H.upd (c := rq ws A cw pr ⟨ts3, none⟩) H' rfl (.inl rfl); clear H')
  ((conv => whnf); refine Al.hp H ?_; clear H; intro p5 _ H _)
  repeat' ((conv => whnf); first | (((with_reducible show Gd ..); first | (with_reducible first | refine Gd.t ?_ | refine Gd.f ?_ | (first | apply Gd.dec | apply Gd.beq | apply Gd.bne) <;> intro _ | refine Gd.not ?_) | refine Gd.t ?_ | refine Gd.f ?_ | apply Gd.var <;> intro _) <;> try (exfalso; omega)) | with_reducible refine Sq.mk ?_ | ((with_reducible show Ld1 ..); first | refine Ld1.h H ?_ | refine Ld1.rF ?_ | refine Ld1.r ?_) | ((with_reducible show Ld ..); first | refine Ld.h H ?_ | refine Ld.r ?_) | ((with_reducible show Ix ..); first | refine Ix.h ?_ | refine Ix.ha ?_) | (refine St.h H ?_; clear H; intro _ H))
  refine Sm.lith (cs := strE tx4) H T.ok (fun p6 w6 H _ => ?_)
  refine Sm.ap1 (enc := strE) tx4 H T.ok ?_ ?_ (fun A' c' w7 H => ?_)
  · show (0 + 1) * 16 ≤ _; omega
  · show 0 + 1 ≤ _; omega
  simp only [List.cons_append, List.nil_append] at H
  repeat' ((conv => whnf); first | (((with_reducible show Gd ..); first | (with_reducible first | refine Gd.t ?_ | refine Gd.f ?_ | (first | apply Gd.dec | apply Gd.beq | apply Gd.bne) <;> intro _ | refine Gd.not ?_) | refine Gd.t ?_ | refine Gd.f ?_ | apply Gd.var <;> intro _) <;> try (exfalso; omega)) | with_reducible refine Sq.mk ?_ | ((with_reducible show Ld1 ..); first | refine Ld1.h H ?_ | refine Ld1.rF ?_ | refine Ld1.r ?_) | ((with_reducible show Ld ..); first | refine Ld.h H ?_ | refine Ld.r ?_) | ((with_reducible show Ix ..); first | refine Ix.h ?_ | refine Ix.ha ?_) | (refine St.h H ?_; clear H; intro _ H))
  replace H := H.sel [0, 0, 0, 1, 1] rfl
  have hL : ∀ (P : Option Addr) (cp : Nat) (ps : List Bs) (k1 : Bs) (i1 : Int) (x1 : Bs) (e1 : Int) (s : RS) (w' : World), Hp (· = pr) w w' [bk p5 99 [.string (bs k1), .int .i64 i1, .string (bs x1), .int .i64 e1], qu strE 1 9 P cp ps, bk p4 34 [.string (bs tx1), .slice P ps.length cp, .slice none 0 0], bk p2 34 T.t34.zero.cells.toList, rq ws A cw pr s] → Hp (· = pr) w w' [bk p5 99 [.string (bs k1), .int .i64 i1, .string (bs x1), .int .i64 e1], qu strE 1 9 P cp ps, bk p4 34 [.string (bs tx1), .slice P ps.length cp, .slice none 0 0], bk p2 34 T.t34.zero.cells.toList, rq ws A cw pr s] := fun _ _ _ _ _ _ _ _ _ h => h
  replace H := hL A' c' [tx4] _ _ _ _ s4 _ H
  refine Lp.g0 T.ok (σ := Res (List Bs) × Nat × Option Addr × Nat × List Bs × (Bs × Int × Bs × Int) × RS) (fun q => [(5, .pointer (some ⟨p5, 0, none⟩)), (4, .pointer (some ⟨p4, 0, none⟩)), (2, .pointer (some ⟨p2, 0, none⟩)), (0, .pointer (some ⟨pr, 0, none⟩))])
    (fun z w' => R = z.1.bind (fun ps ts => (namesR z.2.1 ps ts).bind fun ps ts5 => (F.block 1 ts5).bind fun b ts6 => .ok (q.1.1.1, ⟨q.1.2.text, ps, b⟩) ts6) ∧ AtR z.1 z.2.2.2.2.2.2 ∧ Vl z.1 (fun a => z.2.2.2.2.1 = a) ∧ z.2.1 + z.2.2.2.2.1.length ≤ 20002 ∧ Hp (· = pr) w w' [bk p5 99 [.string (bs z.2.2.2.2.2.1.1), .int .i64 z.2.2.2.2.2.1.2.1, .string (bs z.2.2.2.2.2.1.2.2.1), .int .i64 z.2.2.2.2.2.1.2.2.2], qu strE 1 9 z.2.2.1 z.2.2.2.1 z.2.2.2.2.1, bk p4 34 [.string (bs tx1), .slice z.2.2.1 z.2.2.2.2.1.length z.2.2.2.1, .slice none 0 0], bk p2 34 T.t34.zero.cells.toList, rq ws A cw pr z.2.2.2.2.2.2]) (fun z _ => z.2.1)
    (((.ok q ts3 : Res (((α × Tk) × Tk) × Tk)).and fun _ ts => takeP k_name ts).map (fun p => [p.2.text]), ts3.length, A', c', [tx4], (kd_, pp_, tx4, ee_), s4) rfl ⟨rfl, rfl, rfl, rfl, trivial⟩ ⟨hR2, ha4.map _, Vl.map (hv4.mono fun p h => by rw [h]), by simp only [List.length_cons, List.length_nil]; omega, H⟩ ?_
  clear H hR hR2 ha3 ha4 hv4 hvn hL hg3
  rintro ⟨Rc, n, P, cp, ps, ⟨k1, i1, x1, e1⟩, s⟩ w5 ⟨hR, ha, hv, hn, H⟩
  simp only at hR ha hv hn H ⊢
  repeat' ((conv => whnf); first | (((with_reducible show Gd ..); first | (with_reducible first | refine Gd.t ?_ | refine Gd.f ?_ | (first | apply Gd.dec | apply Gd.beq | apply Gd.bne) <;> intro _ | refine Gd.not ?_) | refine Gd.t ?_ | refine Gd.f ?_ | apply Gd.var <;> intro _) <;> try (exfalso; omega)) | with_reducible refine Sq.mk ?_ | ((with_reducible show Ld1 ..); first | refine Ld1.h H ?_ | refine Ld1.rF ?_ | refine Ld1.r ?_) | ((with_reducible show Ld ..); first | refine Ld.h H ?_ | refine Ld.r ?_) | ((with_reducible show Ix ..); first | refine Ix.h ?_ | refine Ix.ha ?_) | (refine St.h H ?_; clear H; intro _ H))
  (((conv => whnf); refine Cl.mk (is_r X s_comma s _ (H.base2 HB) (H.atC 4 rfl) (ends_ne ha.ends)) ?_); rintro _ _ ⟨rfl, hx⟩; replace H := H.ext hx; clear hx)
  by_cases hcm : isR s_comma s = true
  · rw [hcm]
    obtain ⟨a, ts, rfl⟩ : ∃ a ts, Rc = .ok a ts := by
      cases Rc with
      | out => exact absurd hR hne
      | err e p => rw [is_err ha (by decide) (by decide)] at hcm; cases hcm
      | ok a ts => exact ⟨a, ts, rfl⟩
    obtain ⟨rfl, hg⟩ := ha.gd
    rw [is_ok ha] at hcm
    have hk : curK ts = s_comma := by simpa using hcm
    have hst := step_at hg.ends hg.ok (by rw [hk]; decide)
    obtain ⟨t0, r0, rfl⟩ : ∃ t0 r0, ts = t0 :: r0 := by
      cases ts with
      | nil => exact absurd rfl (ends_ne ha.ends)
      | cons t0 r0 => exact ⟨t0, r0, rfl⟩
    cases n with
    | zero => exact absurd hR hne
    | succ n =>
    replace hR : R = (((stepP false (t0 :: r0)).and fun _ ts => takeP k_name ts).map (fun p => a ++ [p.2.text])).bind fun ps ts => (namesR n ps ts).bind fun ps ts5 => (F.block 1 ts5).bind fun b ts6 => .ok (q.1.1.1, ⟨q.1.2.text, ps, b⟩) ts6 := by
      rw [hR, Res.map_bind, Res.and_bind]
      show ((namesR (n + 1) a (t0 :: r0)).bind _) = _
      rw [namesR_s, if_pos hk, Res.bind_assoc]
      congr 1
      funext _ ts1
      rw [Res.bind_assoc]
    repeat' ((conv => whnf); first | (((with_reducible show Gd ..); first | (with_reducible first | refine Gd.t ?_ | refine Gd.f ?_ | (first | apply Gd.dec | apply Gd.beq | apply Gd.bne) <;> intro _ | refine Gd.not ?_) | refine Gd.t ?_ | refine Gd.f ?_ | apply Gd.var <;> intro _) <;> try (exfalso; omega)) | with_reducible refine Sq.mk ?_ | ((with_reducible show Ld1 ..); first | refine Ld1.h H ?_ | refine Ld1.rF ?_ | refine Ld1.r ?_) | ((with_reducible show Ld ..); first | refine Ld.h H ?_ | refine Ld.r ?_) | ((with_reducible show Ix ..); first | refine Ix.h ?_ | refine Ix.ha ?_) | (refine St.h H ?_; clear H; intro _ H))
    (obtain ⟨j, hj1, hj2, hb0⟩ := H.atC (c := rq ws A cw pr (⟨t0 :: r0, none⟩)) 4 rfl; have hjl := X.lt hj1 (by first | exact List.cons_ne_nil _ _ | assumption); replace H := Hp.ofQ H hb0; clear hb0)
    repeat' ((conv => whnf); first | (((with_reducible show Gd ..); first | (with_reducible first | refine Gd.t ?_ | refine Gd.f ?_ | (first | apply Gd.dec | apply Gd.beq | apply Gd.bne) <;> intro _ | refine Gd.not ?_) | refine Gd.t ?_ | refine Gd.f ?_ | apply Gd.var <;> intro _) <;> try (exfalso; omega)) | with_reducible refine Sq.mk ?_ | ((with_reducible show Ld1 ..); first | refine Ld1.h H ?_ | refine Ld1.rF ?_ | refine Ld1.r ?_) | ((with_reducible show Ld ..); first | refine Ld.h H ?_ | refine Ld.r ?_) | ((with_reducible show Ix ..); first | refine Ix.h ?_ | refine Ix.ha ?_) | (refine St.h H ?_; clear H; intro _ H))
    (have hwj : IntKind.i64.wrap ((j : Int) + 1) = ((j + 1 : Nat) : Int) := w64 rfl (by omega) (by omega); rw [hwj] at H; replace H := Hp.toQ (pr := pr) (s := ⟨r0, none⟩) (k := j + 1) H (List.tail_drop.symm.trans (congrArg List.tail hj1)) (fun e p h => by cases h); clear hwj hj1 hj2 hjl)
    have hst2 : AtR (stepP false (t0 :: r0)) ⟨r0, none⟩ := hst
    (((conv => whnf); refine Cl.mk (takeRR Y C k_name (stepP false (t0 :: r0)) ⟨r0, none⟩ _ (H.base2 HB) (H.atC 4 rfl) hst2 (by decide) (by decide) (by decide)) ?_); rintro _ w3 ⟨kd_, pp_, tx6, ee_, s6, rfl, ha6, hv6, H'⟩; replace H := H.upd (c := rq ws A cw pr ⟨r0, none⟩) H' rfl (.inl rfl); clear H')
    repeat' ((conv => whnf); first | (((with_reducible show Gd ..); first | (with_reducible first | refine Gd.t ?_ | refine Gd.f ?_ | (first | apply Gd.dec | apply Gd.beq | apply Gd.bne) <;> intro _ | refine Gd.not ?_) | refine Gd.t ?_ | refine Gd.f ?_ | apply Gd.var <;> intro _) <;> try (exfalso; omega)) | with_reducible refine Sq.mk ?_ | ((with_reducible show Ld1 ..); first | refine Ld1.h H ?_ | refine Ld1.rF ?_ | refine Ld1.r ?_) | ((with_reducible show Ld ..); first | refine Ld.h H ?_ | refine Ld.r ?_) | ((with_reducible show Ix ..); first | refine Ix.h ?_ | refine Ix.ha ?_) | (refine St.h H ?_; clear H; intro _ H))
    refine Sm.lith (cs := strE tx6) H T.ok (fun p6 w6 H _ => ?_)
    refine Sm.ap1 (enc := strE) tx6 H T.ok ?_ ?_ (fun A' c' w7 H => ?_)
    · show (ps.length + 1) * 16 ≤ _; omega
    · omega
    simp only [List.cons_append, List.nil_append] at H
    repeat' ((conv => whnf); first | (((with_reducible show Gd ..); first | (with_reducible first | refine Gd.t ?_ | refine Gd.f ?_ | (first | apply Gd.dec | apply Gd.beq | apply Gd.bne) <;> intro _ | refine Gd.not ?_) | refine Gd.t ?_ | refine Gd.f ?_ | apply Gd.var <;> intro _) <;> try (exfalso; omega)) | with_reducible refine Sq.mk ?_ | ((with_reducible show Ld1 ..); first | refine Ld1.h H ?_ | refine Ld1.rF ?_ | refine Ld1.r ?_) | ((with_reducible show Ld ..); first | refine Ld.h H ?_ | refine Ld.r ?_) | ((with_reducible show Ix ..); first | refine Ix.h ?_ | refine Ix.ha ?_) | (refine St.h H ?_; clear H; intro _ H))
    have hle : ps = a := hv a _ rfl
    have hlen1 : (ps ++ [tx6]).length = ps.length + 1 := by simp
    refine ⟨(((stepP false (t0 :: r0)).and fun _ ts => takeP k_name ts).map (fun p => a ++ [p.2.text]), n, A', c', ps ++ [tx6], (kd_, pp_, tx6, ee_), s6), ⟨rfl, rfl, rfl, rfl, trivial⟩, rfl, ⟨hR, ha6.map _, Vl.map (hv6.mono fun p h => by rw [hle, h]), ?_, ?_⟩, Nat.lt_succ_self n⟩
    · simp only [List.length_append, List.length_cons, List.length_nil]; omega
    · simp only [hlen1]
      exact H
  · rw [Bool.eq_false_iff.2 hcm]
    have hexit : R = ((Rc.and fun _ ts => takeP s_rp ts).and fun _ ts => F.block 1 ts).map (fun p => (q.1.1.1, ⟨q.1.2.text, p.1.1, p.2⟩)) := by
      rw [hR, Res.map]
      simp only [Res.and_bind]
      cases Rc with
      | out => exact absurd hR hne
      | err e p => rfl
      | ok a ts =>
        cases n with
        | zero => exact absurd hR hne
        | succ n =>
          rw [is_ok ha] at hcm
          have hk : ¬ curK ts = s_comma := by simpa using hcm
          show ((namesR (n + 1) a ts).bind _) = (takeP s_rp ts).bind _
          rw [namesR_s, if_neg hk, Res.bind_assoc]
          cases takeP s_rp ts <;> rfl
    ((repeat' ((conv => whnf); first | (((with_reducible show Gd ..); first | (with_reducible first | refine Gd.t ?_ | refine Gd.f ?_ | (first | apply Gd.dec | apply Gd.beq | apply Gd.bne) <;> intro _ | refine Gd.not ?_) | refine Gd.t ?_ | refine Gd.f ?_ | apply Gd.var <;> intro _) <;> try (exfalso; omega)) | with_reducible refine Sq.mk ?_ | ((with_reducible show Ld1 ..); first | refine Ld1.h H ?_ | refine Ld1.rF ?_ | refine Ld1.r ?_) | ((with_reducible show Ld ..); first | refine Ld.h H ?_ | refine Ld.r ?_) | ((with_reducible show Ix ..); first | refine Ix.h ?_ | refine Ix.ha ?_) | (refine St.h H ?_; clear H; intro _ H))); (((conv => whnf); refine Cl.mk (takeRR Y C s_rp (Rc) s _ (H.base2 HB) (H.atC 4 rfl) ha (by decide) (by decide) (by decide)) ?_); rintro _ w3 ⟨kd_, pp_, tx9, ee_, s6, rfl, ha6, hv6, H'⟩; replace H := H.upd (c := rq ws A cw pr s) H' rfl (.inl rfl); clear H'); (repeat' ((conv => whnf); first | (((with_reducible show Gd ..); first | (with_reducible first | refine Gd.t ?_ | refine Gd.f ?_ | (first | apply Gd.dec | apply Gd.beq | apply Gd.bne) <;> intro _ | refine Gd.not ?_) | refine Gd.t ?_ | refine Gd.f ?_ | apply Gd.var <;> intro _) <;> try (exfalso; omega)) | with_reducible refine Sq.mk ?_ | ((with_reducible show Ld1 ..); first | refine Ld1.h H ?_ | refine Ld1.rF ?_ | refine Ld1.r ?_) | ((with_reducible show Ld ..); first | refine Ld.h H ?_ | refine Ld.r ?_) | ((with_reducible show Ix ..); first | refine Ix.h ?_ | refine Ix.ha ?_) | (refine St.h H ?_; clear H; intro _ H))); ((conv => whnf); refine Cl.mk (blockR Y C ((Rc).and fun _ ts => takeP s_rp ts) 1 s6 _ (by omega) (H.base2 HB) (H.atC 4 rfl) ha6 (Res.map_out (g := (fun p => (q.1.1.1, (⟨q.1.2.text, p.1.1, p.2⟩ : Fnc)))) (by rw [← hexit]; exact hne))) ?_); rintro _ w9 ⟨B, cB, b, s7, rfl, ha7, hv7, H'⟩; replace H := H.updn (c := rq ws A cw pr s6) (Hp.swap H') rfl (.inl rfl) (.inl rfl); clear H'; (repeat' ((conv => whnf); first | (((with_reducible show Gd ..); first | (with_reducible first | refine Gd.t ?_ | refine Gd.f ?_ | (first | apply Gd.dec | apply Gd.beq | apply Gd.bne) <;> intro _ | refine Gd.not ?_) | refine Gd.t ?_ | refine Gd.f ?_ | apply Gd.var <;> intro _) <;> try (exfalso; omega)) | with_reducible refine Sq.mk ?_ | ((with_reducible show Ld1 ..); first | refine Ld1.h H ?_ | refine Ld1.rF ?_ | refine Ld1.r ?_) | ((with_reducible show Ld ..); first | refine Ld.h H ?_ | refine Ld.r ?_) | ((with_reducible show Ix ..); first | refine Ix.h ?_ | refine Ix.ha ?_) | (refine St.h H ?_; clear H; intro _ H))); refine ⟨⟨tx1, P, cp, ps, B, cB, b⟩, s7, fm_v rfl, by rw [hexit]; exact ha7.map _, ?_, Hp.fnsN tx1 (H.sel [2, 0, 3] rfl)⟩; rw [hexit]; refine Vl.map (Vl.mono2 hv7 (Vl.fst (Vl.fst hv)) fun a h1 h2 => by simp only [FM.e]; rw [h1, h2, hnm]))
end
end Go.Proofs.YtfnjodpehomgfaaGreatDoor
namespace Go.Proofs.YtfnjodpehomgfaaGreatDoor
open Go.RowKit Go.Extern.Stop Go.Stop Go.Extern
theorem tas_valueOf27 (t : Addr) (w : World) : (ReflectliteValue.unpack (.iface 61 (.pointer (some t)))).run Tryz.prog w
    = .ok (.agg #[.pointer (some ⟨10, 61, none⟩), .pointer (some ⟨w.heap.size, 0, none⟩), .int .u64 150]) (w.alloc (.cells #[.pointer (some t)] 61)) := by kernel_rfl
theorem tas_type27 (a : Addr) (w : World) : (ReflectliteValue.methodAny (ReflectliteValue.valueError "reflectlite.Value.Type" 0) (fun t _ _ _ => ReflectliteType.toType t) #[.agg #[.pointer (some ⟨10, 61, none⟩), .pointer (some a), .int .u64 150]]).run Tryz.prog w
    = .ok (.iface 137 (.agg #[.pointer (some ⟨10, 61, none⟩)])) w := by kernel_rfl
theorem tas_methodKind (h : Value) (w : World) : (Go.method 330 137 (.agg #[h]) "Kind").run Tryz.prog w = .ok (177, h) w := by kernel_rfl
theorem tas_kind27 (w : World) : ((ReflectliteType.abiMethod fun t => (fun a : Nat => Value.int IntKind.u8 (a : Int)) <$> Rtype.kind t) #[.pointer (some ⟨10, 61, none⟩)]).run Tryz.prog w = .ok (.int .u8 22) w := by kernel_rfl
theorem tas_kind25 (w : World) : ((ReflectliteType.abiMethod fun t => (fun a : Nat => Value.int IntKind.u8 (a : Int)) <$> Rtype.kind t) #[.pointer (some ⟨10, 56, none⟩)]).run Tryz.prog w = .ok (.int .u8 22) w := by kernel_rfl
theorem rlm (z : Sem Value) (f : TypeId → Addr → Nat → Nat → Sem Value) (v : Value) :
    ReflectliteValue.method z f #[v] = (do match ← ReflectliteValue.parts v with | none => z | some (t, a, fl) => f t a fl (fl % 32)) := rfl
theorem tas_parts27 (a : Addr) (w : World) : (ReflectliteValue.parts (.agg #[.pointer (some ⟨10, 61, none⟩), .pointer (some a), .int .u64 150])).run Tryz.prog w = .ok (some (61, a, 150)) w := by kernel_rfl
theorem tas_isNil27 (a p : Addr) (W : World) (ha : W.cell? a = some (.pointer (some p))) :
    (ReflectliteValue.method (ReflectliteValue.valueError "reflectlite.Value.IsNil" 0) ReflectliteValue.isNil #[.agg #[.pointer (some ⟨10, 61, none⟩), .pointer (some a), .int .u64 150]]).run Tryz.prog W = .ok (.bool false) W := by
  rw [rlm]
  simp only [Sem.run_bind, tas_parts27, Result.andThen]
  simp [ReflectliteValue.isNil, loadVar, isAgg, underlying, Tryz.underlying61, ha, Result.andThen]
theorem tas_methodElem (h : Value) (w : World) : (Go.method 330 137 (.agg #[h]) "Elem").run Tryz.prog w = .ok (188, .agg #[h]) w := by kernel_rfl
theorem tas_methodImplements (h : Value) (w : World) : (Go.method 330 137 (.agg #[h]) "Implements").run Tryz.prog w = .ok (189, .agg #[h]) w := by kernel_rfl
theorem tas_methodAssignableTo (h : Value) (w : World) : (Go.method 330 137 (.agg #[h]) "AssignableTo").run Tryz.prog w = .ok (186, .agg #[h]) w := by kernel_rfl
theorem tas_elem27 (w : World) : (ReflectliteType.method ReflectliteType.elem #[.agg #[.pointer (some ⟨10, 61, none⟩)]]).run Tryz.prog w = .ok (.iface 137 (.agg #[.pointer (some ⟨10, 56, none⟩)])) w := by kernel_rfl
theorem tas_implements25 (w : World) : (ReflectliteType.relation "Implements" ReflectliteType.implements_ #[.agg #[.pointer (some ⟨10, 56, none⟩)], .iface 137 (.agg #[.pointer (some ⟨10, 58, none⟩)])]).run Tryz.prog w = .ok (.bool true) w := by kernel_rfl
theorem tas_typeOf25 (v : Value) (w : World) : (ReflectliteType.typeOf #[.iface 56 v]).run Tryz.prog w = .ok (.iface 137 (.agg #[.pointer (some ⟨10, 56, none⟩)])) w := by kernel_rfl
theorem tas_assignable25 (w : World) : (ReflectliteType.relation "AssignableTo" ReflectliteType.assignableTo #[.agg #[.pointer (some ⟨10, 56, none⟩)], .iface 137 (.agg #[.pointer (some ⟨10, 56, none⟩)])]).run Tryz.prog w = .ok (.bool true) w := by kernel_rfl
theorem tas_valueOf25 (e : Addr) (w : World) : (ReflectliteValue.unpack (.iface 56 (.pointer (some e)))).run Tryz.prog w
    = .ok (.agg #[.pointer (some ⟨10, 56, none⟩), .pointer (some ⟨w.heap.size, 0, none⟩), .int .u64 150]) (w.alloc (.cells #[.pointer (some e)] 56)) := by kernel_rfl
theorem tas_elemOf27 (w : World) : (Rtype.elem? 61).run Tryz.prog w = .ok (some 56) w := by kernel_rfl
theorem tas_mk25 (p : Addr) (w : World) : (ReflectliteValue.mk 56 p ReflectliteValue.flagAddr).run Tryz.prog w = .ok (.agg #[.pointer (some ⟨10, 56, none⟩), .pointer (some p), .int .u64 406]) w := by kernel_rfl
theorem tas_elemV27 (a p : Addr) (W : World) (ha : W.cell? a = some (.pointer (some p))) :
    (ReflectliteValue.method (ReflectliteValue.valueError "reflectlite.Value.Elem" 0) ReflectliteValue.elem #[.agg #[.pointer (some ⟨10, 61, none⟩), .pointer (some a), .int .u64 150]]).run Tryz.prog W
      = .ok (.agg #[.pointer (some ⟨10, 56, none⟩), .pointer (some p), .int .u64 406]) W := by
  rw [rlm]
  simp only [Sem.run_bind, tas_parts27, Result.andThen]
  simp [ReflectliteValue.elem, loadVar, isAgg, underlying, Tryz.underlying61, ha, Result.andThen, tas_elemOf27, tas_mk25]
theorem rls (v x : Value) : ReflectliteValue.set #[v, x] = (do
    let (some (dst, a, fl), some (src, b, _)) := (← ReflectliteValue.parts v, ← ReflectliteValue.parts x)
      | unsupported (.noEntry "extern/(internal/reflectlite.Value).Set.zeroValue")
    if fl / ReflectliteValue.flagAddr % 2 == 0 then unsupported (.noEntry "extern/(internal/reflectlite.Value).Set.unaddressable")
    let val ← loadVar src b
    if ← Rtype.directlyAssignable dst src then storeVar dst a val
    else if ← Rtype.implements dst src then
      if (← Rtype.kind src) == 20 then
        match val with
        | .nilIface => unsupported (.noEntry "extern/reflectlite: a nil value of one interface type handed on as a value of another")
        | _ => storeVar dst a val
      else storeVar dst a (.iface src val)
    else panicString ("reflectlite.Set: value of type " ++ (← Rtype.spelt src) ++ " is not assignable to type " ++ (← Rtype.spelt dst))
    pure (.tuple #[])) := rfl
theorem tas_parts25a (a : Addr) (w : World) : (ReflectliteValue.parts (.agg #[.pointer (some ⟨10, 56, none⟩), .pointer (some a), .int .u64 406])).run Tryz.prog w = .ok (some (56, a, 406)) w := by kernel_rfl
theorem tas_parts25 (a : Addr) (w : World) : (ReflectliteValue.parts (.agg #[.pointer (some ⟨10, 56, none⟩), .pointer (some a), .int .u64 150])).run Tryz.prog w = .ok (some (56, a, 150)) w := by kernel_rfl
theorem tas_direct25 (w : World) : (Rtype.directlyAssignable 56 56).run Tryz.prog w = .ok true w := by kernel_rfl
theorem tas_set25 (ta b e : Addr) (old : Value) (W : World) (hb : W.cell? b = some (.pointer (some e))) (ht : W.cell? ta = some old) (hf : W.frozen? ta = false) :
    (ReflectliteValue.set #[.agg #[.pointer (some ⟨10, 56, none⟩), .pointer (some ta), .int .u64 406], .agg #[.pointer (some ⟨10, 56, none⟩), .pointer (some b), .int .u64 150]]).run Tryz.prog W
      = .ok (.tuple #[]) (W.setCell ta (.pointer (some e))) := by
  rw [rls]
  simp only [Sem.run_bind, tas_parts25a, tas_parts25, Result.andThen]
  simp [ReflectliteValue.flagAddr, loadVar, isAgg, underlying, Tryz.underlying56, hb, Result.andThen, tas_direct25, storeVar, Value.cells, storeCells, Addr.add]
  rw [run_store Tryz.prog W ta _ _ (by rfl)]
  simp [ht, hf]
set_option maxRecDepth 20000 in
set_option maxHeartbeats 8000000 in
theorem as_hit (e t : Addr) (old : Value) (w : World) (hg : w.cell? ⟨0, 0, none⟩ = some (.iface 137 (.agg #[.pointer (some ⟨10, 58, none⟩)]))) (ht0 : w.cell? t = some old) (hf0 : w.frozen? t = false) :
    Calls Tryz.prog 32 #[.iface 56 (.pointer (some e)), .iface 61 (.pointer (some t))] w fun ev w' => ev = .returned (.bool true) ∧ w' = ((((w.alloc (.cells #[.pointer (some t)] 61)).alloc (.cells #[.pointer (some ⟨10, 61, none⟩), .pointer (some ⟨w.heap.size, 0, none⟩), .int .u64 150] 107)).alloc (.cells #[.pointer (some ⟨10, 61, none⟩), .pointer (some ⟨w.heap.size, 0, none⟩), .int .u64 150] 107)).alloc (.cells #[.pointer (some e)] 56)).setCell t (.pointer (some e)) := by
  have h6 := @run_callFunc_extern Tryz.prog 55 _ (fun args => ReflectliteValue.unpack (args.getD 0 (.tuple #[]))) Tryz.func55 (by kernel_rfl) (by kernel_rfl) (by kernel_rfl) (by kernel_rfl)
  have h7 := @run_callFunc_extern Tryz.prog 56 _ (ReflectliteValue.methodAny (ReflectliteValue.valueError "reflectlite.Value.Type" 0) (fun t _ _ _ => ReflectliteType.toType t)) Tryz.func56 (by kernel_rfl) (by kernel_rfl) (by kernel_rfl) (by kernel_rfl)
  have h8 := @run_callFunc_extern Tryz.prog 57 _ (ReflectliteValue.method (ReflectliteValue.valueError "reflectlite.Value.IsNil" 0) ReflectliteValue.isNil) Tryz.func57 (by kernel_rfl) (by kernel_rfl) (by kernel_rfl) (by kernel_rfl)
  have h27 := @run_callFunc_extern Tryz.prog 177 _ (ReflectliteType.abiMethod fun t => do pure (.int .u8 (← Rtype.kind t))) Tryz.func177 (by kernel_rfl) (by kernel_rfl) (by kernel_rfl) (by kernel_rfl)
  have h37 := @run_callFunc_extern Tryz.prog 188 _ (ReflectliteType.method ReflectliteType.elem) Tryz.func188 (by kernel_rfl) (by kernel_rfl) (by kernel_rfl) (by kernel_rfl)
  have h38 := @run_callFunc_extern Tryz.prog 189 _ (ReflectliteType.relation "Implements" ReflectliteType.implements_) Tryz.func189 (by kernel_rfl) (by kernel_rfl) (by kernel_rfl) (by kernel_rfl)
  have h10 := @run_callFunc_extern Tryz.prog 84 _ ReflectliteType.typeOf Tryz.func84 (by kernel_rfl) (by kernel_rfl) (by kernel_rfl) (by kernel_rfl)
  have h35 := @run_callFunc_extern Tryz.prog 186 _ (ReflectliteType.relation "AssignableTo" ReflectliteType.assignableTo) Tryz.func186 (by kernel_rfl) (by kernel_rfl) (by kernel_rfl) (by kernel_rfl)
  have h11 := @run_callFunc_extern Tryz.prog 85 _ (ReflectliteValue.method (ReflectliteValue.valueError "reflectlite.Value.Elem" 0) ReflectliteValue.elem) Tryz.func85 (by kernel_rfl) (by kernel_rfl) (by kernel_rfl) (by kernel_rfl)
  have h12 := @run_callFunc_extern Tryz.prog 86 _ ReflectliteValue.set Tryz.func86 (by kernel_rfl) (by kernel_rfl) (by kernel_rfl) (by kernel_rfl)
  have tO := tas_typeOf25
  have mA := tas_methodAssignableTo
  have a25 := tas_assignable25
  have v25 := tas_valueOf25
  have f6 := tas_valueOf27
  have f7 := tas_type27
  have mK := tas_methodKind
  have mE := tas_methodElem
  have mI := tas_methodImplements
  have k27 := tas_kind27
  have k25 := tas_kind25
  have e27 := tas_elem27
  have i25 := tas_implements25
  have n8 := tas_isNil27 ⟨w.heap.size, 0, none⟩ t ((w.alloc (.cells #[.pointer (some t)] 61)).alloc (.cells #[.pointer (some ⟨10, 61, none⟩), .pointer (some ⟨w.heap.size, 0, none⟩), .int .u64 150] 107)) (by simp)
  have hlt : 0 < w.heap.size := by
    rcases Nat.eq_zero_or_pos w.heap.size with h0 | h
    · simp [World.cell?, h0] at hg
    · exact h
  have hg2 : ((w.alloc (.cells #[.pointer (some t)] 61)).alloc (.cells #[.pointer (some ⟨10, 61, none⟩), .pointer (some ⟨w.heap.size, 0, none⟩), .int .u64 150] 107)).cell? ⟨0, 0, none⟩ = some (.iface 137 (.agg #[.pointer (some ⟨10, 58, none⟩)])) := by
    rw [World.cell?_alloc_lt _ _ ⟨0, 0, none⟩ (by simp), World.cell?_alloc_lt _ _ ⟨0, 0, none⟩ hlt]; exact hg
  have htl : t.block < w.heap.size := by
    rcases Nat.lt_or_ge t.block w.heap.size with h | h
    · exact h
    · simp [World.cell?, Array.getElem?_eq_none h] at ht0
  have el := tas_elemV27 ⟨w.heap.size, 0, none⟩ t (((w.alloc (.cells #[.pointer (some t)] 61)).alloc (.cells #[.pointer (some ⟨10, 61, none⟩), .pointer (some ⟨w.heap.size, 0, none⟩), .int .u64 150] 107)).alloc (.cells #[.pointer (some ⟨10, 61, none⟩), .pointer (some ⟨w.heap.size, 0, none⟩), .int .u64 150] 107)) (by rw [World.cell?_alloc_lt _ _ ⟨w.heap.size, 0, none⟩ (by simp; omega)]; simp)
  have st := tas_set25 t ⟨w.heap.size + 1 + 1 + 1, 0, none⟩ e old ((((w.alloc (.cells #[.pointer (some t)] 61)).alloc (.cells #[.pointer (some ⟨10, 61, none⟩), .pointer (some ⟨w.heap.size, 0, none⟩), .int .u64 150] 107)).alloc (.cells #[.pointer (some ⟨10, 61, none⟩), .pointer (some ⟨w.heap.size, 0, none⟩), .int .u64 150] 107)).alloc (.cells #[.pointer (some e)] 56))
    (by rw [World.cell?_alloc_at _ _ _ _ (by simp)]; rfl)
    (by rw [World.cell?_alloc_lt _ _ t (by simp; omega), World.cell?_alloc_lt _ _ t (by simp; omega), World.cell?_alloc_lt _ _ t (by simp; omega), World.cell?_alloc_lt _ _ t htl]; exact ht0)
    (by rw [World.frozen?_alloc_old _ _ t (by simp; omega), World.frozen?_alloc_old _ _ t (by simp; omega), World.frozen?_alloc_old _ _ t (by simp; omega), World.frozen?_alloc_old _ _ t (Nat.ne_of_lt htl)]; exact hf0)
  go_enter Tryz.func32, Tryz.ntmps32
  go_wp2
  refine wp_loop_rounds 1 ?_
  rw [rounds_succ]
  go_wp2
  go_ret
  exact ⟨rfl, rfl⟩
end Go.Proofs.YtfnjodpehomgfaaGreatDoor
namespace Go.Proofs.YtfnjodpehomgfaaGreatDoor
open Go Go.Sh Go.Tx
theorem DCl.recov2 {P : Program} {T : Tab} (hT : TabOk P T) {f : FuncId} {fn : Func} {args : List Value} {w : World} {k : FrameMode → World → Prop} {m id d d2 : Nat} {o o2 : Oper} {c2 : Code} {u u1 : FrameMode} {v : Value}
    (hf : P.funcs[f]? = some fn) (hb : fn.body = some (.seq (.region id #[o, o2] false) c2)) (hm : fn.ntmps = m) (hrs : fn.results = #[]) (hn : Nat.ble args.length m = true)
    (ho : ∀ ρ w, (execOp ρ o).run P w = .ok .recover w) (hg : o.guard = none) (hd : o.dst = some d) (hdn : Nat.blt d m = true)
    (ho2 : o2.op = .assign (.tmp d)) (hg2 : o2.guard = none) (hd2 : o2.dst = some d2) (hdn2 : Nat.blt d2 m = true)
    (hu : (u = .returning ∧ v = .nilIface ∧ u1 = .returning) ∨ ∃ x, u = .panicking [{ v := x, recovered := false }] ∧ v = x ∧ u1 = .panicking [{ v := x, recovered := true }])
    (h : exC P T m c2 ⟨(d2, v) :: (d, v) :: argsEnv args 0, []⟩ w (fun e F w' => match e with | .normal | .ret => F.ds = [] ∧ k u1 w' | _ => False)) : DCl P f args.toArray u w k := by
  subst hm
  refine ⟨callsD_of_wpS hf hb fun c₀ cs hc => ?_⟩
  refine wpS_seq (wpS_region ?_)
  have hr0 : List.range (#[o, o2] : Array Oper).size = [0, 1] := rfl
  rw [hr0]
  have ha1 := (Agr.enter (fn := fn) hn).put (d := some d) (by simpa [dstOk] using hdn) v
  have ha := ha1.put (d := some d2) (by simpa [dstOk] using hdn2) v
  have hev := ha1.ev (.tmp d) v (by simp [evF, Fr.put, Sh.look])
  have fin : ∀ c₁ : Frame, c₁ = { c₀ with mode := u1 } → c2.wpS P (bodyPostS P fn c₀ cs (fun e u' w' => match e with | .returned _ => k u' w' | _ => False)) (Act.put (Act.put { tmps := args.toArray ++ Array.replicate (fn.ntmps - args.toArray.size) undef, defers := [] } (some d) v) (some d2) v) (c₁ :: cs) w := fun c₁ h1 => by
    refine wpS_of_wp (wp_mono (exC_sound hT c2 _ _ w _ ha (by exact h)) fun e a' w' q => ?_)
    obtain ⟨F', ha', q⟩ := q
    cases e with
    | normal =>
      refine ⟨ha'.2.1.trans q.1, u1, by rw [h1], .tuple #[], ?_, q.2⟩
      exact (by simp [results, hrs] : (results fn a'.tmps).run P w' = .ok (.tuple #[]) w')
    | ret =>
      refine ⟨ha'.2.1.trans q.1, u1, by rw [h1], .tuple #[], ?_, q.2⟩
      exact (by simp [results, hrs] : (results fn a'.tmps).run P w' = .ok (.tuple #[]) w')
    | _ => exact q.elim
  have snd : ∀ (Q : Exit → Act → List Frame → World → Prop) (c₁ : Frame), Q .normal (Act.put (Act.put { tmps := args.toArray ++ Array.replicate (fn.ntmps - args.toArray.size) undef, defers := [] } (some d) v) (some d2) v) (c₁ :: cs) w → wpOpsS P #[o, o2] Q [1] (Act.put { tmps := args.toArray ++ Array.replicate (fn.ntmps - args.toArray.size) undef, defers := [] } (some d) v) (c₁ :: cs) w := fun Q c₁ h1 => by
    unfold wpOpsS
    simp only [List.getElem?_toArray, List.getElem?_cons_succ, List.getElem?_cons_zero, wanted_none hg2, if_true]
    have hx : ∀ ρ w, (execOp ρ o2).run P w = .ok (.value (ρ (.tmp d))) w := fun ρ w => by unfold execOp; rw [ho2]; rfl
    simp only [hx, hev, Oper.upon, hd2]
    unfold wpOpsS
    exact h1
  unfold wpOpsS
  simp only [List.getElem?_toArray, List.getElem?_cons_zero, wanted_none hg, if_true, ho, hd]
  rcases hu with ⟨h1, rfl, h3⟩ | ⟨x, h1, rfl, h3⟩
  · have : recoverD (c₀ :: cs) = none := by simp [recoverD, hc, h1]
    simp only [this]
    exact snd _ c₀ (fin c₀ (by rw [h3, ← h1, ← hc]))
  · have : recoverD (c₀ :: cs) = some (v, { c₀ with mode := u1 } :: cs) := by simp [recoverD, hc, h1, h3]
    simp only [this]
    exact snd _ _ (fin _ rfl)
def EG (w : World) : Prop := w.cell? ⟨0, 0, none⟩ = some (.iface 137 (.agg #[.pointer (some ⟨10, 58, none⟩)]))
theorem EG.lt {w : World} (h : EG w) : 0 < w.heap.size := by
  rcases Nat.lt_or_ge 0 w.heap.size with h1 | h1
  · exact h1
  · unfold EG at h
    simp [World.cell?, Array.getElem?_eq_none h1] at h
theorem EG.ext {w w' : World} (h : EG w) (e : Ext w w') : EG w' := by
  have hb : w'.heap[0]? = w.heap[0]? := Go.RowKit.Below.block e _ h.lt
  unfold EG at h ⊢
  unfold World.cell? at h ⊢
  simp only at h hb ⊢
  rw [hb]; exact h
theorem as_c (q t : Nat) (old : Value) (w : World) (hE : EG w) (hb : Blk w t 56 [old]) :
    Cl Tryz.prog 32 #[.iface 56 (.pointer (some ⟨q, 0, none⟩)), .iface 61 (.pointer (some ⟨t, 0, none⟩))] w
      (fun v w' => v = .bool true ∧ Hp (· = t) w w' [bk t 56 [.pointer (some ⟨q, 0, none⟩)]]) (fun _ _ => False) := by
  refine ⟨Calls.mono (as_hit ⟨q, 0, none⟩ ⟨t, 0, none⟩ old w hE ?_ ?_) ?_⟩
  · exact hb.cell 0
  · exact hb.frozen _ rfl
  rintro ev w' ⟨rfl, rfl⟩
  refine ⟨rfl, ?_⟩
  have e := (((Ext.alloc w (.cells #[.pointer (some ⟨t, 0, none⟩)] 61)).trans (Ext.alloc _ (.cells #[.pointer (some ⟨10, 61, none⟩), .pointer (some ⟨w.heap.size, 0, none⟩), .int .u64 150] 107))).trans (Ext.alloc _ (.cells #[.pointer (some ⟨10, 61, none⟩), .pointer (some ⟨w.heap.size, 0, none⟩), .int .u64 150] 107))).trans (Ext.alloc _ (.cells #[.pointer (some ⟨q, 0, none⟩)] 56))
  have H0 : Hp (· = t) w w [bk t 56 [old]] := Hp.start (S := (· = t)) (bk_ok hb) (fun k hk => hk)
  have H := H0.ext e
  have hst := St.h (vs := [Value.pointer (some ⟨q, 0, none⟩)]) (o := 0) (k := fun w' => Hp (· = t) w w' [bk t 56 [.pointer (some ⟨q, 0, none⟩)]]) H (fun w' H => H)
  exact hst.out
attribute [local irreducible] Blk Ext RdS
theorem run_as (x : Value) (w : World) : (Instr.typeAssert (.iface 56 x) 20 58 true).run Tryz.prog w = .ok (.tuple #[.iface 56 x, .bool true]) w := by kernel_rfl
theorem parse1_ret (p2 p3 : Nat) (w : World) : DCl Tryz.prog 31 #[.pointer (some ⟨p2, 0, none⟩), .pointer (some ⟨p3, 0, none⟩)] .returning w (fun u w' => u = .returning ∧ Ext w w') := by
  refine DCl.recov2 (args := [.pointer (some ⟨p2, 0, none⟩), .pointer (some ⟨p3, 0, none⟩)]) T.ok Tryz.func31 rfl rfl rfl rfl (fun ρ w => rfl) rfl rfl rfl rfl rfl rfl rfl (.inl ⟨rfl, rfl, rfl⟩) ?_
  have H := Hp.begin nw w
  repeat' ((conv => whnf); first | (((with_reducible show Gd ..); first | (with_reducible first | refine Gd.t ?_ | refine Gd.f ?_ | (first | apply Gd.dec | apply Gd.beq | apply Gd.bne) <;> intro _ | refine Gd.not ?_) | refine Gd.t ?_ | refine Gd.f ?_ | apply Gd.var <;> intro _) <;> try (exfalso; omega)) | with_reducible refine Sq.mk ?_ | ((with_reducible show Ld1 ..); first | refine Ld1.h H ?_ | refine Ld1.rF ?_ | refine Ld1.r ?_) | ((with_reducible show Ld ..); first | refine Ld.h H ?_ | refine Ld.r ?_) | ((with_reducible show Ix ..); first | refine Ix.h ?_ | refine Ix.ha ?_) | (refine Al.hp H ?_; clear H; intro _ _ H _) | (refine St.h H ?_; clear H; intro _ H))
  exact ⟨rfl, rfl, H.e⟩
theorem parse1_pan {w0 w : World} {q p2 p3 : Nat} {e : Int} {p : Nat} {c2 x y : Value} (hE : EG w0) (H : Hp nw w0 w [bk q 63 [.int .i64 e, .int .i64 (p : Int)], bk p3 27 [x, y], bk p2 24 [c2]]) :
    DCl Tryz.prog 31 #[.pointer (some ⟨p2, 0, none⟩), .pointer (some ⟨p3, 0, none⟩)] (.panicking (pk q)) w
      (fun u w' => u = .panicking [{ v := .iface 56 (.pointer (some ⟨q, 0, none⟩)), recovered := true }] ∧ Hp nw w0 w' [bk p3 27 [.int .i64 e, .int .i64 (p : Int)], bk p2 24 [.slice none 0 0]]) := by
  refine DCl.recov2 (args := [.pointer (some ⟨p2, 0, none⟩), .pointer (some ⟨p3, 0, none⟩)]) T.ok Tryz.func31 rfl rfl rfl rfl (fun ρ w => rfl) rfl rfl rfl rfl rfl rfl rfl (.inr ⟨_, rfl, rfl, rfl⟩) ?_
  repeat' ((conv => whnf); first | (((with_reducible show Gd ..); first | (with_reducible first | refine Gd.t ?_ | refine Gd.f ?_ | (first | apply Gd.dec | apply Gd.beq | apply Gd.bne) <;> intro _ | refine Gd.not ?_) | refine Gd.t ?_ | refine Gd.f ?_ | apply Gd.var <;> intro _) <;> try (exfalso; omega)) | with_reducible refine Sq.mk ?_ | ((with_reducible show Ld1 ..); first | refine Ld1.h H ?_ | refine Ld1.rF ?_ | refine Ld1.r ?_) | ((with_reducible show Ld ..); first | refine Ld.h H ?_ | refine Ld.r ?_) | ((with_reducible show Ix ..); first | refine Ix.h ?_ | refine Ix.ha ?_) | (refine St.h H ?_; clear H; intro _ H))
  ((conv => whnf); refine Al.hp H ?_; clear H; intro p5 _ H _)
  repeat' ((conv => whnf); first | (((with_reducible show Gd ..); first | (with_reducible first | refine Gd.t ?_ | refine Gd.f ?_ | (first | apply Gd.dec | apply Gd.beq | apply Gd.bne) <;> intro _ | refine Gd.not ?_) | refine Gd.t ?_ | refine Gd.f ?_ | apply Gd.var <;> intro _) <;> try (exfalso; omega)) | with_reducible refine Sq.mk ?_ | ((with_reducible show Ld1 ..); first | refine Ld1.h H ?_ | refine Ld1.rF ?_ | refine Ld1.r ?_) | ((with_reducible show Ld ..); first | refine Ld.h H ?_ | refine Ld.r ?_) | ((with_reducible show Ix ..); first | refine Ix.h ?_ | refine Ix.ha ?_) | (refine Al.hp H ?_; clear H; intro _ _ H _) | (refine St.h H ?_; clear H; intro _ H))
  refine Sm.ran (run_as _ _) ?_
  repeat' ((conv => whnf); first | (((with_reducible show Gd ..); first | (with_reducible first | refine Gd.t ?_ | refine Gd.f ?_ | (first | apply Gd.dec | apply Gd.beq | apply Gd.bne) <;> intro _ | refine Gd.not ?_) | refine Gd.t ?_ | refine Gd.f ?_ | apply Gd.var <;> intro _) <;> try (exfalso; omega)) | with_reducible refine Sq.mk ?_ | ((with_reducible show Ld1 ..); first | refine Ld1.h H ?_ | refine Ld1.rF ?_ | refine Ld1.r ?_) | ((with_reducible show Ld ..); first | refine Ld.h H ?_ | refine Ld.r ?_) | ((with_reducible show Ix ..); first | refine Ix.h ?_ | refine Ix.ha ?_) | (refine Al.hp H ?_; clear H; intro _ _ H _) | (refine St.h H ?_; clear H; intro _ H))
  ((conv => whnf); refine Cl.mk (as_c q p5 (.pointer none) _ (hE.ext H.e) (H.blk 0 rfl)) ?_)
  rintro _ w6 ⟨rfl, H'⟩
  replace H := H.updb H'
  clear H'
  repeat' ((conv => whnf); first | (((with_reducible show Gd ..); first | (with_reducible first | refine Gd.t ?_ | refine Gd.f ?_ | (first | apply Gd.dec | apply Gd.beq | apply Gd.bne) <;> intro _ | refine Gd.not ?_) | refine Gd.t ?_ | refine Gd.f ?_ | apply Gd.var <;> intro _) <;> try (exfalso; omega)) | with_reducible refine Sq.mk ?_ | ((with_reducible show Ld1 ..); first | refine Ld1.h H ?_ | refine Ld1.rF ?_ | refine Ld1.r ?_) | ((with_reducible show Ld ..); first | refine Ld.h H ?_ | refine Ld.r ?_) | ((with_reducible show Ix ..); first | refine Ix.h ?_ | refine Ix.ha ?_) | (refine Al.hp H ?_; clear H; intro _ _ H _) | (refine St.h H ?_; clear H; intro _ H))
  exact ⟨rfl, rfl, H.sel [2, 2] rfl⟩
def PR (l : Bs) : Res (List Fnc) := if 16384 < l.length then .err 2 0 else parseP l (fuelOf l)
def OkP (l : Bs) (w : World) (v : Value) (w' : World) : Prop :=
  (∃ m ts A c, PR l = .ok (m.map FM.e) ts ∧ v = .tuple #[.agg #[.slice A m.length c], .agg #[.int .i64 0, .int .i64 0]] ∧ m.length ≤ 2000000 ∧ Hp nw w w' [qu FM.enc 3 34 A c m, fns m]) ∨
  (∃ e p, PR l = .err e p ∧ v = .tuple #[.agg #[.slice none 0 0], .agg #[.int .i64 e, .int .i64 (p : Int)]] ∧ Ext w w')
structure Rg (w : World) : Prop where
  tb : Tb w
  eg : EG w
theorem Rg.ext {w w' : World} (h : Rg w) (e : Ext w w') : Rg w' := ⟨h.tb.ext e, h.eg.ext e⟩
set_option maxHeartbeats 4000000 in
theorem Parse_c (l : Bs) (w : World) (hG : Rg w) : Cl Tryz.prog 12 #[.string (bs l)] w (OkP l w) (fun _ _ => False) := by
  refine calls_exd (args := [.string (bs l)]) T.ok Tryz.func12 rfl rfl rfl rfl ?_
  have H := Hp.begin nw w
  have hsz := bs_size l
  refine Sq.mk ?_
  ((conv => whnf); refine Al.hp H ?_; clear H; intro p2 _ H _)
  ((conv => whnf); refine Al.hp H ?_; clear H; intro p3 _ H _)
  by_cases hlong : 16384 < l.length
  · repeat' ((conv => whnf); first | (((with_reducible show Gd ..); first | (with_reducible first | refine Gd.t ?_ | refine Gd.f ?_ | (first | apply Gd.dec | apply Gd.beq | apply Gd.bne) <;> intro _ | refine Gd.not ?_) | refine Gd.t ?_ | refine Gd.f ?_ | apply Gd.var <;> intro _) <;> try (exfalso; omega)) | with_reducible refine Sq.mk ?_ | ((with_reducible show Ld1 ..); first | refine Ld1.h H ?_ | refine Ld1.rF ?_ | refine Ld1.r ?_) | ((with_reducible show Ld ..); first | refine Ld.h H ?_ | refine Ld.r ?_) | ((with_reducible show Ix ..); first | refine Ix.h ?_ | refine Ix.ha ?_) | (refine Al.hp H ?_; clear H; intro _ _ H _) | (refine St.h H ?_; clear H; intro _ H))
    all_goals first | (exfalso; omega) | skip
    exact .inr ⟨2, 0, by unfold PR; rw [if_pos hlong], rfl, H.e⟩
  obtain ⟨R, hR⟩ : ∃ R, R = PR l := ⟨_, rfl⟩
  have hne : R ≠ .out := by
    rw [hR]; unfold PR; rw [if_neg hlong]
    intro e
    have := parse_fin l
    rw [e] at this
    exact this
  have hRp : R = parseP l (fuelOf l) := by rw [hR]; unfold PR; rw [if_neg hlong]
  unfold parseP at hRp
  repeat' ((conv => whnf); first | (((with_reducible show Gd ..); first | (with_reducible first | refine Gd.t ?_ | refine Gd.f ?_ | (first | apply Gd.dec | apply Gd.beq | apply Gd.bne) <;> intro _ | refine Gd.not ?_) | refine Gd.t ?_ | refine Gd.f ?_ | apply Gd.var <;> intro _) <;> try (exfalso; omega)) | with_reducible refine Sq.mk ?_ | ((with_reducible show Ld1 ..); first | refine Ld1.h H ?_ | refine Ld1.rF ?_ | refine Ld1.r ?_) | ((with_reducible show Ld ..); first | refine Ld.h H ?_ | refine Ld.r ?_) | ((with_reducible show Ix ..); first | refine Ix.h ?_ | refine Ix.ha ?_) | (refine St.h H ?_; clear H; intro _ H))
  all_goals first | (exfalso; omega) | skip
  ((conv => whnf); refine Al.hp H ?_; clear H; intro pr _ H _)
  repeat' ((conv => whnf); first | (((with_reducible show Gd ..); first | (with_reducible first | refine Gd.t ?_ | refine Gd.f ?_ | (first | apply Gd.dec | apply Gd.beq | apply Gd.bne) <;> intro _ | refine Gd.not ?_) | refine Gd.t ?_ | refine Gd.f ?_ | apply Gd.var <;> intro _) <;> try (exfalso; omega)) | with_reducible refine Sq.mk ?_ | ((with_reducible show Ld1 ..); first | refine Ld1.h H ?_ | refine Ld1.rF ?_ | refine Ld1.r ?_) | ((with_reducible show Ld ..); first | refine Ld.h H ?_ | refine Ld.r ?_) | ((with_reducible show Ix ..); first | refine Ix.h ?_ | refine Ix.ha ?_) | (refine Al.hp H ?_; clear H; intro _ _ H _) | (refine St.h H ?_; clear H; intro _ H))
  have hfix : ∀ w', Hp nw w w' [bk pr 68 (rdrCs l 0 ⟨[], [], 0, 0, 0⟩), bk p3 27 [.int .i64 0, .int .i64 0], bk p2 24 [.slice none 0 0]] → Hp nw w w' [bk pr 68 (rdrCs l 0 ⟨[], [], 0, 0, 0⟩), bk p3 27 [.int .i64 0, .int .i64 0], bk p2 24 [.slice none 0 0]] := fun _ h => h
  replace H := hfix _ H
  clear hfix
  have hwl := words_len l (l.length + 1) 0
  replace H := Hp.toR (t := ⟨[], [], 0, 0, 0⟩) (r := words l (l.length + 1) 0) H (Nat.zero_le _) ⟨fun _ => rfl, by omega, by decide, by decide⟩
  have X : Txt l pr w := ⟨by assumption, hG.tb, by omega⟩
  have C := con_all X (fuelOf l)
  (conv => whnf)
  refine Cl.mkX (step_c false l pr (⟨[], [], 0, 0, 0⟩ :: words l (l.length + 1) 0) w _ H.e X.lo X.tb X.len (H.atC 0 rfl) (by show ([] : Bs) ≠ k_end; decide)) ?_ ?_
  rotate_left
  · rintro ch w9 ⟨e9, p9, q9, h9, rfl, H'⟩
    replace H := H.upd (c := rdr l pr (⟨[], [], 0, 0, 0⟩ :: words l (l.length + 1) 0)) H' rfl (.inl rfl)
    have hR9 : R = .err e9 p9 := by rw [hRp, h9]; rfl
    (conv => whnf)
    refine DCl.mono (parse1_pan hG.eg (H.sel [0, 0, 0] rfl)) ?_
    rintro _ w10 ⟨rfl, H2⟩
    replace H := H2
    repeat' ((conv => whnf); first | (((with_reducible show Gd ..); first | (with_reducible first | refine Gd.t ?_ | refine Gd.f ?_ | (first | apply Gd.dec | apply Gd.beq | apply Gd.bne) <;> intro _ | refine Gd.not ?_) | refine Gd.t ?_ | refine Gd.f ?_ | apply Gd.var <;> intro _) <;> try (exfalso; omega)) | with_reducible refine Sq.mk ?_ | ((with_reducible show Ld1 ..); first | refine Ld1.h H ?_ | refine Ld1.rF ?_ | refine Ld1.r ?_) | ((with_reducible show Ld ..); first | refine Ld.h H ?_ | refine Ld.r ?_) | ((with_reducible show Ix ..); first | refine Ix.h ?_ | refine Ix.ha ?_) | (refine Al.hp H ?_; clear H; intro _ _ H _) | (refine St.h H ?_; clear H; intro _ H))
    exact .inr ⟨e9, p9, by rw [← hR, hR9], rfl, H.e⟩
  rintro _ w3 ⟨ts, h1, H'⟩
  replace H := H.upd (c := rdr l pr (⟨[], [], 0, 0, 0⟩ :: words l (l.length + 1) 0)) H' rfl (.inl rfl)
  clear H'
  rw [h1, Res.bind_ok] at hRp
  replace H := Hp.nil (Hp.fns0 H) FM.enc 3 34
  repeat' ((conv => whnf); first | ((with_reducible show Gd (bs _ == _) _ _); first | refine Gd.sY (by assumption) ?_ | refine Gd.sk (by assumption) ?_ | refine Gd.sN (by assumption) ?_) | ((conv => whnf); first | (((with_reducible show Gd ..); first | (with_reducible first | refine Gd.t ?_ | refine Gd.f ?_ | (first | apply Gd.dec | apply Gd.beq | apply Gd.bne) <;> intro _ | refine Gd.not ?_) | refine Gd.t ?_ | refine Gd.f ?_ | apply Gd.var <;> intro _) <;> try (exfalso; omega)) | with_reducible refine Sq.mk ?_ | ((with_reducible show Ld1 ..); first | refine Ld1.h H ?_ | refine Ld1.rF ?_ | refine Ld1.r ?_) | ((with_reducible show Ld ..); first | refine Ld.h H ?_ | refine Ld.r ?_) | ((with_reducible show Ix ..); first | refine Ix.h ?_ | refine Ix.ha ?_) | (refine Al.hp H ?_; clear H; intro _ _ H _) | (refine St.h H ?_; clear H; intro _ H)) | refine Sm.strix T.ok ?_)
  (conv => whnf)
  refine Dr.chXk T.ok mixed [0, 1, 2, 6] [3, 4, 5, 7] (by kernel_rfl) rfl rfl (fun w' => Blk w' p2 24 [.slice none 0 0]) (fun ch w' => ∃ e9 p9 q9 c9, R = .err e9 p9 ∧ ch = pk q9 ∧ Hp nw w w' [bk q9 63 [.int .i64 e9, .int .i64 (p9 : Int)], bk p3 27 [.int .i64 0, .int .i64 0], bk p2 24 [c9]])
    (fun ch w' h => ?_) (fun w1 eT _ => ?_)
  · obtain ⟨e9, p9, q9, c9, hR9, rfl, H⟩ := h
    (conv => whnf)
    refine DCl.mono (parse1_pan hG.eg H) ?_
    rintro _ w10 ⟨rfl, H2⟩
    replace H := H2
    repeat' ((conv => whnf); first | (((with_reducible show Gd ..); first | (with_reducible first | refine Gd.t ?_ | refine Gd.f ?_ | (first | apply Gd.dec | apply Gd.beq | apply Gd.bne) <;> intro _ | refine Gd.not ?_) | refine Gd.t ?_ | refine Gd.f ?_ | apply Gd.var <;> intro _) <;> try (exfalso; omega)) | with_reducible refine Sq.mk ?_ | ((with_reducible show Ld1 ..); first | refine Ld1.h H ?_ | refine Ld1.rF ?_ | refine Ld1.r ?_) | ((with_reducible show Ld ..); first | refine Ld.h H ?_ | refine Ld.r ?_) | ((with_reducible show Ix ..); first | refine Ix.h ?_ | refine Ix.ha ?_) | (refine Al.hp H ?_; clear H; intro _ _ H _) | (refine St.h H ?_; clear H; intro _ H))
    exact .inr ⟨e9, p9, by rw [← hR, hR9], rfl, H.e⟩
  replace H := H.ext eT
  repeat' ((conv => whnf); first | refine QLd1.own (fun _ hw => hw) ?_ | refine QLd.own (fun _ hw => hw) ?_)
  (conv => whnf)
  refine ⟨H.blk 4 rfl, ?_⟩
  (conv => whnf)
  refine Cl.mkX (function_c X C (ts) _ H.e (H.atC 2 rfl) (Res.bind_out (by rw [← hRp]; exact hne))) ?_ ?_
  rotate_left
  · rintro ch w9 ⟨e9, p9, q9, h9, rfl, H'⟩
    replace H := H.upd (c := rdr l pr (ts)) H' rfl (.inl rfl)
    exact ⟨e9, p9, q9, _, by rw [hRp, h9]; rfl, rfl, H.sel [2, 2, 2] rfl⟩
  rintro _ w3 ⟨⟨n1, P1, c1, ps1, B1, d1, b1⟩, ts1, h2, rfl, H'⟩
  replace H := H.updn (c := rdr l pr (ts)) (Hp.swap H') rfl (.inl rfl) (.inl rfl)
  clear H'
  rw [h2, Res.bind_ok] at hRp
  (conv => whnf)
  refine ⟨H.blk 5 rfl, ?_⟩
  refine Sm.lith (cs := FM.enc ⟨n1, P1, c1, ps1, B1, d1, b1⟩) H T.ok (fun p5 w4 H _ => ?_)
  (conv => whnf)
  refine ⟨H.blk 6 rfl, ?_⟩
  refine Sm.ap1 (enc := FM.enc) ⟨n1, P1, c1, ps1, B1, d1, b1⟩ H T.ok ?_ ?_ (fun A' c' w6 H => ?_)
  · show (0 + 1) * 64 ≤ _; omega
  · show 0 + 1 ≤ _; omega
  simp only [List.cons_append, List.nil_append] at H
  (conv => whnf)
  refine ⟨H.blk 5 rfl, ?_⟩
  repeat' ((conv => whnf); first | ((with_reducible show Gd (bs _ == _) _ _); first | refine Gd.sY (by assumption) ?_ | refine Gd.sk (by assumption) ?_ | refine Gd.sN (by assumption) ?_) | ((conv => whnf); first | (((with_reducible show Gd ..); first | (with_reducible first | refine Gd.t ?_ | refine Gd.f ?_ | (first | apply Gd.dec | apply Gd.beq | apply Gd.bne) <;> intro _ | refine Gd.not ?_) | refine Gd.t ?_ | refine Gd.f ?_ | apply Gd.var <;> intro _) <;> try (exfalso; omega)) | with_reducible refine Sq.mk ?_ | ((with_reducible show Ld1 ..); first | refine Ld1.h H ?_ | refine Ld1.rF ?_ | refine Ld1.r ?_) | ((with_reducible show Ld ..); first | refine Ld.h H ?_ | refine Ld.r ?_) | ((with_reducible show Ix ..); first | refine Ix.h ?_ | refine Ix.ha ?_) | (refine Al.hp H ?_; clear H; intro _ _ H _) | (refine St.h H ?_; clear H; intro _ H)) | refine Sm.strix T.ok ?_)
  have hN : ts1.length ≤ l.length + 2 := (H.atC (c := rdr l pr ts1) 3 rfl).len
  generalize hN0 : ts1.length + 1 = N at hRp
  have hNb : N ≤ 1000010 := by omega
  replace H := Hp.swap (Hp.fnsS (l := []) (H.sel [0, 1, 0, 0, 0, 0] rfl))
  refine Lp.go T.ok (σ := Nat × Option Addr × Nat × List FM × List Tk) (fun q => [(2, .pointer (some ⟨p2, 0, none⟩)), (3, .pointer (some ⟨p3, 0, none⟩)), (4, .pointer (some ⟨pr, 0, none⟩))])
    (fun q w' => R = loopF (pf (fuelOf l)) q.1 (q.2.2.2.1.map FM.e) q.2.2.2.2 ∧ q.1 + q.2.2.2.1.length ≤ N + 1 ∧ Hp nw w w' [qu FM.enc 3 34 q.2.1 q.2.2.1 q.2.2.2.1, fns q.2.2.2.1, rdr l pr q.2.2.2.2, bk p3 27 [.int .i64 0, .int .i64 0], bk p2 24 [.slice q.2.1 q.2.2.2.1.length q.2.2.1]]) (fun q _ => q.1) (N, A', c', [⟨n1, P1, c1, ps1, B1, d1, b1⟩], ts1) ⟨rfl, rfl, rfl, trivial⟩ ⟨hRp, Nat.le_refl _, H⟩ ?_
  clear H hRp hN0 hN h2 h1
  rintro ⟨f, A, c, fs, ts⟩ w5 ⟨hRp, hN, H⟩
  simp only at hRp hN H ⊢
  cases f with
  | zero => exact absurd hRp hne
  | succ f =>
  simp only [loopF] at hRp
  obtain ⟨nx, t0, r0, rfl, hnx, hr0, hb0⟩ := H.atC (c := rdr l pr ts) 2 rfl
  replace H := Hp.ofR H hb0
  clear hb0
  by_cases hk : t0.kind = k_end
  · rw [if_pos (show curK (t0 :: r0) = k_end from hk)] at hRp
    repeat' ((conv => whnf); first | ((with_reducible show Gd (bs _ == _) _ _); first | refine Gd.sY (by assumption) ?_ | refine Gd.sk (by assumption) ?_ | refine Gd.sN (by assumption) ?_) | ((conv => whnf); first | (((with_reducible show Gd ..); first | (with_reducible first | refine Gd.t ?_ | refine Gd.f ?_ | (first | apply Gd.dec | apply Gd.beq | apply Gd.bne) <;> intro _ | refine Gd.not ?_) | refine Gd.t ?_ | refine Gd.f ?_ | apply Gd.var <;> intro _) <;> try (exfalso; omega)) | with_reducible refine Sq.mk ?_ | ((with_reducible show Ld1 ..); first | refine Ld1.h H ?_ | refine Ld1.rF ?_ | refine Ld1.r ?_) | ((with_reducible show Ld ..); first | refine Ld.h H ?_ | refine Ld.r ?_) | ((with_reducible show Ix ..); first | refine Ix.h ?_ | refine Ix.ha ?_) | (refine Al.hp H ?_; clear H; intro _ _ H _) | (refine St.h H ?_; clear H; intro _ H)) | refine Sm.strix T.ok ?_)
    (conv => whnf)
    refine DCl.mono (parse1_ret p2 p3 _) ?_
    rintro _ _ ⟨rfl, hx⟩
    replace H := H.ext hx
    clear hx
    refine ⟨rfl, ?_⟩
    repeat' ((conv => whnf); first | (((with_reducible show Gd ..); first | (with_reducible first | refine Gd.t ?_ | refine Gd.f ?_ | (first | apply Gd.dec | apply Gd.beq | apply Gd.bne) <;> intro _ | refine Gd.not ?_) | refine Gd.t ?_ | refine Gd.f ?_ | apply Gd.var <;> intro _) <;> try (exfalso; omega)) | with_reducible refine Sq.mk ?_ | ((with_reducible show Ld1 ..); first | refine Ld1.h H ?_ | refine Ld1.rF ?_ | refine Ld1.r ?_) | ((with_reducible show Ld ..); first | refine Ld.h H ?_ | refine Ld.r ?_) | ((with_reducible show Ix ..); first | refine Ix.h ?_ | refine Ix.ha ?_) | (refine Al.hp H ?_; clear H; intro _ _ H _) | (refine St.h H ?_; clear H; intro _ H))
    exact .inl ⟨fs, t0 :: r0, A, c, by rw [← hR, hRp], rfl, by omega, H.sel [0, 0] rfl⟩
  rw [if_neg (show ¬ curK (t0 :: r0) = k_end from hk)] at hRp
  repeat' ((conv => whnf); first | ((with_reducible show Gd (bs _ == _) _ _); first | refine Gd.sY (by assumption) ?_ | refine Gd.sk (by assumption) ?_ | refine Gd.sN (by assumption) ?_) | ((conv => whnf); first | (((with_reducible show Gd ..); first | (with_reducible first | refine Gd.t ?_ | refine Gd.f ?_ | (first | apply Gd.dec | apply Gd.beq | apply Gd.bne) <;> intro _ | refine Gd.not ?_) | refine Gd.t ?_ | refine Gd.f ?_ | apply Gd.var <;> intro _) <;> try (exfalso; omega)) | with_reducible refine Sq.mk ?_ | ((with_reducible show Ld1 ..); first | refine Ld1.h H ?_ | refine Ld1.rF ?_ | refine Ld1.r ?_) | ((with_reducible show Ld ..); first | refine Ld.h H ?_ | refine Ld.r ?_) | ((with_reducible show Ix ..); first | refine Ix.h ?_ | refine Ix.ha ?_) | (refine Al.hp H ?_; clear H; intro _ _ H _) | (refine St.h H ?_; clear H; intro _ H)) | refine Sm.strix T.ok ?_)
  replace H := Hp.toR H hnx hr0
  (conv => whnf)
  refine Dr.chXk T.ok mixed [0, 1, 2, 6] [3, 4, 5, 7] (by kernel_rfl) rfl rfl (fun w' => Blk w' p2 24 [.slice A fs.length c]) (fun ch w' => ∃ e9 p9 q9 c9, R = .err e9 p9 ∧ ch = pk q9 ∧ Hp nw w w' [bk q9 63 [.int .i64 e9, .int .i64 (p9 : Int)], bk p3 27 [.int .i64 0, .int .i64 0], bk p2 24 [c9]])
    (fun ch w' h => ?_) (fun w1 eT _ => ?_)
  · obtain ⟨e9, p9, q9, c9, hR9, rfl, H⟩ := h
    (conv => whnf)
    refine DCl.mono (parse1_pan hG.eg H) ?_
    rintro _ w10 ⟨rfl, H2⟩
    replace H := H2
    repeat' ((conv => whnf); first | (((with_reducible show Gd ..); first | (with_reducible first | refine Gd.t ?_ | refine Gd.f ?_ | (first | apply Gd.dec | apply Gd.beq | apply Gd.bne) <;> intro _ | refine Gd.not ?_) | refine Gd.t ?_ | refine Gd.f ?_ | apply Gd.var <;> intro _) <;> try (exfalso; omega)) | with_reducible refine Sq.mk ?_ | ((with_reducible show Ld1 ..); first | refine Ld1.h H ?_ | refine Ld1.rF ?_ | refine Ld1.r ?_) | ((with_reducible show Ld ..); first | refine Ld.h H ?_ | refine Ld.r ?_) | ((with_reducible show Ix ..); first | refine Ix.h ?_ | refine Ix.ha ?_) | (refine Al.hp H ?_; clear H; intro _ _ H _) | (refine St.h H ?_; clear H; intro _ H))
    exact .inr ⟨e9, p9, by rw [← hR, hR9], rfl, H.e⟩
  replace H := H.ext eT
  repeat' ((conv => whnf); first | refine QLd1.own (fun _ hw => hw) ?_ | refine QLd.own (fun _ hw => hw) ?_)
  (conv => whnf)
  refine ⟨H.blk 4 rfl, ?_⟩
  (conv => whnf)
  refine Cl.mkX (function_c X C (t0 :: r0) _ H.e (H.atC 2 rfl) (Res.bind_out (by rw [← hRp]; exact hne))) ?_ ?_
  rotate_left
  · rintro ch w9 ⟨e9, p9, q9, h9, rfl, H'⟩
    replace H := H.upd (c := rdr l pr (t0 :: r0)) H' rfl (.inl rfl)
    exact ⟨e9, p9, q9, _, by rw [hRp, h9]; rfl, rfl, H.sel [2, 2, 2] rfl⟩
  rintro _ w3 ⟨⟨n1, P1, c1, ps1, B1, d1, b1⟩, ts1, h2, rfl, H'⟩
  replace H := H.updn (c := rdr l pr (t0 :: r0)) (Hp.swap H') rfl (.inl rfl) (.inl rfl)
  clear H'
  rw [h2, Res.bind_ok] at hRp
  (conv => whnf)
  refine ⟨H.blk 5 rfl, ?_⟩
  refine Sm.lith (cs := FM.enc ⟨n1, P1, c1, ps1, B1, d1, b1⟩) H T.ok (fun p5 w4 H _ => ?_)
  (conv => whnf)
  refine ⟨H.blk 6 rfl, ?_⟩
  refine Sm.ap1 (enc := FM.enc) ⟨n1, P1, c1, ps1, B1, d1, b1⟩ H T.ok ?_ ?_ (fun A' c' w6 H => ?_)
  · show (fs.length + 1) * 64 ≤ _; omega
  · show fs.length + 1 ≤ _; omega
  simp only [List.cons_append, List.nil_append] at H
  (conv => whnf)
  refine ⟨H.blk 5 rfl, ?_⟩
  repeat' ((conv => whnf); first | ((with_reducible show Gd (bs _ == _) _ _); first | refine Gd.sY (by assumption) ?_ | refine Gd.sk (by assumption) ?_ | refine Gd.sN (by assumption) ?_) | ((conv => whnf); first | (((with_reducible show Gd ..); first | (with_reducible first | refine Gd.t ?_ | refine Gd.f ?_ | (first | apply Gd.dec | apply Gd.beq | apply Gd.bne) <;> intro _ | refine Gd.not ?_) | refine Gd.t ?_ | refine Gd.f ?_ | apply Gd.var <;> intro _) <;> try (exfalso; omega)) | with_reducible refine Sq.mk ?_ | ((with_reducible show Ld1 ..); first | refine Ld1.h H ?_ | refine Ld1.rF ?_ | refine Ld1.r ?_) | ((with_reducible show Ld ..); first | refine Ld.h H ?_ | refine Ld.r ?_) | ((with_reducible show Ix ..); first | refine Ix.h ?_ | refine Ix.ha ?_) | (refine Al.hp H ?_; clear H; intro _ _ H _) | (refine St.h H ?_; clear H; intro _ H)) | refine Sm.strix T.ok ?_)
  refine ⟨(f, A', c', fs ++ [⟨n1, P1, c1, ps1, B1, d1, b1⟩], ts1), ⟨rfl, rfl, rfl, trivial⟩, rfl, ⟨?_, ?_, ?_⟩, Nat.lt_succ_self f⟩
  · rw [hRp, List.map_append]; rfl
  · simp only [List.length_append, List.length_cons, List.length_nil]; omega
  · have hl1 : (fs ++ [(⟨n1, P1, c1, ps1, B1, d1, b1⟩ : FM)]).length = fs.length + 1 := by simp
    simp only [hl1]
    exact Hp.swap (Hp.fnsS (H.sel [0, 1, 0, 0, 0, 0] rfl))
end Go.Proofs.YtfnjodpehomgfaaGreatDoor
namespace Go.Proofs.YtfnjodpehomgfaaGreatDoor
open Go Go.Sh Go.Tx
attribute [local irreducible] Blk Ext RdS
theorem words_rd (l : Bs) : ∀ (n p : Nat), ∀ t ∈ words l n p, ∃ a, t = (rdAt l a).1
  | 0, _, t, h => by simp [words] at h
  | n + 1, p, t, h => by
    rw [words_succ] at h
    split at h
    · rw [List.mem_singleton.1 h]; exact ⟨_, rfl⟩
    · rcases List.mem_cons.1 h with h | h
      · rw [h]; exact ⟨_, rfl⟩
      · exact words_rd l n _ t h
theorem rd_num {l : Bs} (hl : l.length ≤ 1000000) (a : Nat) : NumOk (rdAt l a).1 := by
  intro hk he
  have hsp : ∀ (c : UInt8) (r : Bs), l.drop a = c :: r → ((c :: r).take (spanN digit (c :: r))).length ≤ 1000000 := fun c r h => by
    have := congrArg List.length h
    rw [List.length_drop] at this
    rw [List.length_take]; omega
  have kn : ∀ s ∈ keywords, s ≠ k_number := by decide
  have sn : ∀ s ∈ signs, s ≠ k_number := by decide
  unfold rdAt at hk he ⊢
  split at hk
  · exact absurd (show k_end = k_number from hk) (by decide)
  · rename_i c r hd
    rw [hd] at he
    simp only at he ⊢
    split at hk
    · exfalso
      unfold named at hk
      split at hk
      · rename_i hw
        exact kn _ (List.contains_iff_mem.1 hw) hk
      · exact absurd (show k_name = k_number from hk) (by decide)
    · rename_i hc
      rw [if_neg hc] at he ⊢
      split at hk
      · rename_i hdg
        rw [if_pos hdg] at he ⊢
        have hds : Digs ((c :: r).take (spanN digit (c :: r))) := span_all digit _
        have hl2 := hsp c r hd
        generalize (c :: r).take (spanN digit (c :: r)) = s at *
        have he : (number s a).err = 0 := he
        show Digs (number s a).text ∧ (number s a).n = -(val (number s a).text : Int) ∧ val (number s a).text ≤ 9223372036854775808 ∧ (number s a).text.length ≤ 1000000
        unfold number at he ⊢
        cases hv : negOf s with
        | none => rw [hv] at he; simp at he
        | some v =>
          simp only
          unfold negOf at hv
          split at hv
          · rename_i h0
            simp only [Option.some.injEq] at hv
            subst h0 hv
            exact ⟨hds, by decide, by decide, by decide⟩
          · split at hv
            · simp at hv
            · rename_i hno
              simp only [Option.some.injEq] at hv
              exact ⟨hds, hv.symm, by omega, hl2⟩
      · split at hk
        · rename_i t hs
          exact absurd hk (sn t (List.mem_of_find?_eq_some hs))
        · exact absurd (show ([] : Bs) = k_number from hk) (by decide)
def loopG (F : PF) (n : Nat) (L : List Fnc) (ts : List Tk) : Res (List Fnc) := match L with
  | [] => (functionP F ts).bind fun f ts1 => loopF F (ts1.length + 1) [f] ts1
  | _ => loopF F n L ts
theorem loopF_s (F : PF) (n : Nat) (l : List Fnc) (ts : List Tk) : loopF F (n + 1) l ts = (if curK ts = k_end then .ok l ts else (functionP F ts).bind fun f ts1 => loopF F n (l ++ [f]) ts1) := rfl
theorem parse_G (l : Bs) (f : Nat) : parseP l f = ((chk (words l (l.length + 1) 0)).map (fun _ => ([] : List Fnc))).bind fun L ts => loopG (pf f) 0 L ts := by
  unfold parseP
  rw [step_chk, Res.map_bind]; rfl
theorem loopG_step {F : PF} {R : Res (List Fnc)} {n : Nat} {L : List Fnc} {ts : List Tk} (hR : R = loopG F n L ts) (hne : R ≠ .out) (hk : L = [] ∨ curK ts ≠ k_end) : (((.ok L ts : Res (List Fnc)).and fun _ ts => functionP F ts) ≠ .out) ∧ (L ≠ [] → 1 ≤ n) ∧ ∀ s' : RS, AtR ((.ok L ts : Res (List Fnc)).and fun _ ts => functionP F ts) s' →
    R = (((.ok L ts : Res (List Fnc)).and fun _ ts => functionP F ts).map (fun p => p.1 ++ [p.2])).bind (fun L' ts => loopG F (if L = [] then s'.ts.length + 1 else n - 1) L' ts) := by
  cases L with
  | nil =>
    replace hR : R = (functionP F ts).bind fun f ts1 => loopF F (ts1.length + 1) [f] ts1 := hR
    refine ⟨?_, fun h => absurd rfl h, fun s' ha => ?_⟩
    · show (functionP F ts).bind _ ≠ _
      cases hx : functionP F ts with
      | out => rw [hx] at hR; exact absurd hR hne
      | err e p => simp [Res.bind]
      | ok f ts1 => simp [Res.bind]
    · rw [if_pos rfl, hR]
      cases hx : functionP F ts with
      | out => simp [Res.and, Res.map, Res.bind, hx]
      | err e p => simp [Res.and, Res.map, Res.bind, hx]
      | ok f ts1 =>
        have h2 : AtR (.ok (([] : List Fnc), f) ts1 : Res (List Fnc × Fnc)) s' := ha.same (by simp [Res.and, Res.bind, hx])
        rw [h2.gd.1]
        simp [Res.and, Res.map, Res.bind, hx, loopG]
  | cons x L =>
    have hk : curK ts ≠ k_end := hk.resolve_left (by simp)
    replace hR : R = loopF F n (x :: L) ts := hR
    cases n with
    | zero => exact absurd hR hne
    | succ n =>
    rw [loopF_s, if_neg hk] at hR
    refine ⟨?_, fun _ => by omega, fun s' ha => ?_⟩
    · show (functionP F ts).bind _ ≠ _
      cases hx : functionP F ts with
      | out => rw [hx] at hR; exact absurd hR hne
      | err e p => simp [Res.bind]
      | ok f ts1 => simp [Res.bind]
    · rw [if_neg (by simp), hR]
      cases hx : functionP F ts with
      | out => simp [Res.and, Res.map, Res.bind, hx]
      | err e p => simp [Res.and, Res.map, Res.bind, hx]
      | ok f ts1 => simp [Res.and, Res.map, Res.bind, hx, loopG]
set_option maxHeartbeats 8000000 in
theorem ParseR_r (l : Bs) (w : World) : Cl Tryz.prog 11 #[.string (bs l)] w (OkP l w) (fun _ _ => False) := by
  refine calls_ex (args := [.string (bs l)]) T.ok Tryz.func11 rfl rfl rfl rfl ?_
  have H := Hp.begin nw w
  have hsz := bs_size l
  refine Sq.mk ?_
  ((conv => whnf); refine Al.hp H ?_; clear H; intro p2 _ H _)
  ((conv => whnf); refine Al.hp H ?_; clear H; intro p3 _ H _)
  by_cases hlong : 16384 < l.length
  · repeat' ((conv => whnf); first | (((with_reducible show Gd ..); first | (with_reducible first | refine Gd.t ?_ | refine Gd.f ?_ | (first | apply Gd.dec | apply Gd.beq | apply Gd.bne) <;> intro _ | refine Gd.not ?_) | refine Gd.t ?_ | refine Gd.f ?_ | apply Gd.var <;> intro _) <;> try (exfalso; omega)) | with_reducible refine Sq.mk ?_ | ((with_reducible show Ld1 ..); first | refine Ld1.h H ?_ | refine Ld1.rF ?_ | refine Ld1.r ?_) | ((with_reducible show Ld ..); first | refine Ld.h H ?_ | refine Ld.r ?_) | ((with_reducible show Ix ..); first | refine Ix.h ?_ | refine Ix.ha ?_) | (refine St.h H ?_; clear H; intro _ H))
    all_goals first | (exfalso; omega) | skip
    exact .inr ⟨2, 0, by unfold PR; rw [if_pos hlong], rfl, H.e⟩
  obtain ⟨R, hR⟩ : ∃ R, R = PR l := ⟨_, rfl⟩
  have hne : R ≠ .out := by
    rw [hR]; unfold PR; rw [if_neg hlong]
    intro e
    have := parse_fin l
    rw [e] at this
    exact this
  have hRp : R = ((chk (words l (l.length + 1) 0)).map (fun _ => ([] : List Fnc))).bind fun L ts => loopG (pf (fuelOf l)) 0 L ts := by
    rw [hR]; unfold PR; rw [if_neg hlong, parse_G]
  repeat' ((conv => whnf); first | (((with_reducible show Gd ..); first | (with_reducible first | refine Gd.t ?_ | refine Gd.f ?_ | (first | apply Gd.dec | apply Gd.beq | apply Gd.bne) <;> intro _ | refine Gd.not ?_) | refine Gd.t ?_ | refine Gd.f ?_ | apply Gd.var <;> intro _) <;> try (exfalso; omega)) | with_reducible refine Sq.mk ?_ | ((with_reducible show Ld1 ..); first | refine Ld1.h H ?_ | refine Ld1.rF ?_ | refine Ld1.r ?_) | ((with_reducible show Ld ..); first | refine Ld.h H ?_ | refine Ld.r ?_) | ((with_reducible show Ix ..); first | refine Ix.h ?_ | refine Ix.ha ?_) | (refine St.h H ?_; clear H; intro _ H))
  all_goals first | (exfalso; omega) | skip
  ((conv => whnf); refine Cl.mk (Words_r l _ (by omega)) ?_)
  rintro _ wb ⟨A, cw, rfl, H'⟩
  replace H := H.fr0 H' (.inl rfl)
  clear H'
  have hends := words_ends l (l.length + 1) 0 (Nat.zero_le _) (by omega)
  have hwl := words_len l (l.length + 1) 0
  have hpls : Pls (words l (l.length + 1) 0) := fun t ht => by
    obtain ⟨a, rfl⟩ := words_rd l _ _ t ht
    exact ⟨(rd_kind l a).2.1, (rd_kind l a).1⟩
  have hnum : ∀ t ∈ words l (l.length + 1) 0, NumOk t := fun t ht => by
    obtain ⟨a, rfl⟩ := words_rd l _ _ t ht
    exact rd_num (by omega) a
  generalize hws : words l (l.length + 1) 0 = ws at *
  have hrd := H.rdq 0 rfl
  have H0 := H
  replace H := Hp.begin nw wb
  repeat' ((conv => whnf); first | (((with_reducible show Gd ..); first | (with_reducible first | refine Gd.t ?_ | refine Gd.f ?_ | (first | apply Gd.dec | apply Gd.beq | apply Gd.bne) <;> intro _ | refine Gd.not ?_) | refine Gd.t ?_ | refine Gd.f ?_ | apply Gd.var <;> intro _) <;> try (exfalso; omega)) | with_reducible refine Sq.mk ?_ | ((with_reducible show Ld1 ..); first | refine Ld1.h H ?_ | refine Ld1.rF ?_ | refine Ld1.r ?_) | ((with_reducible show Ld ..); first | refine Ld.h H ?_ | refine Ld.r ?_) | ((with_reducible show Ix ..); first | refine Ix.h ?_ | refine Ix.ha ?_) | (refine St.h H ?_; clear H; intro _ H))
  ((conv => whnf); refine Al.hp H ?_; clear H; intro p5 _ H _)
  have hlo : wb.heap.size ≤ p5 := by assumption
  have Y : RY l ws A cw p5 wb := ⟨⟨hlo, hrd, by omega, hpls⟩, hnum⟩
  have X := Y.x
  have C := rcon_all Y (fuelOf l)
  have hfix : ∀ w', Hp nw wb w' [bk p5 54 (qCs ws A cw 0 ⟨ws, none⟩)] → Hp nw wb w' [rq ws A cw p5 ⟨ws, none⟩] := fun w' h => Hp.toQ (s := ⟨ws, none⟩) (k := 0) h rfl (fun e p h => by cases h)
  replace H := hfix _ H
  clear hfix
  repeat' ((conv => whnf); first | (((with_reducible show Gd ..); first | (with_reducible first | refine Gd.t ?_ | refine Gd.f ?_ | (first | apply Gd.dec | apply Gd.beq | apply Gd.bne) <;> intro _ | refine Gd.not ?_) | refine Gd.t ?_ | refine Gd.f ?_ | apply Gd.var <;> intro _) <;> try (exfalso; omega)) | with_reducible refine Sq.mk ?_ | ((with_reducible show Ld1 ..); first | refine Ld1.h H ?_ | refine Ld1.rF ?_ | refine Ld1.r ?_) | ((with_reducible show Ld ..); first | refine Ld.h H ?_ | refine Ld.r ?_) | ((with_reducible show Ix ..); first | refine Ix.h ?_ | refine Ix.ha ?_) | (refine St.h H ?_; clear H; intro _ H))
  ((conv => whnf); refine Al.hp H ?_; clear H; intro p6 _ H _)
  have hat : AtR (chk ws) ⟨ws, none⟩ := by
    refine ⟨hends, ?_⟩
    rcases chk_cases hends with hc | ⟨e, p, hc⟩
    · rw [hc]; exact ⟨rfl, rfl, hc⟩
    · rw [hc]; exact .inr ⟨rfl, hc⟩
  replace H := Hp.nil (Hp.fns0 H) FM.enc 3 34
  generalize hF : pf (fuelOf l) = F at *
  repeat' ((conv => whnf); first | (((with_reducible show Gd ..); first | (with_reducible first | refine Gd.t ?_ | refine Gd.f ?_ | (first | apply Gd.dec | apply Gd.beq | apply Gd.bne) <;> intro _ | refine Gd.not ?_) | refine Gd.t ?_ | refine Gd.f ?_ | apply Gd.var <;> intro _) <;> try (exfalso; omega)) | with_reducible refine Sq.mk ?_ | ((with_reducible show Ld1 ..); first | refine Ld1.h H ?_ | refine Ld1.rF ?_ | refine Ld1.r ?_) | ((with_reducible show Ld ..); first | refine Ld.h H ?_ | refine Ld.r ?_) | ((with_reducible show Ix ..); first | refine Ix.h ?_ | refine Ix.ha ?_) | (refine St.h H ?_; clear H; intro _ H))
  refine Lp.g0 T.ok (σ := Res (List Fnc) × Nat × Option Addr × Nat × List FM × RS) (fun q => [(5, .pointer (some ⟨p5, 0, none⟩)), (6, .pointer (some ⟨p6, 0, none⟩)), (2, .pointer (some ⟨p2, 0, none⟩)), (3, .pointer (some ⟨p3, 0, none⟩))])
    (fun q w' => R = q.1.bind (fun L ts => loopG F q.2.1 L ts) ∧ AtR q.1 q.2.2.2.2.2 ∧ Vl q.1 (fun a => q.2.2.2.2.1.map FM.e = a) ∧ q.2.1 ≤ 20001 ∧ (q.2.2.2.2.1 = [] ∨ (q.2.2.2.2.2.sp = none → q.2.1 + q.2.2.2.2.1.length ≤ 20002)) ∧ q.2.2.2.2.1.length ≤ 20003 ∧ Hp nw wb w' [qu FM.enc 3 34 q.2.2.1 q.2.2.2.1 q.2.2.2.2.1, fns q.2.2.2.2.1, bk p6 24 [.slice q.2.2.1 q.2.2.2.2.1.length q.2.2.2.1], rq ws A cw p5 q.2.2.2.2.2]) (fun q _ => (if q.2.2.2.2.1 = [] then 100000 else 0) + blkM q.1 q.2.1 q.2.2.2.2.2.sp)
    ((chk ws).map (fun _ => []), 0, none, 0, [], ⟨ws, none⟩) rfl ⟨rfl, rfl, rfl, rfl, trivial⟩ ⟨hRp, hat.map _, Vl.map (g := fun _ => ([] : List Fnc)) (fun _ _ _ => rfl), by simp, .inl rfl, by simp, H⟩ ?_
  clear H hRp hat
  rintro ⟨Rc, n, B, c, fs, s⟩ w5 ⟨hRp, ha, hv, hn0, hn1, hfl, H⟩
  simp only at hRp ha hv hn0 hn1 hfl H ⊢
  repeat' ((conv => whnf); first | (((with_reducible show Gd ..); first | (with_reducible first | refine Gd.t ?_ | refine Gd.f ?_ | (first | apply Gd.dec | apply Gd.beq | apply Gd.bne) <;> intro _ | refine Gd.not ?_) | refine Gd.t ?_ | refine Gd.f ?_ | apply Gd.var <;> intro _) <;> try (exfalso; omega)) | with_reducible refine Sq.mk ?_ | ((with_reducible show Ld1 ..); first | refine Ld1.h H ?_ | refine Ld1.rF ?_ | refine Ld1.r ?_) | ((with_reducible show Ld ..); first | refine Ld.h H ?_ | refine Ld.r ?_) | ((with_reducible show Ix ..); first | refine Ix.h ?_ | refine Ix.ha ?_) | (refine St.h H ?_; clear H; intro _ H))
  (((conv => whnf); refine Cl.mk (fine_r X s _ (H.atC 3 rfl)) ?_); rintro _ _ ⟨rfl, hx⟩; replace H := H.ext hx; clear hx)
  obtain ⟨ts, sp⟩ := s
  cases sp with
  | some x =>
    obtain ⟨e, p⟩ := x
    have hRe : R = .err e p := by
      rw [hRp]
      cases Rc with
      | out => exact absurd hRp hne
      | err e' p' =>
        rcases ha.at_ with h | ⟨h, _⟩
        · simp only [Option.some.injEq, Prod.mk.injEq] at h
          rw [h.1, h.2]; rfl
        · cases h
      | ok a ts1 =>
        have := ha.gd.1
        cases this
    repeat' ((conv => whnf); first | (((with_reducible show Gd ..); first | (with_reducible first | refine Gd.t ?_ | refine Gd.f ?_ | (first | apply Gd.dec | apply Gd.beq | apply Gd.bne) <;> intro _ | refine Gd.not ?_) | refine Gd.t ?_ | refine Gd.f ?_ | apply Gd.var <;> intro _) <;> try (exfalso; omega)) | with_reducible refine Sq.mk ?_ | ((with_reducible show Ld1 ..); first | refine Ld1.h H ?_ | refine Ld1.rF ?_ | refine Ld1.r ?_) | ((with_reducible show Ld ..); first | refine Ld.h H ?_ | refine Ld.r ?_) | ((with_reducible show Ix ..); first | refine Ix.h ?_ | refine Ix.ha ?_) | (refine St.h H ?_; clear H; intro _ H))
    (((conv => whnf); refine Cl.mk (fine_r X ⟨ts, some (e, p)⟩ _ (H.atC 3 rfl)) ?_); rintro _ _ ⟨rfl, hx⟩; replace H := H.ext hx; clear hx)
    repeat' ((conv => whnf); first | (((with_reducible show Gd ..); first | (with_reducible first | refine Gd.t ?_ | refine Gd.f ?_ | (first | apply Gd.dec | apply Gd.beq | apply Gd.bne) <;> intro _ | refine Gd.not ?_) | refine Gd.t ?_ | refine Gd.f ?_ | apply Gd.var <;> intro _) <;> try (exfalso; omega)) | with_reducible refine Sq.mk ?_ | ((with_reducible show Ld1 ..); first | refine Ld1.h H ?_ | refine Ld1.rF ?_ | refine Ld1.r ?_) | ((with_reducible show Ld ..); first | refine Ld.h H ?_ | refine Ld.r ?_) | ((with_reducible show Ix ..); first | refine Ix.h ?_ | refine Ix.ha ?_) | (refine St.h H ?_; clear H; intro _ H))
    obtain ⟨kk, hk1, hk2, hb0⟩ := H.atC (c := rq ws A cw p5 ⟨ts, some (e, p)⟩) 3 rfl
    replace H := Hp.ofQ H hb0
    clear hb0
    replace H := Hp.fr0L H0 H (fun c hc => by simp only [List.mem_cons, List.not_mem_nil, or_false] at hc; rcases hc with rfl | rfl | rfl | rfl <;> exact .inl rfl)
    simp only [List.cons_append, List.nil_append] at H
    (conv => whnf)
    refine Dr.ch T.ok mixed [0, 1, 2, 3, 4] [5, 6] (by kernel_rfl) rfl rfl (fun w' => Blk w' p5 54 (qCs ws A cw kk ⟨ts, some (e, p)⟩)) (fun w1 eT _ => ?_)
    replace H := H.ext eT
    repeat' ((conv => whnf); first | refine QLd1.own (fun _ hw => hw) ?_ | refine QLd.own (fun _ hw => hw) ?_)
    (conv => whnf)
    refine ⟨H.blk 3 rfl, ?_⟩
    refine St.h H (fun w2 H => ?_)
    (conv => whnf)
    refine ⟨H.blk 3 rfl, ?_⟩
    repeat' ((conv => whnf); first | (((with_reducible show Gd ..); first | (with_reducible first | refine Gd.t ?_ | refine Gd.f ?_ | (first | apply Gd.dec | apply Gd.beq | apply Gd.bne) <;> intro _ | refine Gd.not ?_) | refine Gd.t ?_ | refine Gd.f ?_ | apply Gd.var <;> intro _) <;> try (exfalso; omega)) | with_reducible refine Sq.mk ?_ | ((with_reducible show Ld1 ..); first | refine Ld1.h H ?_ | refine Ld1.rF ?_ | refine Ld1.r ?_) | ((with_reducible show Ld ..); first | refine Ld.h H ?_ | refine Ld.r ?_) | ((with_reducible show Ix ..); first | refine Ix.h ?_ | refine Ix.ha ?_) | (refine St.h H ?_; clear H; intro _ H))
    exact .inr ⟨e, p, by rw [← hR, hRe], rfl, H.e⟩
  | none =>
    have hgo : (fs = [] ∨ isR k_end ⟨ts, none⟩ = false) → ∀ w', Hp nw wb w' [qu FM.enc 3 34 B c fs, fns fs, bk p6 24 [.slice B fs.length c], rq ws A cw p5 ⟨ts, none⟩] →
        Cl Tryz.prog 30 #[.pointer (some ⟨p5, 0, none⟩)] w' (fun v w'' => ∃ f s2 Rc2 n2, v = FM.v f ∧ R = Rc2.bind (fun L ts => loopG F n2 L ts) ∧ AtR Rc2 s2 ∧ Vl Rc2 (fun a => (fs ++ [f]).map FM.e = a) ∧ n2 ≤ 20001 ∧ (s2.sp = none → n2 + (fs.length + 1) ≤ 20002) ∧ fs.length + 1 ≤ 20003 ∧ blkM Rc2 n2 s2.sp < (if fs = [] then 100000 else 0) + blkM Rc n none ∧ Hp nw wb w'' [qu FM.enc 3 34 B c fs, bk p6 24 [.slice B fs.length c], rq ws A cw p5 s2, fns [f], fns fs]) (fun _ _ => False) := fun hc w' H => by
      have hfl2 : fs.length + 1 ≤ 20003 := by
        rcases hn1 with h | h
        · rw [h]; simp
        · have := h rfl; omega
      cases Rc with
      | out => exact absurd hRp hne
      | err e p =>
        refine Cl.mkX (functionD Y ⟨ts, none⟩ _ H.e (H.atC 3 rfl) ha.toErr) (fun v w'' q => ?_) (fun _ _ h => h)
        obtain ⟨f, rfl, H'⟩ := q
        replace H := H.updn (c := rq ws A cw p5 ⟨ts, none⟩) (Hp.swap H') rfl (.inl rfl) (.inl rfl)
        refine ⟨f, ⟨ts, some (e, p)⟩, .err e p, 0, rfl, hRp, ⟨ha.ends, .inl rfl⟩, Vl.err, by omega, (fun h => by cases h), hfl2, ?_, H.sel [1, 2, 2, 0, 0] rfl⟩
        simp only [blkM]
        split <;> omega
      | ok L ts1 =>
        obtain ⟨hs, hg⟩ := ha.gd
        obtain rfl : ts = ts1 := by cases hs; rfl
        have hLf : fs.map FM.e = L := hv L _ rfl
        have hLe : L = [] ↔ fs = [] := by rw [← hLf]; simp
        have hk : L = [] ∨ curK ts ≠ k_end := by
          rcases hc with h | h
          · exact .inl (hLe.2 h)
          · right
            rw [is_ok ha] at h
            simpa using h
        obtain ⟨g1, g2, g3⟩ := loopG_step hRp hne hk
        refine Cl.mkX (function_r Y C (.ok L ts : Res (List Fnc)) ⟨ts, none⟩ _ H.e (H.atC 3 rfl) ha g1) (fun v w'' q => ?_) (fun _ _ h => h)
        obtain ⟨f, s2, rfl, ha2, hv2, H'⟩ := q
        replace H := H.updn (c := rq ws A cw p5 ⟨ts, none⟩) (Hp.swap H') rfl (.inl rfl) (.inl rfl)
        have hsm := RdQ.small X (H.atC (c := rq ws A cw p5 s2) 4 rfl)
        have hb := blkM_le (((.ok L ts : Res (List Fnc)).and fun _ ts => functionP F ts).map (fun p => p.1 ++ [p.2])) (if L = [] then s2.ts.length + 1 else n - 1) s2.sp
        refine ⟨f, s2, ((.ok L ts : Res (List Fnc)).and fun _ ts => functionP F ts).map (fun p => p.1 ++ [p.2]), if L = [] then s2.ts.length + 1 else n - 1, rfl, g3 s2 ha2, ha2.map _, Vl.map (Vl.mono2 (Vl.fst hv) hv2 fun a h1 h2 => by rw [List.map_append, h1]; simp only [List.map_cons, List.map_nil]; rw [h2]), ?_, fun _ => ?_, hfl2, ?_, H.sel [1, 2, 2, 0, 0] rfl⟩
        · split <;> omega
        · split
          · rename_i h
            rw [hLe.1 h]; simp only [List.length_nil]; omega
          · rename_i h
            have := (hn1.resolve_left fun e => h (hLe.2 e)) rfl
            have := g2 h
            omega
        · refine Nat.lt_of_le_of_lt hb ?_
          simp only [blkM]
          by_cases h : fs = []
          · rw [if_pos h, if_pos (hLe.2 h)]; omega
          · rw [if_neg h, if_neg (fun e => h (hLe.1 e))]
            have := g2 (fun e => h (hLe.1 e))
            omega
    repeat' ((conv => whnf); first | (((with_reducible show Gd ..); first | (with_reducible first | refine Gd.t ?_ | refine Gd.f ?_ | (first | apply Gd.dec | apply Gd.beq | apply Gd.bne) <;> intro _ | refine Gd.not ?_) | refine Gd.t ?_ | refine Gd.f ?_ | apply Gd.var <;> intro _) <;> try (exfalso; omega)) | with_reducible refine Sq.mk ?_ | ((with_reducible show Ld1 ..); first | refine Ld1.h H ?_ | refine Ld1.rF ?_ | refine Ld1.r ?_) | ((with_reducible show Ld ..); first | refine Ld.h H ?_ | refine Ld.r ?_) | ((with_reducible show Ix ..); first | refine Ix.h ?_ | refine Ix.ha ?_) | (refine St.h H ?_; clear H; intro _ H))
    · have hfe : fs = [] := List.eq_nil_of_length_eq_zero (by omega)
      ((conv => whnf); refine Cl.mk (hgo (.inl hfe) _ H) ?_)
      rintro _ w6 ⟨f, s2, Rc2, n2, rfl, g1, g2, g3, g4, g5, g6, g7, H⟩
      (obtain ⟨nm1, P1, cp1, ps1, B1, cb1, b1⟩ := f; ((conv => whnf); refine Al.hp H ?_; clear H; intro p7 _ H _); (repeat' ((conv => whnf); first | (((with_reducible show Gd ..); first | (with_reducible first | refine Gd.t ?_ | refine Gd.f ?_ | (first | apply Gd.dec | apply Gd.beq | apply Gd.bne) <;> intro _ | refine Gd.not ?_) | refine Gd.t ?_ | refine Gd.f ?_ | apply Gd.var <;> intro _) <;> try (exfalso; omega)) | with_reducible refine Sq.mk ?_ | ((with_reducible show Ld1 ..); first | refine Ld1.h H ?_ | refine Ld1.rF ?_ | refine Ld1.r ?_) | ((with_reducible show Ld ..); first | refine Ld.h H ?_ | refine Ld.r ?_) | ((with_reducible show Ix ..); first | refine Ix.h ?_ | refine Ix.ha ?_) | (refine St.h H ?_; clear H; intro _ H))); refine Sm.lith (cs := FM.enc ⟨nm1, P1, cp1, ps1, B1, cb1, b1⟩) H T.ok (fun p8 w8 H _ => ?_); refine Sm.ap1 (enc := FM.enc) ⟨nm1, P1, cp1, ps1, B1, cb1, b1⟩ H T.ok ?_ ?_ (fun A' c' w9 H => ?_); (focus (show (fs.length + 1) * 64 ≤ _; omega)); (focus omega); simp only [List.cons_append, List.nil_append] at H; (repeat' ((conv => whnf); first | (((with_reducible show Gd ..); first | (with_reducible first | refine Gd.t ?_ | refine Gd.f ?_ | (first | apply Gd.dec | apply Gd.beq | apply Gd.bne) <;> intro _ | refine Gd.not ?_) | refine Gd.t ?_ | refine Gd.f ?_ | apply Gd.var <;> intro _) <;> try (exfalso; omega)) | with_reducible refine Sq.mk ?_ | ((with_reducible show Ld1 ..); first | refine Ld1.h H ?_ | refine Ld1.rF ?_ | refine Ld1.r ?_) | ((with_reducible show Ld ..); first | refine Ld.h H ?_ | refine Ld.r ?_) | ((with_reducible show Ix ..); first | refine Ix.h ?_ | refine Ix.ha ?_) | (refine St.h H ?_; clear H; intro _ H))); have hl1 : (fs ++ [(⟨nm1, P1, cp1, ps1, B1, cb1, b1⟩ : FM)]).length = fs.length + 1 := (by simp); refine ⟨(Rc2, n2, A', c', fs ++ [⟨nm1, P1, cp1, ps1, B1, cb1, b1⟩], s2), ⟨rfl, rfl, rfl, rfl, trivial⟩, rfl, ⟨g1, g2, g3, g4, .inr (by simp only [hl1]; exact g5), (by simp only [hl1]; exact g6), ?_⟩, (by show (if fs ++ [(⟨nm1, P1, cp1, ps1, B1, cb1, b1⟩ : FM)] = [] then 100000 else 0) + blkM Rc2 n2 s2.sp < _; rw [if_neg (by simp)]; exact Nat.lt_of_le_of_lt (Nat.le_of_eq (Nat.zero_add _)) g7)⟩; simp only [hl1]; exact Hp.swap (Hp.fnsS (H.sel [4, 4, 1, 1, 1] rfl)))
    · have hfe : ¬ fs = [] := fun h => by
        have : ((fs.length : Int)) ≠ 0 := by assumption
        rw [h] at this
        exact this rfl
      (((conv => whnf); refine Cl.mk (is_r X k_end ⟨ts, none⟩ _ (Hp.e H) (H.atC 3 rfl) (ends_ne ha.ends)) ?_); rintro _ _ ⟨rfl, hx⟩; replace H := H.ext hx; clear hx)
      by_cases hke : isR k_end ⟨ts, none⟩ = true
      case neg =>
        rw [Bool.eq_false_iff.2 hke]
        repeat' ((conv => whnf); first | (((with_reducible show Gd ..); first | (with_reducible first | refine Gd.t ?_ | refine Gd.f ?_ | (first | apply Gd.dec | apply Gd.beq | apply Gd.bne) <;> intro _ | refine Gd.not ?_) | refine Gd.t ?_ | refine Gd.f ?_ | apply Gd.var <;> intro _) <;> try (exfalso; omega)) | with_reducible refine Sq.mk ?_ | ((with_reducible show Ld1 ..); first | refine Ld1.h H ?_ | refine Ld1.rF ?_ | refine Ld1.r ?_) | ((with_reducible show Ld ..); first | refine Ld.h H ?_ | refine Ld.r ?_) | ((with_reducible show Ix ..); first | refine Ix.h ?_ | refine Ix.ha ?_) | (refine St.h H ?_; clear H; intro _ H))
        ((conv => whnf); refine Cl.mk (hgo (.inr (Bool.eq_false_iff.2 hke)) _ H) ?_)
        rintro _ w6 ⟨f, s2, Rc2, n2, rfl, g1, g2, g3, g4, g5, g6, g7, H⟩
        (obtain ⟨nm1, P1, cp1, ps1, B1, cb1, b1⟩ := f; ((conv => whnf); refine Al.hp H ?_; clear H; intro p7 _ H _); (repeat' ((conv => whnf); first | (((with_reducible show Gd ..); first | (with_reducible first | refine Gd.t ?_ | refine Gd.f ?_ | (first | apply Gd.dec | apply Gd.beq | apply Gd.bne) <;> intro _ | refine Gd.not ?_) | refine Gd.t ?_ | refine Gd.f ?_ | apply Gd.var <;> intro _) <;> try (exfalso; omega)) | with_reducible refine Sq.mk ?_ | ((with_reducible show Ld1 ..); first | refine Ld1.h H ?_ | refine Ld1.rF ?_ | refine Ld1.r ?_) | ((with_reducible show Ld ..); first | refine Ld.h H ?_ | refine Ld.r ?_) | ((with_reducible show Ix ..); first | refine Ix.h ?_ | refine Ix.ha ?_) | (refine St.h H ?_; clear H; intro _ H))); refine Sm.lith (cs := FM.enc ⟨nm1, P1, cp1, ps1, B1, cb1, b1⟩) H T.ok (fun p8 w8 H _ => ?_); refine Sm.ap1 (enc := FM.enc) ⟨nm1, P1, cp1, ps1, B1, cb1, b1⟩ H T.ok ?_ ?_ (fun A' c' w9 H => ?_); (focus (show (fs.length + 1) * 64 ≤ _; omega)); (focus omega); simp only [List.cons_append, List.nil_append] at H; (repeat' ((conv => whnf); first | (((with_reducible show Gd ..); first | (with_reducible first | refine Gd.t ?_ | refine Gd.f ?_ | (first | apply Gd.dec | apply Gd.beq | apply Gd.bne) <;> intro _ | refine Gd.not ?_) | refine Gd.t ?_ | refine Gd.f ?_ | apply Gd.var <;> intro _) <;> try (exfalso; omega)) | with_reducible refine Sq.mk ?_ | ((with_reducible show Ld1 ..); first | refine Ld1.h H ?_ | refine Ld1.rF ?_ | refine Ld1.r ?_) | ((with_reducible show Ld ..); first | refine Ld.h H ?_ | refine Ld.r ?_) | ((with_reducible show Ix ..); first | refine Ix.h ?_ | refine Ix.ha ?_) | (refine St.h H ?_; clear H; intro _ H))); have hl1 : (fs ++ [(⟨nm1, P1, cp1, ps1, B1, cb1, b1⟩ : FM)]).length = fs.length + 1 := (by simp); refine ⟨(Rc2, n2, A', c', fs ++ [⟨nm1, P1, cp1, ps1, B1, cb1, b1⟩], s2), ⟨rfl, rfl, rfl, rfl, trivial⟩, rfl, ⟨g1, g2, g3, g4, .inr (by simp only [hl1]; exact g5), (by simp only [hl1]; exact g6), ?_⟩, (by show (if fs ++ [(⟨nm1, P1, cp1, ps1, B1, cb1, b1⟩ : FM)] = [] then 100000 else 0) + blkM Rc2 n2 s2.sp < _; rw [if_neg (by simp)]; exact Nat.lt_of_le_of_lt (Nat.le_of_eq (Nat.zero_add _)) g7)⟩; simp only [hl1]; exact Hp.swap (Hp.fnsS (H.sel [4, 4, 1, 1, 1] rfl)))
      rw [hke]
      have hRe : R = .ok (fs.map FM.e) ts := by
        rw [hRp]
        cases Rc with
        | out => exact absurd hRp hne
        | err e p => rw [is_err ha (by decide) (by decide)] at hke; cases hke
        | ok L ts1 =>
          obtain ⟨hs, hg⟩ := ha.gd
          obtain rfl : ts = ts1 := by cases hs; rfl
          rw [is_ok ha] at hke
          have hk : curK ts = k_end := by simpa using hke
          have hLf : fs.map FM.e = L := hv L _ rfl
          rw [hLf]
          cases L with
          | nil => exact absurd (List.map_eq_nil_iff.1 hLf) hfe
          | cons x L =>
            replace hRp : R = loopF F n (x :: L) ts := hRp
            show loopF F n (x :: L) ts = _
            cases n with
            | zero => exact absurd hRp hne
            | succ n => rw [loopF_s, if_pos hk]
      repeat' ((conv => whnf); first | (((with_reducible show Gd ..); first | (with_reducible first | refine Gd.t ?_ | refine Gd.f ?_ | (first | apply Gd.dec | apply Gd.beq | apply Gd.bne) <;> intro _ | refine Gd.not ?_) | refine Gd.t ?_ | refine Gd.f ?_ | apply Gd.var <;> intro _) <;> try (exfalso; omega)) | with_reducible refine Sq.mk ?_ | ((with_reducible show Ld1 ..); first | refine Ld1.h H ?_ | refine Ld1.rF ?_ | refine Ld1.r ?_) | ((with_reducible show Ld ..); first | refine Ld.h H ?_ | refine Ld.r ?_) | ((with_reducible show Ix ..); first | refine Ix.h ?_ | refine Ix.ha ?_) | (refine St.h H ?_; clear H; intro _ H))
      (((conv => whnf); refine Cl.mk (fine_r X ⟨ts, none⟩ _ (H.atC 3 rfl)) ?_); rintro _ _ ⟨rfl, hx⟩; replace H := H.ext hx; clear hx)
      repeat' ((conv => whnf); first | (((with_reducible show Gd ..); first | (with_reducible first | refine Gd.t ?_ | refine Gd.f ?_ | (first | apply Gd.dec | apply Gd.beq | apply Gd.bne) <;> intro _ | refine Gd.not ?_) | refine Gd.t ?_ | refine Gd.f ?_ | apply Gd.var <;> intro _) <;> try (exfalso; omega)) | with_reducible refine Sq.mk ?_ | ((with_reducible show Ld1 ..); first | refine Ld1.h H ?_ | refine Ld1.rF ?_ | refine Ld1.r ?_) | ((with_reducible show Ld ..); first | refine Ld.h H ?_ | refine Ld.r ?_) | ((with_reducible show Ix ..); first | refine Ix.h ?_ | refine Ix.ha ?_) | (refine St.h H ?_; clear H; intro _ H))
      replace H := Hp.fr0L H0 H (fun c hc => by simp only [List.mem_cons, List.not_mem_nil, or_false] at hc; rcases hc with rfl | rfl | rfl | rfl <;> exact .inl rfl)
      simp only [List.cons_append, List.nil_append] at H
      repeat' ((conv => whnf); first | (((with_reducible show Gd ..); first | (with_reducible first | refine Gd.t ?_ | refine Gd.f ?_ | (first | apply Gd.dec | apply Gd.beq | apply Gd.bne) <;> intro _ | refine Gd.not ?_) | refine Gd.t ?_ | refine Gd.f ?_ | apply Gd.var <;> intro _) <;> try (exfalso; omega)) | with_reducible refine Sq.mk ?_ | ((with_reducible show Ld1 ..); first | refine Ld1.h H ?_ | refine Ld1.rF ?_ | refine Ld1.r ?_) | ((with_reducible show Ld ..); first | refine Ld.h H ?_ | refine Ld.r ?_) | ((with_reducible show Ix ..); first | refine Ix.h ?_ | refine Ix.ha ?_) | (refine St.h H ?_; clear H; intro _ H))
      exact .inl ⟨fs, ts, B, c, by rw [← hR, hRe], rfl, by omega, H.sel [0, 0] rfl⟩
end Go.Proofs.YtfnjodpehomgfaaGreatDoor
namespace Go.Proofs.YtfnjodpehomgfaaGreatDoor
open Go Go.Sh Go.Tx
attribute [local irreducible] Blk Ext RdS
theorem ET.Ok.ext {w w' : World} {t : ET} (h : ET.Ok w t) (e : Ext w w') : ET.Ok w' t := ET.Ok.loc e.size h fun b hb => by
  have e2 := e
  unfold Ext at e2
  exact Go.RowKit.Below.block e2 b (ET.Ok.lt h b hb)
end Go.Proofs.YtfnjodpehomgfaaGreatDoor
namespace Go.Proofs.YtfnjodpehomgfaaGreatDoor
open Go Go.Sh Go.Tx
attribute [local irreducible] Blk Ext RdS
theorem SM.Oks.ext {w w' : World} {l : List SM} (h : SM.Oks w l) (e : Ext w w') : SM.Oks w' l := SM.Oks.loc e.size h fun b hb => by
  have e2 := e
  unfold Ext at e2
  exact Go.RowKit.Below.block e2 b (SM.Oks.lt h b hb)
theorem ET.Oks.ext {w w' : World} {l : List ET} (h : ET.Oks w l) (e : Ext w w') : ET.Oks w' l := ET.Oks.loc e.size h fun b hb => by
  have e2 := e
  unfold Ext at e2
  exact Go.RowKit.Below.block e2 b (ET.Oks.lt h b hb)
theorem FM.Oks.ext {w w' : World} {l : List FM} (h : FM.Oks w l) (e : Ext w w') : FM.Oks w' l := FM.Oks.loc e.size h fun b hb => by
  have e2 := e
  unfold Ext at e2
  exact Go.RowKit.Below.block e2 b (FM.Oks.lt h b hb)
end Go.Proofs.YtfnjodpehomgfaaGreatDoor
namespace Go.Proofs.YtfnjodpehomgfaaGreatDoor
open Go Go.Sh Go.Tx
attribute [local irreducible] Blk Ext RdS
def srcOf (R : Res (List Fnc)) : List Fnc := match R with | .ok l _ => l | _ => []
def errOf (R : Res (List Fnc)) : Int := match R with | .err e _ => e | _ => 0
def plcOf (R : Res (List Fnc)) : Nat := match R with | .err _ p => p | _ => 0
def OkQ (R : Res (List Fnc)) (w : World) (v : Value) (w' : World) : Prop :=
  ∃ m A c, m.map FM.e = srcOf R ∧ v = .tuple #[.agg #[.slice A m.length c], .agg #[.int .i64 (errOf R), .int .i64 (plcOf R : Int)]] ∧ m.length ≤ 2000000 ∧ Hp nw w w' [qu FM.enc 3 34 A c m, fns m]
theorem okq {l : Bs} {w w' : World} {v : Value} (h : OkP l w v w') : OkQ (PR l) w v w' := by
  rcases h with ⟨m, ts, A, c, h1, h2, h3, h4⟩ | ⟨e, p, h1, h2, h3⟩
  · exact ⟨m, A, c, by rw [h1]; rfl, by rw [h1]; exact h2, h3, h4⟩
  · refine ⟨[], none, 0, by rw [h1]; rfl, by rw [h1]; exact h2, by simp, Hp.nil (Hp.fns0 ((Hp.begin nw w).ext h3)) FM.enc 3 34⟩
end Go.Proofs.YtfnjodpehomgfaaGreatDoor
namespace Go.Tx
inductive Sy where
  | t (k : Bs) (d : Nat)
  | un (d : Nat)
  | mn (d : Nat)
  | lp (lv d : Nat)
  | cl (d : Nat)
  | a0 (d : Nat)
  | a1 (d : Nat)
  | p0
  | p1
  | ss (d : Nat)
  | el (d : Nat)
  | e2 (d : Nat)
inductive Act where
  | eat (p : List Sy)
  | pop
  | err (e : Int)
def Act.more (a : Act) (q : List Sy) : Act := match a with
  | .eat p => .eat (p ++ q)
  | .pop => .pop
  | .err e => .err e
def lopsN (d : Nat) : Nat → List Sy
  | 0 => []
  | n + 1 => lopsN d n ++ [.lp (7 - n) d]
def exL (lv d : Nat) : List Sy := .un d :: lopsN d (8 - lv)
def kidS (d n : Nat) : Nat → List Sy
  | 0 => [.t s_rp d]
  | m + 1 => (if m + 1 < n then [.t s_comma d] else []) ++ (exL 0 d ++ kidS d n m)
def blk (d : Nat) : List Sy := [.t s_lb d, .ss d]
def deepA (d : Nat) (p : List Sy) : Act := if 40 < d then .err 144 else .eat p
def formS (k : Bs) (d : Nat) : List Sy :=
  if k = k_reduce then .t k_name d :: .t s_comma d :: .t k_name d :: .t s_comma d :: kidS d 3 3
  else if k = k_each then .t k_name d :: .t s_comma d :: kidS d 2 2 else kidS d 2 2
def actU (d : Nat) (k : Bs) : Act :=
  if k = s_minus then deepA (d + 1) [.mn (d + 1)]
  else if k = s_bang then deepA (d + 1) [.un (d + 1)]
  else if k = k_number then .eat []
  else if k = k_name then .eat [.cl d]
  else if k = s_lp then deepA (d + 1) (exL 0 (d + 1) ++ [.t s_rp d])
  else if k = k_min ∨ k = k_max ∨ k = k_reduce ∨ k = k_each then deepA (d + 1) (.t s_lp (d + 1) :: formS k (d + 1))
  else .err 141
def plainS (d : Nat) (k : Bs) : List Sy :=
  if k = k_sync then [] else if k = k_break then [] else if k = k_continue then []
  else if k = k_do then exL 0 d else if k = k_return then exL 0 d
  else if k = k_spawn then [.t k_name d, .t s_asg d, .t k_name d, .t s_lp d, .a0 d]
  else if k = k_let then .t k_name d :: .t s_asg d :: exL 0 d
  else .t s_asg d :: exL 0 d
def choS (d : Nat) : List Sy := exL 0 d ++ (blk (d + 1) ++ [.el d])
def act : Sy → Bs → Act
  | .t k' _, k => if k = k' then .eat [] else .err 141
  | .un d, k => actU d k
  | .mn d, k => if k = k_number then .eat [] else actU d k
  | .lp lv d, k => if standsB lv k = true then .eat (exL (lv + 1) d ++ [.lp lv d]) else .pop
  | .cl d, k => if k = s_lp then deepA (d + 1) [.a0 (d + 1)] else .pop
  | .a0 d, k => if k = s_rp then .eat [] else (actU d k).more (lopsN d 8 ++ [.a1 d])
  | .a1 d, k => if k = s_rp then .eat [] else if k = s_comma then .eat (exL 0 d ++ [.a1 d]) else .err 141
  | .p0, k => if k = s_rp then .eat [] else if k = k_name then .eat [.p1] else .err 141
  | .p1, k => if k = s_rp then .eat [] else if k = s_comma then .eat [.t k_name 0, .p1] else .err 141
  | .ss d, k => if k = s_rb then .eat [] else if beginsB k = true then
      if k = k_if then deepA d (choS d ++ [.ss d]) else if k = k_while then deepA d (exL 0 d ++ (blk (d + 1) ++ [.ss d]))
      else deepA d (plainS d k ++ [.t s_semi d, .ss d])
    else .err 141
  | .el d, k => if k = k_else then .eat [.e2 d] else .pop
  | .e2 d, k => if k = k_if then deepA (d + 1) (choS (d + 1)) else if k = s_lb then .eat [.ss (d + 1)] else .err 141
def fnS : List Sy := [.t k_name 0, .t s_lp 0, .p0, .t s_lb 1, .ss 1]
inductive Go1 where
  | eat (S : List Sy)
  | fin
  | err (e : Int)
def go : List Sy → Bs → Go1
  | [], k => if k = k_end then .fin else if k = k_fn then .eat fnS else .err 141
  | s :: S, k => match act s k with
    | .eat p => .eat (p ++ S)
    | .pop => go S k
    | .err e => .err e
def isMn : List Sy → Bool
  | .mn _ :: _ => true
  | _ => false
def run : List Sy → List Tk → Res Unit
  | S, [] => match go S [] with
    | .fin => .ok () []
    | .err e => .err e 0
    | .eat _ => .out
  | S, t :: r => match go S t.kind with
    | .fin => .ok () (t :: r)
    | .err e => .err e t.at_
    | .eat S' => match r with
      | [] => .out
      | u :: r' => if u.err ≠ 0 then .err u.err u.at_ else if u.kind = k_number ∧ u.n = -9223372036854775808 ∧ isMn S' = false then .err 143 u.at_ else run S' (u :: r')
theorem run_eq (S : List Sy) (ts : List Tk) : run S ts = match go S (curK ts) with
    | .fin => .ok () ts
    | .err e => .err e (curT ts).at_
    | .eat S' => (stepP (isMn S') ts).bind fun _ ts' => run S' ts' := by
  cases ts with
  | nil => rw [run]; rfl
  | cons t r =>
    rw [run]
    show _ = match go S t.kind with | .fin => _ | .err e => _ | .eat S' => _
    cases go S t.kind with
    | fin => rfl
    | err e => rfl
    | eat S' =>
      cases r with
      | nil => rfl
      | cons u r' =>
        simp only [stepP]
        split
        · rfl
        · split <;> rfl
theorem run_congr {S S' : List Sy} {ts : List Tk} (h : go S (curK ts) = go S' (curK ts)) : run S ts = run S' ts := by
  rw [run_eq, run_eq, h]
def Sim {α : Type} (R : Res α) (ts : List Tk) (σ : List Sy) : Prop := R ≠ .out → ∀ S, isMn S = false → run (σ ++ S) ts = R.bind fun _ ts' => run S ts'
theorem mn_app {a b : List Sy} (ha : isMn a = false) (hb : isMn b = false) : isMn (a ++ b) = false := by
  cases a with
  | nil => exact hb
  | cons s a => cases s <;> first | rfl | exact ha
theorem Sim.bind {α β : Type} {R : Res α} {k : α → List Tk → Res β} {ts : List Tk} {σ1 σ2 : List Sy} (h1 : Sim R ts σ1) (hm : isMn σ2 = false) (h2 : ∀ a ts', Sim (k a ts') ts' σ2) : Sim (R.bind k) ts (σ1 ++ σ2) := by
  intro ho S hS
  rw [List.append_assoc]
  have h0 : R ≠ .out := fun e => ho (by rw [e]; rfl)
  rw [h1 h0 _ (mn_app hm hS)]
  cases R with
  | out => exact absurd rfl h0
  | err e p => rfl
  | ok a ts' => exact h2 a ts' ho S hS
theorem Sim.ret {α : Type} {a : α} {ts : List Tk} : Sim (.ok a ts) ts [] := fun _ S _ => rfl
theorem Sim.fin {α β : Type} {R : Res α} {g : α → β} {ts : List Tk} {σ : List Sy} (h : Sim R ts σ) : Sim (R.bind fun a ts' => .ok (g a) ts') ts σ := by
  have := Sim.bind (σ2 := []) h rfl (fun a ts' => Sim.ret (a := g a))
  rwa [List.append_nil] at this
theorem Sim.congr {α : Type} {R : Res α} {ts : List Tk} {σ σ' : List Sy} (hg : ∀ S, go (σ' ++ S) (curK ts) = go (σ ++ S) (curK ts)) (h : Sim R ts σ) : Sim R ts σ' := fun ho S hS => by
  rw [run_congr (hg S)]; exact h ho S hS
theorem Sim.eat {β : Type} {k : List Tk → Res β} {ts : List Tk} {s : Sy} {p σ : List Sy} {m : Bool} (ha : act s (curK ts) = .eat p) (hm : ∀ S, isMn S = false → isMn (p ++ (σ ++ S)) = m) (h : ∀ ts', Sim (k ts') ts' (p ++ σ)) : Sim ((stepP m ts).bind fun _ ts' => k ts') ts (s :: σ) := by
  intro ho S hS
  rw [run_eq]
  have hg : go (s :: σ ++ S) (curK ts) = .eat (p ++ (σ ++ S)) := by
    show (match act s (curK ts) with | .eat p => _ | .pop => _ | .err e => _) = _
    rw [ha]; rfl
  rw [hg]
  simp only
  rw [hm S hS]
  cases hs : stepP m ts with
  | out => rw [hs] at ho; exact absurd rfl ho
  | err e p => rfl
  | ok a ts' =>
    rw [hs] at ho
    show run _ ts' = (k ts').bind _
    have := h ts' ho S hS
    rw [List.append_assoc] at this
    exact this
theorem Sim.er {α : Type} {ts : List Tk} {s : Sy} {σ : List Sy} {e : Int} (ha : act s (curK ts) = .err e) : Sim (.err e (curT ts).at_ : Res α) ts (s :: σ) := by
  intro ho S hS
  rw [run_eq]
  have hg : go (s :: σ ++ S) (curK ts) = .err e := by
    show (match act s (curK ts) with | .eat p => _ | .pop => _ | .err e => _) = _
    rw [ha]
  rw [hg]; rfl
theorem Sim.pop {α : Type} {R : Res α} {ts : List Tk} {s : Sy} {σ : List Sy} (ha : act s (curK ts) = .pop) (h : Sim R ts σ) : Sim R ts (s :: σ) := by
  refine Sim.congr (σ := σ) (fun S => ?_) h
  show (match act s (curK ts) with | .eat p => _ | .pop => _ | .err e => _) = _
  rw [ha]; rfl
theorem Sim.take {k : Bs} {d : Nat} {ts : List Tk} : Sim (takeP k ts) ts [.t k d] := by
  unfold takeP
  split
  · rename_i h
    exact Sim.er (by simp only [act]; rw [if_neg h])
  · rename_i h
    exact Sim.eat (p := []) (σ := []) (by simp only [act]; rw [if_pos (Classical.not_not.1 h)]) (fun S hS => hS) fun ts' => Sim.ret
theorem Sim.takeB {β : Type} {k : Bs} {d : Nat} {ts : List Tk} {f : Tk → List Tk → Res β} {σ : List Sy} (hm : isMn σ = false) (h : ∀ a ts', Sim (f a ts') ts' σ) : Sim ((takeP k ts).bind f) ts (.t k d :: σ) := Sim.bind (σ1 := [.t k d]) Sim.take hm h
theorem deep_bind {β : Type} {d : Nat} {ts : List Tk} {k : List Tk → Res β} : ((deepP d ts).bind fun _ ts => k ts) = if 40 < d then .err 144 (curT ts).at_ else k ts := by
  unfold deepP
  split <;> rfl
theorem Res.assoc {α β γ : Type} (R : Res α) (f : α → List Tk → Res β) (g : β → List Tk → Res γ) : (R.bind f).bind g = R.bind fun a ts => (f a ts).bind g := by cases R <;> rfl
theorem Sim.deepB {β : Type} {d : Nat} {ts : List Tk} {s : Sy} {p σ : List Sy} {k : List Tk → Res β} (ha : act s (curK ts) = deepA d p) (h : act s (curK ts) = .eat p → Sim (k ts) ts (s :: σ)) : Sim ((deepP d ts).bind fun _ ts => k ts) ts (s :: σ) := by
  rw [deep_bind]
  unfold deepA at ha
  split
  · rename_i hd; rw [if_pos hd] at ha; exact Sim.er ha
  · rename_i hd; rw [if_neg hd] at ha; exact h ha
theorem go_eat {s : Sy} {S p : List Sy} {k : Bs} (h : act s k = .eat p) : go (s :: S) k = .eat (p ++ S) := by rw [go, h]
theorem actU_np (d : Nat) (k : Bs) : actU d k ≠ .pop := by
  unfold actU deepA
  repeat' split
  all_goals simp
theorem go_more {s : Sy} {d : Nat} {q S : List Sy} {k : Bs} (h : act s k = (actU d k).more q) : go (s :: S) k = go (.un d :: (q ++ S)) k := by
  rw [go, go, h]
  show _ = match actU d k with | .eat p => _ | .pop => _ | .err e => _
  cases hu : actU d k with
  | eat p => simp only [Act.more, List.append_assoc]
  | pop => exact absurd hu (actU_np d k)
  | err e => rfl
structure SimF (F : PF) : Prop where
  expr : ∀ lv d ts, lv ≤ 8 → Sim (F.expr lv d ts) ts (exL lv d)
  unary : ∀ d ts, Sim (F.unary d ts) ts [.un d]
  primary : ∀ d ts, curK ts ≠ s_minus → curK ts ≠ s_bang → Sim (F.primary d ts) ts [.un d]
  block : ∀ d ts, Sim (F.block d ts) ts (blk d)
  choice : ∀ d ts, Sim (F.choice d ts) ts (.t k_if d :: choS d)
section
variable {F : PF} (T : SimF F)
include T
theorem loopE_sim {lv d : Nat} (hl : lv < 8) : ∀ (n : Nat) (e : Ex) (ts : List Tk), Sim (loopE F lv d n e ts) ts [.lp lv d]
  | 0, _, _ => fun ho => absurd rfl ho
  | n + 1, e, ts => by
    unfold loopE
    split
    · rename_i hs
      refine Sim.eat (p := exL (lv + 1) d ++ [.lp lv d]) (σ := []) (m := false) (by simp only [act]; rw [if_pos hs]) (fun S hS => rfl) fun ts1 => ?_
      rw [List.append_nil]
      exact Sim.bind (T.expr (lv + 1) d ts1 (by omega)) rfl fun r ts2 => loopE_sim hl n _ ts2
    · rename_i hs
      exact Sim.pop (by simp only [act]; rw [if_neg hs]) Sim.ret
theorem comma_sim {c : Prop} [Decidable c] {d : Nat} {ts : List Tk} : Sim (if c then (takeP s_comma ts).bind fun _ ts1 => .ok () ts1 else .ok () ts : Res Unit) ts (if c then [.t s_comma d] else []) := by
  split
  · exact Sim.fin Sim.take
  · exact Sim.ret
theorem args_sim {d : Nat} : ∀ (n : Nat) (l : List Ex) (ts : List Tk), (l = [] → Sim (argsP F d n l ts) ts [.a0 d]) ∧ (l ≠ [] → Sim (argsP F d n l ts) ts [.a1 d])
  | 0, _, _ => ⟨fun _ ho => absurd rfl ho, fun _ ho => absurd rfl ho⟩
  | n + 1, l, ts => by
    unfold argsP
    by_cases hk : curK ts = s_rp
    · rw [if_pos hk]
      refine ⟨fun _ => Sim.congr (σ := [.t s_rp d]) (fun S => ?_) (Sim.fin Sim.take), fun _ => Sim.congr (σ := [.t s_rp d]) (fun S => ?_) (Sim.fin Sim.take)⟩
      · rw [hk]; rfl
      · rw [hk]; rfl
    · rw [if_neg hk]
      constructor
      · rintro rfl
        refine Sim.congr (σ := exL 0 d ++ [.a1 d]) (fun S => ?_) ?_
        · show go (.a0 d :: S) _ = go (.un d :: (lopsN d 8 ++ [.a1 d]) ++ S) _
          refine go_more ?_
          simp only [act]; rw [if_neg hk]
        · show Sim ((F.expr 0 d ts).bind _) ts _
          exact Sim.bind (T.expr 0 d ts (by omega)) rfl fun e ts2 => (args_sim n [e] ts2).2 (by simp)
      · intro hl
        have hl2 : l.length ≠ 0 := fun e => hl (List.length_eq_zero_iff.1 e)
        rw [if_pos hl2, Res.assoc]
        refine Sim.congr (σ := .t s_comma d :: (exL 0 d ++ [.a1 d])) (fun S => ?_) ?_
        · show go (.a1 d :: S) _ = go (.t s_comma d :: ((exL 0 d ++ [.a1 d]) ++ S)) _
          by_cases hc : curK ts = s_comma
          · rw [hc]; rfl
          · simp only [go, act]; rw [if_neg hk, if_neg hc, if_neg hc]
        · refine Sim.takeB rfl fun _ ts1 => ?_
          show Sim ((F.expr 0 d ts1).bind fun e ts2 => argsP F d n (l ++ [e]) ts2) ts1 _
          exact Sim.bind (T.expr 0 d ts1 (by omega)) rfl fun e ts2 => (args_sim n (l ++ [e]) ts2).2 (by simp)
theorem kid_mn (d n : Nat) (m : Nat) : isMn (kidS d n m) = false := by
  cases m with
  | zero => rfl
  | succ m => unfold kidS; split <;> rfl
theorem kids_sim {d n : Nat} : ∀ (m : Nat) (l : List Ex) (ts : List Tk), Sim (kidsP F d n m l ts) ts (kidS d n m)
  | 0, l, ts => Sim.fin Sim.take
  | m + 1, l, ts => by
    unfold kidsP kidS
    exact Sim.bind (comma_sim T) rfl fun _ ts1 => Sim.bind (T.expr 0 d ts1 (by omega)) (kid_mn T d n m) fun e ts2 => kids_sim m _ ts2
theorem form_sim {k : Bs} {d : Nat} {ts : List Tk} : Sim (formP F k d ts) ts (formS k d) := by
  unfold formP formS
  split
  · refine Sim.takeB rfl fun f ts1 => Sim.takeB rfl fun _ ts2 => Sim.takeB rfl fun c ts3 => Sim.takeB (kid_mn T d 3 3) fun _ ts4 => ?_
    exact Sim.fin (kids_sim T 3 [] ts4)
  · split
    · refine Sim.takeB rfl fun f ts1 => Sim.takeB (kid_mn T d 2 2) fun _ ts2 => ?_
      exact Sim.fin (kids_sim T 2 [] ts2)
    · exact Sim.fin (kids_sim T 2 [] ts)
theorem form_mn {k : Bs} {d : Nat} : isMn (formS k d) = false := by
  unfold formS
  split
  · rfl
  · split
    · rfl
    · exact kid_mn T d 2 2
theorem unary_sim {d : Nat} {ts : List Tk} : Sim (unaryP F d ts) ts [.un d] := by
  unfold unaryP
  by_cases h1 : curK ts = s_minus
  · have ha : act (.un d) (curK ts) = deepA (d + 1) [.mn (d + 1)] := by rw [h1]; rfl
    rw [if_neg (fun e => e.1 h1)]
    refine Sim.deepB ha fun ha => ?_
    refine Sim.eat ha (fun S _ => by rw [h1]; rfl) fun ts1 => ?_
    rw [List.append_nil]
    split
    · rename_i h2
      exact Sim.eat (p := []) (σ := []) (by simp only [act]; rw [if_pos h2.2]) (fun S hS => hS) fun _ => Sim.ret
    · rename_i h2
      have h3 : curK ts1 ≠ k_number := fun e => h2 ⟨h1, e⟩
      refine Sim.congr (σ := [.un (d + 1)]) (fun S => ?_) (Sim.fin (T.unary (d + 1) ts1))
      show go (.mn (d + 1) :: S) _ = go (.un (d + 1) :: S) _
      simp only [go, act]; rw [if_neg h3]
  · by_cases h2 : curK ts = s_bang
    · have ha : act (.un d) (curK ts) = deepA (d + 1) [.un (d + 1)] := by rw [h2]; rfl
      rw [if_neg (fun e => e.2 h2)]
      refine Sim.deepB ha fun ha => ?_
      refine Sim.eat ha (fun S _ => by rw [h2]; rfl) fun ts1 => ?_
      rw [List.append_nil, if_neg (fun e => h1 e.1)]
      exact Sim.fin (T.unary (d + 1) ts1)
    · rw [if_pos ⟨h1, h2⟩]
      exact T.primary d ts h1 h2
theorem primary_sim {d : Nat} {ts : List Tk} (h1 : curK ts ≠ s_minus) (h2 : curK ts ≠ s_bang) : Sim (primaryP F d ts) ts [.un d] := by
  unfold primaryP
  have ha0 : act (.un d) (curK ts) = actU d (curK ts) := rfl
  unfold actU at ha0
  rw [if_neg h1, if_neg h2] at ha0
  split
  · rename_i h; rw [if_pos h] at ha0
    exact Sim.eat (p := []) (σ := []) ha0 (fun S hS => hS) fun _ => Sim.ret
  · rename_i h3; rw [if_neg h3] at ha0
    split
    · rename_i h; rw [if_pos h] at ha0
      refine Sim.eat (p := [.cl d]) (σ := []) ha0 (fun S hS => rfl) fun ts1 => ?_
      rw [List.append_nil]
      split
      · rename_i h; exact Sim.pop (by simp only [act]; rw [if_neg h]) Sim.ret
      · rename_i h
        have ha : act (.cl d) (curK ts1) = deepA (d + 1) [.a0 (d + 1)] := by simp only [act]; rw [if_pos (Classical.not_not.1 h)]
        refine Sim.deepB ha fun ha => ?_
        refine Sim.eat ha (fun S _ => rfl) fun ts2 => ?_
        exact Sim.fin ((args_sim T _ [] ts2).1 rfl)
    · rename_i h4; rw [if_neg h4] at ha0
      split
      · rename_i h; rw [if_pos h] at ha0
        refine Sim.deepB ha0 fun ha => ?_
        refine Sim.eat ha (fun S _ => rfl) fun ts1 => ?_
        rw [List.append_nil]
        exact Sim.bind (T.expr 0 (d + 1) ts1 (by omega)) rfl fun e ts2 => Sim.fin Sim.take
      · rename_i h5; rw [if_neg h5] at ha0
        split
        · rename_i h; rw [if_pos h] at ha0
          refine Sim.deepB ha0 fun ha => ?_
          refine Sim.eat ha (fun S _ => rfl) fun ts1 => ?_
          rw [List.append_nil]
          exact Sim.takeB (form_mn T) fun _ ts2 => form_sim T
        · rename_i h6; rw [if_neg h6] at ha0
          exact Sim.er ha0
theorem plain_sim {d : Nat} {ts0 ts : List Tk} : Sim (
  if curK ts0 = k_sync then .ok (Go.Tx.St.mk 3 [] .zero [] []) ts
  else if curK ts0 = k_break then .ok (Go.Tx.St.mk 8 [] .zero [] []) ts
  else if curK ts0 = k_continue then .ok (Go.Tx.St.mk 9 [] .zero [] []) ts
  else if curK ts0 = k_do then (F.expr 0 d ts).bind fun e ts1 => .ok (Go.Tx.St.mk 6 [] e [] []) ts1
  else if curK ts0 = k_return then (F.expr 0 d ts).bind fun e ts1 => .ok (Go.Tx.St.mk 7 [] e [] []) ts1
  else if curK ts0 = k_spawn then (takeP k_name ts).bind fun n ts1 => (takeP s_asg ts1).bind fun _ ts2 => (takeP k_name ts2).bind fun f ts3 => (takeP s_lp ts3).bind fun _ ts4 => (argsP F d (ts4.length + 1) [] ts4).bind fun l ts5 => .ok (Go.Tx.St.mk 2 n.text (Ex.mk 5 0 0 f.text [] l) [] []) ts5
  else if curK ts0 = k_let then (takeP k_name ts).bind fun n ts1 => (takeP s_asg ts1).bind fun _ ts2 => (F.expr 0 d ts2).bind fun e ts3 => .ok (Go.Tx.St.mk 0 n.text e [] []) ts3
  else (takeP s_asg ts).bind fun _ ts1 => (F.expr 0 d ts1).bind fun e ts2 => .ok (Go.Tx.St.mk 1 (curT ts0).text e [] []) ts2) ts (plainS d (curK ts0)) := by
  unfold plainS
  split
  · exact Sim.ret
  split
  · exact Sim.ret
  split
  · exact Sim.ret
  split
  · exact Sim.fin (T.expr 0 d ts (by omega))
  split
  · exact Sim.fin (T.expr 0 d ts (by omega))
  split
  · refine Sim.takeB rfl fun n ts1 => Sim.takeB rfl fun _ ts2 => Sim.takeB rfl fun f ts3 => Sim.takeB rfl fun _ ts4 => ?_
    exact Sim.fin ((args_sim T _ [] ts4).1 rfl)
  split
  · refine Sim.takeB rfl fun n ts1 => Sim.takeB rfl fun _ ts2 => ?_
    exact Sim.fin (T.expr 0 d ts2 (by omega))
  · refine Sim.takeB rfl fun _ ts1 => ?_
    exact Sim.fin (T.expr 0 d ts1 (by omega))
theorem choice_sim {d : Nat} {ts : List Tk} : Sim (choiceP F d ts) ts (.t k_if d :: choS d) := by
  unfold choiceP choS
  refine Sim.takeB rfl fun _ ts1 => Sim.bind (T.expr 0 d ts1 (by omega)) rfl fun e ts2 => Sim.bind (T.block (d + 1) ts2) rfl fun b ts3 => ?_
  split
  · rename_i h; exact Sim.pop (by simp only [act]; rw [if_neg h]) Sim.ret
  · rename_i h
    refine Sim.eat (p := [.e2 d]) (σ := []) (m := false) (by simp only [act]; rw [if_pos (Classical.not_not.1 h)]) (fun S _ => rfl) fun ts4 => ?_
    rw [List.append_nil]
    split
    · rename_i hi
      have ha : act (.e2 d) (curK ts4) = deepA (d + 1) (choS (d + 1)) := by simp only [act]; rw [if_pos hi]
      refine Sim.deepB ha fun ha => ?_
      refine Sim.congr (fun S => ?_) (Sim.fin (T.choice (d + 1) ts4))
      rw [show ([.e2 d] ++ S : List Sy) = .e2 d :: S from rfl, go_eat ha, List.cons_append, go_eat (p := []) (by rw [hi]; rfl)]; rfl
    · rename_i hi
      refine Sim.congr (fun S => ?_) (Sim.fin (T.block (d + 1) ts4))
      show go (.e2 d :: S) _ = go (.t s_lb (d + 1) :: ([.ss (d + 1)] ++ S)) _
      by_cases hb : curK ts4 = s_lb
      · rw [hb]; rfl
      · simp only [go, act]; rw [if_neg hi, if_neg hb, if_neg hb]
theorem stmt_sim {β : Type} {d : Nat} {ts : List Tk} {k : Go.Tx.St → List Tk → Res β} (hk : curK ts ≠ s_rb) (h : ∀ s ts', Sim (k s ts') ts' [.ss d]) : Sim ((stmtP F d ts).bind k) ts [.ss d] := by
  have ha0 : act (.ss d) (curK ts) = if beginsB (curK ts) = true then
      if curK ts = k_if then deepA d (choS d ++ [.ss d]) else if curK ts = k_while then deepA d (exL 0 d ++ (blk (d + 1) ++ [.ss d]))
      else deepA d (plainS d (curK ts) ++ [.t s_semi d, .ss d])
    else .err 141 := by simp only [act]; rw [if_neg hk]
  unfold stmtP
  split
  · rename_i hb
    rw [if_pos hb] at ha0
    rw [Res.assoc]
    by_cases hi : curK ts = k_if
    · rw [if_pos hi] at ha0
      refine Sim.deepB ha0 fun ha => ?_
      rw [if_pos hi]
      refine Sim.congr (fun S => ?_) (Sim.bind (T.choice d ts) rfl h)
      rw [show ([.ss d] ++ S : List Sy) = .ss d :: S from rfl, go_eat ha, List.cons_append, List.cons_append, go_eat (p := []) (by rw [hi]; rfl)]; rfl
    · rw [if_neg hi] at ha0
      by_cases hw : curK ts = k_while
      · rw [if_pos hw] at ha0
        refine Sim.deepB ha0 fun ha => ?_
        rw [if_neg hi, if_pos hw, Res.assoc]
        refine Sim.eat ha (fun S _ => rfl) fun ts1 => ?_
        rw [List.append_nil, Res.assoc]
        refine Sim.bind (T.expr 0 d ts1 (by omega)) rfl fun e ts2 => ?_
        rw [Res.assoc]
        exact Sim.bind (T.block (d + 1) ts2) rfl fun b ts3 => h _ ts3
      · rw [if_neg hw] at ha0
        refine Sim.deepB ha0 fun ha => ?_
        rw [if_neg hi, if_neg hw, Res.assoc]
        unfold plainP
        rw [Res.assoc]
        refine Sim.eat (σ := []) (m := false) (k := _) ha (fun S _ => ?_) fun ts1 => ?_
        · rw [List.nil_append, List.append_assoc]
          unfold plainS
          repeat' split
          all_goals rfl
        · rw [List.append_nil]
          refine Sim.bind (plain_sim T) rfl fun s ts2 => ?_
          rw [Res.assoc]
          exact Sim.takeB rfl fun _ ts3 => h _ ts3
  · rename_i hb
    rw [if_neg hb] at ha0
    exact Sim.er ha0
theorem loopB_sim {d : Nat} : ∀ (n : Nat) (l : List Go.Tx.St) (ts : List Tk), Sim ((loopB F d n l ts).bind fun l ts2 => (takeP s_rb ts2).bind fun _ ts3 => .ok l ts3) ts [.ss d]
  | 0, _, _ => fun ho => absurd rfl ho
  | n + 1, l, ts => by
    unfold loopB
    by_cases hk : curK ts = s_rb
    · rw [if_pos hk]
      refine Sim.congr (σ := [.t s_rb d]) (fun S => ?_) (Sim.fin Sim.take)
      rw [hk]; rfl
    · rw [if_neg hk, Res.assoc]
      exact stmt_sim T hk fun s ts1 => loopB_sim n _ ts1
theorem block_sim {d : Nat} {ts : List Tk} : Sim (blockP F d ts) ts (blk d) := by
  unfold blockP blk
  exact Sim.takeB rfl fun _ ts1 => loopB_sim T _ [] ts1
theorem expr_sim {lv d : Nat} {ts : List Tk} (hl : lv ≤ 8) : Sim (exprP F lv d ts) ts (exL lv d) := by
  unfold exprP
  split
  · rename_i h; subst h; exact T.unary d ts
  · have h8 : 8 - lv = (8 - (lv + 1)) + 1 := by omega
    have h7 : 7 - (8 - (lv + 1)) = lv := by omega
    unfold exL
    rw [h8]
    show Sim _ ts (.un d :: (lopsN d (8 - (lv + 1)) ++ [.lp (7 - (8 - (lv + 1))) d]))
    rw [h7]
    exact Sim.bind (T.expr (lv + 1) d ts (by omega)) rfl fun e ts1 => loopE_sim T (by omega) _ e ts1
end
theorem pf_sim : ∀ f, SimF (pf f)
  | 0 => ⟨fun _ _ _ _ ho => absurd rfl ho, fun _ _ ho => absurd rfl ho, fun _ _ _ _ ho => absurd rfl ho, fun _ _ ho => absurd rfl ho, fun _ _ ho => absurd rfl ho⟩
  | f + 1 => ⟨fun lv d ts hl => expr_sim (pf_sim f) hl, fun d ts => unary_sim (pf_sim f), fun d ts h1 h2 => primary_sim (pf_sim f) h1 h2, fun d ts => block_sim (pf_sim f), fun d ts => choice_sim (pf_sim f)⟩
theorem loopN_sim {α : Type} {σ : List Sy} (hσ : isMn σ = false) {k : List Bs → List Tk → Res α} (hk : ∀ ps ts, Sim (k ps ts) ts σ) : ∀ (n : Nat) (l : List Bs) (ts : List Tk), (l = [] → Sim ((loopN n l ts).bind fun ps ts4 => (takeP s_rp ts4).bind fun _ ts5 => k ps ts5) ts (.p0 :: σ)) ∧ (l ≠ [] → Sim ((loopN n l ts).bind fun ps ts4 => (takeP s_rp ts4).bind fun _ ts5 => k ps ts5) ts (.p1 :: σ))
  | 0, _, _ => ⟨fun _ ho => absurd rfl ho, fun _ ho => absurd rfl ho⟩
  | n + 1, l, ts => by
    unfold loopN
    by_cases hc : curK ts = s_rp
    · rw [if_pos hc]
      refine ⟨fun _ => Sim.congr (σ := .t s_rp 0 :: σ) (fun S => ?_) (Sim.takeB hσ fun _ ts5 => hk l ts5), fun _ => Sim.congr (σ := .t s_rp 0 :: σ) (fun S => ?_) (Sim.takeB hσ fun _ ts5 => hk l ts5)⟩
      · rw [hc]; rfl
      · rw [hc]; rfl
    · rw [if_neg hc]
      constructor
      · rintro rfl
        rw [if_neg (by simp)]
        show Sim (((takeP k_name ts).bind fun t ts2 => loopN n [t.text] ts2).bind _) ts _
        rw [Res.assoc]
        refine Sim.congr (σ := .t k_name 0 :: .p1 :: σ) (fun S => ?_) (Sim.takeB rfl fun t ts2 => (loopN_sim hσ hk n [t.text] ts2).2 (by simp))
        show go (.p0 :: (σ ++ S)) _ = go (.t k_name 0 :: .p1 :: (σ ++ S)) _
        by_cases hn : curK ts = k_name
        · rw [hn]; rfl
        · simp only [go, act]; rw [if_neg hc, if_neg hn, if_neg hn]
      · intro hl
        rw [if_pos (fun e => hl (List.length_eq_zero_iff.1 e)), Res.assoc, Res.assoc]
        refine Sim.congr (σ := .t s_comma 0 :: .t k_name 0 :: .p1 :: σ) (fun S => ?_) (Sim.takeB rfl fun _ ts1 => ?_)
        · show go (.p1 :: (σ ++ S)) _ = go (.t s_comma 0 :: .t k_name 0 :: .p1 :: (σ ++ S)) _
          by_cases hn : curK ts = s_comma
          · rw [hn]; rfl
          · simp only [go, act]; rw [if_neg hc, if_neg hn, if_neg hn]
        · show Sim (((takeP k_name ts1).bind fun t ts2 => loopN n (l ++ [t.text]) ts2).bind _) ts1 _
          rw [Res.assoc]
          exact Sim.takeB rfl fun t ts2 => (loopN_sim hσ hk n _ ts2).2 (by simp)
theorem function_sim {F : PF} (T : SimF F) {ts : List Tk} : Sim (functionP F ts) ts (.t k_fn 0 :: fnS) := by
  unfold functionP fnS
  refine Sim.takeB rfl fun _ ts1 => Sim.takeB rfl fun nm ts2 => Sim.takeB rfl fun _ ts3 => ?_
  refine (loopN_sim (σ := [.t s_lb 1, .ss 1]) rfl (fun ps ts5 => ?_) _ [] ts3).1 rfl
  exact Sim.congr (fun S => rfl) (Sim.fin (T.block 1 ts5))
theorem loopF_sim {F : PF} (T : SimF F) : ∀ (n : Nat) (l : List Fnc) (ts : List Tk), loopF F n l ts ≠ .out → run [] ts = (loopF F n l ts).bind fun _ ts' => .ok () ts'
  | 0, _, _ => fun ho => absurd rfl ho
  | n + 1, l, ts => by
    unfold loopF
    by_cases hk : curK ts = k_end
    · rw [if_pos hk]
      intro _
      rw [run_eq, show go [] (curK ts) = .fin by rw [hk]; rfl]; rfl
    · rw [if_neg hk]
      intro ho
      rw [Res.assoc]
      have h0 : functionP F ts ≠ .out := fun e => ho (by rw [e]; rfl)
      have h1 := function_sim T (ts := ts) h0 [] rfl
      have h2 : run [] ts = run (.t k_fn 0 :: fnS ++ []) ts := by
        refine run_congr ?_
        show (if curK ts = k_end then Go1.fin else if curK ts = k_fn then .eat fnS else .err 141) = go (.t k_fn 0 :: (fnS ++ [])) _
        rw [if_neg hk, List.append_nil]
        simp only [go, act]
        split <;> rfl
      rw [h2, h1]
      cases hf : functionP F ts with
      | out => exact absurd hf h0
      | err e p => rfl
      | ok f ts1 =>
        rw [hf] at ho
        exact loopF_sim T n _ ts1 ho
def S0 : List Sy := .t k_fn 0 :: fnS
def runT (l : Bs) : Res Unit := (stepP false (start l)).bind fun _ ts => run S0 ts
theorem parse_run (l : Bs) : (parseP l (fuelOf l)).bind (fun _ ts => .ok () ts) = runT l := by
  have hf := parse_fin l
  unfold runT parseP at *
  rw [Res.assoc]
  change Fin ((stepP false (start l)).bind _) _ at hf
  change (stepP false (start l)).bind _ = _
  cases hs : stepP false (start l) with
  | out => rfl
  | err e p => rfl
  | ok a ts =>
    rw [hs] at hf
    show ((functionP (pf (fuelOf l)) ts).bind _).bind _ = run S0 ts
    change Fin ((functionP (pf (fuelOf l)) ts).bind _) _ at hf
    have h0 : functionP (pf (fuelOf l)) ts ≠ .out := fun e => by rw [e] at hf; exact hf
    have h1 := function_sim (pf_sim (fuelOf l)) (ts := ts) h0 [] rfl
    rw [List.append_nil] at h1
    unfold S0
    rw [h1, Res.assoc]
    cases hq : functionP (pf (fuelOf l)) ts with
    | out => exact absurd hq h0
    | err e p => rfl
    | ok f ts1 =>
      rw [hq] at hf
      change Fin (loopF (pf (fuelOf l)) (ts1.length + 1) [f] ts1) _ at hf
      refine (loopF_sim (pf_sim (fuelOf l)) _ [f] ts1 fun e => ?_).symm
      rw [e] at hf; exact hf
end Go.Tx
namespace Go.Tx
theorem skp_nl (m : Bs) : ∀ (b : Bool) (x : Bs) (p : Nat), (skp b x p < p + x.length → skp b (x ++ 10 :: m) p = skp b x p) ∧ (skp b x p = p + x.length → skp b (x ++ 10 :: m) p = skp false m (p + x.length + 1))
  | false, [], p => by
    refine ⟨fun h => absurd h (by simp [skp]), fun _ => ?_⟩
    rw [List.nil_append, skp, if_pos (by decide)]; rfl
  | true, [], p => by
    refine ⟨fun h => absurd h (by simp [skp]), fun _ => ?_⟩
    rw [List.nil_append, skp, if_pos (by decide)]; rfl
  | false, c :: r, p => by
    have h1 := skp_nl m false r (p + 1)
    have h2 := skp_nl m true r (p + 1)
    have h3 : ((r ++ 10 :: m).head?.map UInt8.toNat = some 47) ↔ (r.head?.map UInt8.toNat = some 47) := by
      cases r with
      | nil => simp
      | cons d r => simp
    simp only [List.cons_append, skp, List.length_cons, h3]
    rw [show p + (r.length + 1) = p + 1 + r.length by omega]
    split
    · exact h1
    · split
      · exact h2
      · exact ⟨fun _ => rfl, fun h => by omega⟩
  | true, c :: r, p => by
    have h1 := skp_nl m false r (p + 1)
    have h2 := skp_nl m true r (p + 1)
    simp only [List.cons_append, skp, List.length_cons]
    rw [show p + (r.length + 1) = p + 1 + r.length by omega]
    split
    · exact h1
    · exact h2
theorem span_nl (f : UInt8 → Bool) (hf : f 10 = false) (m : Bs) : ∀ x : Bs, spanN f (x ++ 10 :: m) = spanN f x
  | [] => by simp [spanN, hf]
  | c :: r => by simp only [List.cons_append, spanN, span_nl f hf m r]
theorem find_congr {α : Type} {f g : α → Bool} : ∀ {L : List α}, (∀ t ∈ L, f t = g t) → L.find? f = L.find? g
  | [], _ => rfl
  | a :: L, h => by
    rw [List.find?_cons, List.find?_cons, h a (by simp), find_congr fun t ht => h t (by simp [ht])]
theorem sign_nl {x m : Bs} : signAt (x ++ 10 :: m) = signAt x := by
  unfold signAt
  refine find_congr fun t ht => ?_
  have h10 : ∀ t ∈ signs, (10 : UInt8) ∉ t := by decide
  have h1 := h10 t ht
  by_cases hl : t.length ≤ x.length
  · rw [List.take_append_of_le_length hl]
  · have e1 : (x.take t.length == t) = false := by
      rw [beq_eq_false_iff_ne]
      intro e
      have := congrArg List.length e
      rw [List.length_take] at this
      omega
    rw [e1, beq_eq_false_iff_ne]
    intro e
    refine h1 ?_
    rw [← e, List.take_append, List.mem_append]
    right
    rw [show t.length - x.length = (t.length - x.length - 1) + 1 by omega, List.take_succ_cons]
    simp
theorem read_nl {l m : Bs} {p : Nat} (hp : p ≤ l.length) : ((readT l p).1.kind ≠ k_end → readT (l ++ 10 :: m) p = readT l p) ∧ ((readT l p).1.kind = k_end → readT (l ++ 10 :: m) p = readT (l ++ 10 :: m) (l.length + 1)) := by
  obtain ⟨h1, h2⟩ := skp_range false (l.drop p) p
  obtain ⟨s1, s2⟩ := skp_nl m false (l.drop p) p
  have hd : (l ++ 10 :: m).drop p = l.drop p ++ 10 :: m := List.drop_append_of_le_length hp
  have hm : (l ++ 10 :: m).drop (l.length + 1) = m := by rw [← List.drop_drop, List.drop_left]; rfl
  rw [List.length_drop] at h2 s1 s2
  rw [show p + (l.length - p) = l.length by omega] at h2 s1 s2
  by_cases ha : skp false (l.drop p) p < l.length
  · have hs := s1 ha
    obtain ⟨c, r, hcr⟩ : ∃ c r, l.drop (skp false (l.drop p) p) = c :: r := ⟨_, _, List.drop_eq_getElem_cons ha⟩
    have hcr2 : (l ++ 10 :: m).drop (skp false (l.drop p) p) = c :: r ++ 10 :: m := by
      rw [List.drop_append_of_le_length (by omega), hcr]
    have hsp : ∀ f : UInt8 → Bool, f 10 = false → (c :: (r ++ 10 :: m)).take (spanN f (c :: r)) = (c :: r).take (spanN f (c :: r)) ∧ spanN f (c :: (r ++ 10 :: m)) = spanN f (c :: r) := fun f hf => by
      have e := span_nl f hf m (c :: r)
      rw [List.cons_append] at e
      refine ⟨?_, e⟩
      rw [← List.cons_append, List.take_append_of_le_length (span_le f _)]
    have hsg : signAt (c :: (r ++ 10 :: m)) = signAt (c :: r) := sign_nl (x := c :: r)
    have hsame : readT (l ++ 10 :: m) p = readT l p := by
      unfold readT
      rw [hd, hs, hcr2, hcr, List.cons_append]
      simp only [(hsp alnum (by decide)).1, (hsp alnum (by decide)).2, (hsp digit (by decide)).1, (hsp digit (by decide)).2, hsg]
    refine ⟨fun _ => hsame, fun hk => ?_⟩
    exfalso
    revert hk
    unfold readT
    rw [hcr]
    simp only
    split
    · unfold named
      split
      · rename_i hkw
        intro e
        have e : (c :: r).take (spanN alnum (c :: r)) = k_end := e
        rw [e] at hkw
        exact absurd hkw (by decide)
      · intro e; exact absurd (show k_name = k_end from e) (by decide)
    · split
      · unfold number
        split
        · intro e; exact absurd (show k_number = k_end from e) (by decide)
        · intro e; exact absurd (show k_number = k_end from e) (by decide)
      · split
        · rename_i t ht
          unfold signAt at ht
          have := List.mem_of_find?_eq_some ht
          have h9 : ∀ t ∈ signs, t ≠ k_end := by decide
          exact h9 t this
        · intro e; exact absurd (show ([] : Bs) = k_end from e) (by decide)
  · have hl : skp false (l.drop p) p = l.length := by omega
    have hs := s2 hl
    have hrl : (readT l p).1.kind = k_end := by
      unfold readT
      rw [hl, List.drop_eq_nil_of_le (Nat.le_refl _)]
    refine ⟨fun h => absurd hrl h, fun _ => ?_⟩
    unfold readT
    rw [hd, hs, hm]
theorem words_nl {l m : Bs} : ∀ (n p : Nat), p ≤ l.length → l.length < n + p → ∃ A t, words l n p = A ++ [t] ∧ (∀ a ∈ A, a.err = 0 ∧ a.kind ≠ k_end) ∧ (t.kind = k_end → ∀ k, l.length + m.length + 1 < k + p → words (l ++ 10 :: m) k p = A ++ words (l ++ 10 :: m) (m.length + 1) (l.length + 1)) ∧ (t.kind ≠ k_end → ∀ k, l.length + m.length + 1 < k + p → words (l ++ 10 :: m) k p = A ++ [t])
  | 0, p, h1, h2 => by omega
  | n + 1, p, h1, h2 => by
    have hL : (l ++ 10 :: m).length = l.length + m.length + 1 := by simp; omega
    obtain ⟨h4, h5, _⟩ := read_adv l h1
    obtain ⟨r1, r2⟩ := read_nl (m := m) h1
    rw [words_succ]
    by_cases hk : (readT l p).1.kind = k_end
    · rw [if_pos (.inr hk)]
      refine ⟨[], _, rfl, by simp, fun _ k hk2 => ?_, fun h => absurd hk h⟩
      obtain ⟨k, rfl⟩ : ∃ k', k = k' + 1 := ⟨k - 1, by omega⟩
      rw [List.nil_append, words_succ, words_succ, r2 hk]
      split
      · rfl
      · rename_i hne
        obtain ⟨h6, h7, _⟩ := read_adv (l ++ 10 :: m) (p := l.length + 1) (by rw [hL]; omega)
        have h8 := h7.resolve_left fun e => hne (.inr e)
        rw [words_fuel (l ++ 10 :: m) k m.length _ h6 (by rw [hL]; omega) (by rw [hL]; omega)]
    · have r3 := r1 hk
      by_cases he : (readT l p).1.err ≠ 0
      · rw [if_pos (.inl he)]
        refine ⟨[], _, rfl, by simp, fun h => absurd h hk, fun _ k hk2 => ?_⟩
        obtain ⟨k, rfl⟩ : ∃ k', k = k' + 1 := ⟨k - 1, by omega⟩
        rw [List.nil_append, words_succ, r3, if_pos (.inl he)]
      · rw [if_neg (fun e => e.elim he hk)]
        have h6 : p < (readT l p).2 := h5.resolve_left hk
        obtain ⟨A, t, e1, e2, e3, e4⟩ := words_nl (m := m) n _ h4 (by omega)
        refine ⟨(readT l p).1 :: A, t, by rw [e1]; rfl, ?_, fun ht k hk2 => ?_, fun ht k hk2 => ?_⟩
        · intro a ha
          rcases List.mem_cons.1 ha with rfl | ha
          · exact ⟨Classical.not_not.1 he, hk⟩
          · exact e2 a ha
        · obtain ⟨k, rfl⟩ : ∃ k', k = k' + 1 := ⟨k - 1, by omega⟩
          rw [words_succ, r3, if_neg (fun e => e.elim he hk), e3 ht k (by omega)]; rfl
        · obtain ⟨k, rfl⟩ : ∃ k', k = k' + 1 := ⟨k - 1, by omega⟩
          rw [words_succ, r3, if_neg (fun e => e.elim he hk), e4 ht k (by omega)]; rfl
end Go.Tx
namespace Go.Tx
def KC : List Bs := [s_rb, s_semi, s_rp, k_number, s_lb, s_comma, s_lp, s_asg, k_name, k_fn]
def Sy.w : Sy → Nat
  | .lp _ _ => 0
  | .cl _ => 0
  | .el _ => 0
  | .e2 _ => 2
  | _ => 1
def wt : List Sy → Nat
  | [] => 0
  | s :: S => s.w + wt S
def Sy.bd : Sy → Nat
  | .t _ d => 40 * d + 30
  | .un d => 40 * d + 21
  | .mn d => 40 * d + 21
  | .lp _ d => 40 * d + 20
  | .cl d => 40 * d + 20
  | .a0 d => 40 * d + 20
  | .a1 d => 40 * d + 20
  | .p0 => 20
  | .p1 => 20
  | .ss d => 40 * d + 5
  | .el d => 40 * d + 5
  | .e2 d => 40 * d + 7
def Sy.ok : Sy → Prop
  | .t k d => k ∈ KC ∧ d ≤ 41
  | .un d => d ≤ 40
  | .mn d => d ≤ 40
  | .lp _ d => d ≤ 40
  | .cl d => d ≤ 40
  | .a0 d => d ≤ 40
  | .a1 d => d ≤ 40
  | .p0 => True
  | .p1 => True
  | .ss d => d ≤ 41
  | .el d => d ≤ 40
  | .e2 d => d ≤ 40
def Sy.isT : Sy → Bool
  | .t _ _ => true
  | _ => false
def Sy.bad : Sy → Bool
  | .t k _ => k == s_lp || k == s_asg || k == k_name || k == k_fn
  | _ => false
def nb : List Sy → Prop
  | [] => True
  | s :: _ => s.bad = false
def Inv : List Sy → Prop
  | [] => True
  | s :: S => s.ok ∧ (s.isT = false → nb S) ∧ s.w + wt S ≤ s.bd ∧ Inv S
theorem inv_lops {d : Nat} (hd : d ≤ 40) : ∀ (n : Nat) {S : List Sy}, Inv S → nb S → wt S ≤ 40 * d + 20 → Inv (lopsN d n ++ S) ∧ nb (lopsN d n ++ S) ∧ wt (lopsN d n ++ S) = wt S
  | 0, S, h, hn, hw => ⟨h, hn, rfl⟩
  | n + 1, S, h, hn, hw => by
    have h1 : Inv (.lp (7 - n) d :: S) := ⟨hd, fun _ => hn, by simp only [Sy.w, Sy.bd]; omega, h⟩
    have h2 : wt (.lp (7 - n) d :: S) = wt S := by simp [wt, Sy.w]
    obtain ⟨a, b, c⟩ := inv_lops hd n h1 (by rfl) (by omega)
    rw [show lopsN d (n + 1) ++ S = lopsN d n ++ (.lp (7 - n) d :: S) by simp [lopsN]]
    exact ⟨a, b, by omega⟩
theorem inv_ex {lv d : Nat} (hd : d ≤ 40) {S : List Sy} (h : Inv S) (hn : nb S) (hw : wt S ≤ 40 * d + 20) : Inv (exL lv d ++ S) ∧ nb (exL lv d ++ S) ∧ wt (exL lv d ++ S) = wt S + 1 := by
  obtain ⟨a, b, c⟩ := inv_lops hd (8 - lv) h hn hw
  show Inv (.un d :: (lopsN d (8 - lv) ++ S)) ∧ nb (.un d :: (lopsN d (8 - lv) ++ S)) ∧ wt (.un d :: (lopsN d (8 - lv) ++ S)) = _
  refine ⟨⟨hd, fun _ => b, by simp only [Sy.w, Sy.bd]; omega, a⟩, rfl, ?_⟩
  show 1 + wt (lopsN d (8 - lv) ++ S) = _
  omega
theorem inv_t {k : Bs} {d : Nat} {S : List Sy} (h : Inv S) (hk : k ∈ KC) (hd : d ≤ 41) (hw : wt S + 1 ≤ 40 * d + 30) : Inv (.t k d :: S) :=
  ⟨⟨hk, hd⟩, fun h => by simp [Sy.isT] at h, by simp only [Sy.w, Sy.bd]; omega, h⟩
theorem wt_t {k : Bs} {d : Nat} {S : List Sy} : wt (.t k d :: S) = wt S + 1 := by simp only [wt, Sy.w]; omega
theorem inv_kid {d n : Nat} (hd : d ≤ 40) : ∀ (m : Nat) {S : List Sy}, Inv S → nb S → wt S + 2 * m + 1 ≤ 40 * d + 20 → Inv (kidS d n m ++ S) ∧ nb (kidS d n m ++ S) ∧ wt (kidS d n m ++ S) ≤ wt S + 2 * m + 1
  | 0, S, h, hn, hw => by
    show Inv (.t s_rp d :: S) ∧ nb (.t s_rp d :: S) ∧ wt (.t s_rp d :: S) ≤ _
    refine ⟨inv_t h (by decide) (by omega) (by omega), rfl, ?_⟩
    rw [wt_t]; omega
  | m + 1, S, h, hn, hw => by
    obtain ⟨a, b, c⟩ := inv_kid hd m (n := n) h hn (by omega)
    obtain ⟨a2, b2, c2⟩ := inv_ex (lv := 0) hd a b (by omega)
    have e : kidS d n (m + 1) ++ S = (if m + 1 < n then [.t s_comma d] else []) ++ (exL 0 d ++ (kidS d n m ++ S)) := by
      rw [kidS, List.append_assoc, List.append_assoc]
    rw [e]
    split
    · show Inv (.t s_comma d :: (exL 0 d ++ (kidS d n m ++ S))) ∧ nb (.t s_comma d :: (exL 0 d ++ (kidS d n m ++ S))) ∧ wt (.t s_comma d :: (exL 0 d ++ (kidS d n m ++ S))) ≤ _
      exact ⟨inv_t a2 (by decide) (by omega) (by omega), rfl, by rw [wt_t]; omega⟩
    · exact ⟨a2, b2, by show wt (exL 0 d ++ (kidS d n m ++ S)) ≤ _; omega⟩
theorem inv_form {k : Bs} {d : Nat} (hd : d ≤ 40) {S : List Sy} (h : Inv S) (hn : nb S) (hw : wt S + 11 ≤ 40 * d + 20) : Inv (formS k d ++ S) ∧ wt (formS k d ++ S) ≤ wt S + 11 := by
  unfold formS
  obtain ⟨a, b, c⟩ := inv_kid hd 3 (n := 3) h hn (by omega)
  obtain ⟨a2, b2, c2⟩ := inv_kid hd 2 (n := 2) h hn (by omega)
  split
  · simp only [List.cons_append]
    have i1 := inv_t (k := s_comma) (d := d) a (by decide) (by omega) (by omega)
    have i2 := inv_t (k := k_name) (d := d) i1 (by decide) (by omega) (by rw [wt_t]; omega)
    have i3 := inv_t (k := s_comma) (d := d) i2 (by decide) (by omega) (by simp only [wt_t]; omega)
    have i4 := inv_t (k := k_name) (d := d) i3 (by decide) (by omega) (by simp only [wt_t]; omega)
    exact ⟨i4, by simp only [wt_t]; omega⟩
  · split
    · simp only [List.cons_append]
      have i1 := inv_t (k := s_comma) (d := d) a2 (by decide) (by omega) (by omega)
      have i2 := inv_t (k := k_name) (d := d) i1 (by decide) (by omega) (by rw [wt_t]; omega)
      exact ⟨i2, by simp only [wt_t]; omega⟩
    · exact ⟨a2, by omega⟩
theorem deepA_eat {d : Nat} {q p : List Sy} (h : deepA d q = .eat p) : d ≤ 40 ∧ p = q := by
  unfold deepA at h
  split at h
  · simp at h
  · simp only [Act.eat.injEq] at h; exact ⟨by omega, h.symm⟩
theorem inv_un {d : Nat} {k : Bs} {p S : List Sy} (hd : d ≤ 40) (ha : actU d k = .eat p) (h : Inv S) (hn : nb S) (hw : wt S ≤ 40 * d + 20) : Inv (p ++ S) := by
  unfold actU at ha
  split at ha
  · obtain ⟨h1, rfl⟩ := deepA_eat ha
    show Inv (.mn (d + 1) :: S)
    exact ⟨h1, fun _ => hn, by simp only [Sy.w, Sy.bd]; omega, h⟩
  split at ha
  · obtain ⟨h1, rfl⟩ := deepA_eat ha
    show Inv (.un (d + 1) :: S)
    exact ⟨h1, fun _ => hn, by simp only [Sy.w, Sy.bd]; omega, h⟩
  split at ha
  · simp only [Act.eat.injEq] at ha; subst ha; exact h
  split at ha
  · simp only [Act.eat.injEq] at ha; subst ha
    show Inv (.cl d :: S)
    exact ⟨hd, fun _ => hn, by simp only [Sy.w, Sy.bd]; omega, h⟩
  split at ha
  · obtain ⟨h1, rfl⟩ := deepA_eat ha
    have i1 := inv_t (k := s_rp) (d := d) h (by decide) (by omega) (by omega)
    rw [List.append_assoc]
    exact (inv_ex h1 i1 (by rfl) (by rw [wt_t]; omega)).1
  split at ha
  · obtain ⟨h1, rfl⟩ := deepA_eat ha
    obtain ⟨i1, i2⟩ := inv_form (k := k) h1 h hn (by omega)
    show Inv (.t s_lp (d + 1) :: (formS k (d + 1) ++ S))
    exact inv_t i1 (by decide) (by omega) (by omega)
  · simp at ha
theorem inv_cho {d : Nat} {S : List Sy} (hd : d ≤ 40) (h : Inv S) (hn : nb S) (hw : wt S ≤ 40 * d + 5) : Inv (choS d ++ S) := by
  have i1 : Inv (.el d :: S) := ⟨hd, fun _ => hn, by simp only [Sy.w, Sy.bd]; omega, h⟩
  have w1 : wt (.el d :: S) = wt S := by simp [wt, Sy.w]
  have i2 : Inv (.ss (d + 1) :: .el d :: S) := ⟨by simp only [Sy.ok]; omega, fun _ => by rfl, by simp only [Sy.w, Sy.bd]; omega, i1⟩
  have w2 : wt (.ss (d + 1) :: .el d :: S) = wt S + 1 := by simp only [wt, Sy.w]; omega
  have i3 := inv_t (k := s_lb) (d := d + 1) i2 (by decide) (by omega) (by omega)
  have := (inv_ex (lv := 0) hd i3 (by rfl) (by rw [wt_t]; omega)).1
  simpa [choS, blk] using this
theorem inv_act {s : Sy} {k : Bs} {p S : List Sy} (ha : act s k = .eat p) (h : Inv (s :: S)) : Inv (p ++ S) := by
  obtain ⟨h1, h2, h3, h4⟩ := h
  cases s with
  | t k' d =>
    simp only [act] at ha
    split at ha
    · simp only [Act.eat.injEq] at ha; subst ha; exact h4
    · simp at ha
  | un d => exact inv_un h1 ha h4 (h2 rfl) (by simp only [Sy.w, Sy.bd] at h3; omega)
  | mn d =>
    simp only [act] at ha
    split at ha
    · simp only [Act.eat.injEq] at ha; subst ha; exact h4
    · exact inv_un h1 ha h4 (h2 rfl) (by simp only [Sy.w, Sy.bd] at h3; omega)
  | lp lv d =>
    simp only [act] at ha
    split at ha
    · simp only [Act.eat.injEq] at ha; subst ha
      have i1 : Inv (.lp lv d :: S) := ⟨h1, h2, h3, h4⟩
      have w1 : wt (.lp lv d :: S) = wt S := by simp [wt, Sy.w]
      rw [List.append_assoc]
      exact (inv_ex h1 i1 (by rfl) (by simp only [Sy.w, Sy.bd] at h3; show wt (.lp lv d :: S) ≤ _; omega)).1
    · simp at ha
  | cl d =>
    simp only [act] at ha
    split at ha
    · obtain ⟨h5, rfl⟩ := deepA_eat ha
      show Inv (.a0 (d + 1) :: S)
      exact ⟨h5, fun _ => h2 rfl, by simp only [Sy.w, Sy.bd] at h3 ⊢; omega, h4⟩
    · simp at ha
  | a0 d =>
    simp only [act] at ha
    split at ha
    · simp only [Act.eat.injEq] at ha; subst ha; exact h4
    · cases hu : actU d k with
      | eat q =>
        rw [hu] at ha
        simp only [Act.more, Act.eat.injEq] at ha; subst ha
        have i1 : Inv (.a1 d :: S) := ⟨h1, h2, h3, h4⟩
        have w1 : wt (.a1 d :: S) ≤ 40 * d + 20 := h3
        obtain ⟨a, b, c⟩ := inv_lops h1 8 i1 (by rfl) w1
        rw [List.append_assoc, List.append_assoc]
        exact inv_un h1 hu a b (by show wt (lopsN d 8 ++ (.a1 d :: S)) ≤ _; omega)
      | pop => exact absurd hu (actU_np d k)
      | err e => rw [hu] at ha; simp [Act.more] at ha
  | a1 d =>
    simp only [act] at ha
    split at ha
    · simp only [Act.eat.injEq] at ha; subst ha; exact h4
    · split at ha
      · simp only [Act.eat.injEq] at ha; subst ha
        have i1 : Inv (.a1 d :: S) := ⟨h1, h2, h3, h4⟩
        rw [List.append_assoc]
        exact (inv_ex h1 i1 (by rfl) h3).1
      · simp at ha
  | p0 =>
    simp only [act] at ha
    split at ha
    · simp only [Act.eat.injEq] at ha; subst ha; exact h4
    · split at ha
      · simp only [Act.eat.injEq] at ha; subst ha
        show Inv (.p1 :: S)
        exact ⟨trivial, h2, h3, h4⟩
      · simp at ha
  | p1 =>
    simp only [act] at ha
    split at ha
    · simp only [Act.eat.injEq] at ha; subst ha; exact h4
    · split at ha
      · simp only [Act.eat.injEq] at ha; subst ha
        have i1 : Inv (.p1 :: S) := ⟨trivial, h2, h3, h4⟩
        simp only [Sy.w, Sy.bd] at h3
        show Inv (.t k_name 0 :: .p1 :: S)
        exact inv_t i1 (by decide) (by omega) (by simp only [wt, Sy.w]; omega)
      · simp at ha
  | ss d =>
    simp only [Sy.w, Sy.bd] at h3
    have h1' : d ≤ 41 := h1
    simp only [act] at ha
    split at ha
    · simp only [Act.eat.injEq] at ha; subst ha; exact h4
    · split at ha
      · have hss : d ≤ 40 → Inv (.ss d :: S) := fun _ => ⟨h1, h2, by simp only [Sy.w, Sy.bd]; omega, h4⟩
        have wss : wt (.ss d :: S) = wt S + 1 := by simp only [wt, Sy.w]; omega
        split at ha
        · obtain ⟨h5, rfl⟩ := deepA_eat ha
          rw [List.append_assoc]
          exact inv_cho h5 (hss h5) (by rfl) (by show wt (.ss d :: S) ≤ _; omega)
        · split at ha
          · obtain ⟨h5, rfl⟩ := deepA_eat ha
            have i2 : Inv (.ss (d + 1) :: .ss d :: S) := ⟨by simp only [Sy.ok]; omega, fun _ => by rfl, by simp only [Sy.w, Sy.bd]; omega, hss h5⟩
            have w2 : wt (.ss (d + 1) :: .ss d :: S) = wt S + 2 := by simp only [wt, Sy.w]; omega
            have i3 := inv_t (k := s_lb) (d := d + 1) i2 (by decide) (by omega) (by omega)
            have := (inv_ex (lv := 0) h5 i3 (by rfl) (by rw [wt_t]; omega)).1
            simpa [blk] using this
          · obtain ⟨h5, rfl⟩ := deepA_eat ha
            have i2 := inv_t (k := s_semi) (d := d) (hss h5) (by decide) (by omega) (by omega)
            have w2 : wt (.t s_semi d :: .ss d :: S) = wt S + 2 := by rw [wt_t]; omega
            have hex := inv_ex (lv := 0) h5 i2 (by rfl) (by omega)
            rw [List.append_assoc]
            show Inv (plainS d k ++ (.t s_semi d :: .ss d :: S))
            unfold plainS
            split
            · exact i2
            split
            · exact i2
            split
            · exact i2
            split
            · exact hex.1
            split
            · exact hex.1
            split
            · have j1 : Inv (.a0 d :: .t s_semi d :: .ss d :: S) := ⟨h5, fun _ => by rfl, by simp only [Sy.w, Sy.bd]; omega, i2⟩
              have v1 : wt (.a0 d :: .t s_semi d :: .ss d :: S) = wt S + 3 := by simp only [wt, Sy.w]; omega
              have j2 := inv_t (k := s_lp) (d := d) j1 (by decide) (by omega) (by omega)
              have j3 := inv_t (k := k_name) (d := d) j2 (by decide) (by omega) (by simp only [wt_t]; omega)
              have j4 := inv_t (k := s_asg) (d := d) j3 (by decide) (by omega) (by simp only [wt_t]; omega)
              show Inv (.t k_name d :: .t s_asg d :: .t k_name d :: .t s_lp d :: .a0 d :: .t s_semi d :: .ss d :: S)
              exact inv_t (k := k_name) (d := d) j4 (by decide) (by omega) (by simp only [wt_t]; omega)
            split
            · have j1 := inv_t (k := s_asg) (d := d) hex.1 (by decide) (by omega) (by omega)
              show Inv (.t k_name d :: .t s_asg d :: (exL 0 d ++ (.t s_semi d :: .ss d :: S)))
              exact inv_t (k := k_name) (d := d) j1 (by decide) (by omega) (by rw [wt_t]; omega)
            · show Inv (.t s_asg d :: (exL 0 d ++ (.t s_semi d :: .ss d :: S)))
              exact inv_t (k := s_asg) (d := d) hex.1 (by decide) (by omega) (by omega)
      · simp at ha
  | el d =>
    simp only [act] at ha
    split at ha
    · simp only [Act.eat.injEq] at ha; subst ha
      show Inv (.e2 d :: S)
      exact ⟨h1, h2, by simp only [Sy.w, Sy.bd] at h3 ⊢; omega, h4⟩
    · simp at ha
  | e2 d =>
    simp only [Sy.w, Sy.bd] at h3
    simp only [act] at ha
    split at ha
    · obtain ⟨h5, rfl⟩ := deepA_eat ha
      exact inv_cho h5 h4 (h2 rfl) (by omega)
    · split at ha
      · simp only [Act.eat.injEq] at ha; subst ha
        have h1' : d ≤ 40 := h1
        show Inv (.ss (d + 1) :: S)
        exact ⟨by simp only [Sy.ok]; omega, fun _ => h2 rfl, by simp only [Sy.w, Sy.bd]; omega, h4⟩
      · simp at ha
theorem inv_S0 : Inv S0 := by
  have i0 : Inv [Sy.ss 1] := ⟨by simp only [Sy.ok]; omega, fun _ => trivial, by decide, trivial⟩
  have i1 := inv_t (k := s_lb) (d := 1) i0 (by decide) (by omega) (by decide)
  have i2 : Inv (.p0 :: .t s_lb 1 :: [Sy.ss 1]) := ⟨trivial, fun _ => by rfl, by decide, i1⟩
  have i3 := inv_t (k := s_lp) (d := 0) i2 (by decide) (by omega) (by decide)
  have i4 := inv_t (k := k_name) (d := 0) i3 (by decide) (by omega) (by decide)
  exact inv_t (k := k_fn) (d := 0) i4 (by decide) (by omega) (by decide)
theorem inv_go {k : Bs} : ∀ {S S' : List Sy}, Inv S → go S k = .eat S' → Inv S'
  | [], S', _, h => by
    rw [go] at h
    split at h
    · simp at h
    · split at h
      · simp only [Go1.eat.injEq] at h; subst h; exact inv_S0.2.2.2
      · simp at h
  | s :: S, S', hi, h => by
    rw [go] at h
    cases ha : act s k with
    | eat p =>
      rw [ha] at h
      simp only [Go1.eat.injEq] at h; subst h
      exact inv_act ha hi
    | pop => rw [ha] at h; exact inv_go hi.2.2.2 h
    | err e => rw [ha] at h; simp at h
theorem inv_wt {S : List Sy} (h : Inv S) : wt S ≤ 1670 := by
  cases S with
  | nil => simp [wt]
  | cons s S =>
    obtain ⟨h1, _, h3, _⟩ := h
    show s.w + wt S ≤ 1670
    cases s <;> simp only [Sy.ok, Sy.bd] at h1 h3 <;> omega
end Go.Tx
namespace Go.Tx
def kc (j : Nat) : Bs := KC.getD j []
def CL : List Bs := [[125], [59], [41], [49], [123], [44], [40], [61], [120], [102, 110]]
def clo (j : Nat) : Bs := CL.getD j []
def Sy.null : Sy → Bool
  | .lp _ _ => true
  | .cl _ => true
  | .el _ => true
  | _ => false
def ok6 : List Sy → Prop
  | [] => True
  | s :: S => if s.null = true then ok6 S else s.bad = false
theorem inv_ok6 : ∀ {S : List Sy}, Inv S → nb S → ok6 S
  | [], _, _ => trivial
  | s :: S, h, hn => by
    unfold ok6
    split
    · rename_i h1
      exact inv_ok6 h.2.2.2 (h.2.1 (by cases s <;> first | rfl | (simp [Sy.null] at h1)))
    · exact hn
theorem wt_app : ∀ (p S : List Sy), wt (p ++ S) = wt p + wt S
  | [], S => by simp [wt]
  | s :: p, S => by simp only [List.cons_append, wt, wt_app p S]; omega
def Clo (S : List Sy) : Prop := ∃ i, i < 10 ∧ (ok6 S → i < 6) ∧ (∀ j, j < i → ∃ e, go S (kc j) = .err e) ∧ ∃ S', go S (kc i) = .eat S' ∧ wt S' + 1 ≤ wt S
theorem clo_of {s : Sy} {S p : List Sy} (i : Nat) (hi : i < 10) (h6 : ok6 (s :: S) → i < 6) (hj : ∀ j, j < i → ∃ e, act s (kc j) = .err e) (ha : act s (kc i) = .eat p) (hw : wt p + 1 ≤ s.w) : Clo (s :: S) := by
  refine ⟨i, hi, h6, fun j h => ?_, p ++ S, go_eat ha, ?_⟩
  · obtain ⟨e, he⟩ := hj j h
    exact ⟨e, by rw [go, he]⟩
  · rw [wt_app]
    show wt p + wt S + 1 ≤ s.w + wt S
    omega
theorem kc_of {k : Bs} (h : k ∈ KC) : ∃ i, i < 10 ∧ kc i = k ∧ (∀ j, j < i → kc j ≠ k) ∧ ((k == s_lp || k == s_asg || k == k_name || k == k_fn) = false → i < 6) := by
  simp only [KC, List.mem_cons, List.not_mem_nil, or_false] at h
  rcases h with rfl | rfl | rfl | rfl | rfl | rfl | rfl | rfl | rfl | rfl
  · exact ⟨0, by decide, rfl, by decide, by decide⟩
  · exact ⟨1, by decide, rfl, by decide, by decide⟩
  · exact ⟨2, by decide, rfl, by decide, by decide⟩
  · exact ⟨3, by decide, rfl, by decide, by decide⟩
  · exact ⟨4, by decide, rfl, by decide, by decide⟩
  · exact ⟨5, by decide, rfl, by decide, by decide⟩
  · exact ⟨6, by decide, rfl, by decide, by decide⟩
  · exact ⟨7, by decide, rfl, by decide, by decide⟩
  · exact ⟨8, by decide, rfl, by decide, by decide⟩
  · exact ⟨9, by decide, rfl, by decide, by decide⟩
theorem no_stand (lv : Nat) : ∀ j, j < 10 → standsB lv (kc j) = false := by
  intro j hj
  have h : ∀ l ∈ levels, ∀ j, j < 10 → l.contains (kc j) = false := by decide
  unfold standsB
  cases hl : levels[lv]? with
  | none => rfl
  | some l => exact h l (List.mem_of_getElem? hl) j hj
theorem null_pop {s : Sy} (h : s.null = true) : act s k_end = .pop ∧ ∀ j, j < 6 → act s (kc j) = .pop := by
  cases s with
  | lp lv d =>
    refine ⟨?_, fun j hj => ?_⟩
    · simp only [act]
      rw [if_neg]
      intro e
      exact stands_ne e rfl
    · simp only [act]
      rw [no_stand lv j (by omega)]; rfl
  | cl d =>
    refine ⟨rfl, fun j hj => ?_⟩
    have : ∀ j, j < 6 → kc j ≠ s_lp := by decide
    simp only [act]; rw [if_neg (this j hj)]
  | el d =>
    refine ⟨rfl, fun j hj => ?_⟩
    have : ∀ j, j < 6 → kc j ≠ k_else := by decide
    simp only [act]; rw [if_neg (this j hj)]
  | _ => simp [Sy.null] at h
theorem act_three {s : Sy} {d : Nat} (h : ∀ k, k ≠ k_number → act s k = actU d k) : ∀ j, j < 3 → ∃ e, act s (kc j) = .err e := by
  intro j hj
  have h1 : ∀ j, j < 3 → kc j ≠ k_number := by decide
  refine ⟨141, ?_⟩
  rw [h _ (h1 j hj)]
  match j, hj with
  | 0, _ => rfl
  | 1, _ => rfl
  | 2, _ => rfl
theorem greedy : ∀ {S : List Sy}, Inv S → ∀ e, go S k_end = .err e → Clo S
  | [], _, e, h => by
    rw [go, if_pos rfl] at h; simp at h
  | s :: S, hi, e, h => by
    by_cases hn : s.null = true
    · obtain ⟨p1, p2⟩ := null_pop hn
      rw [go, p1] at h
      obtain ⟨i, h1, h2, h3, S', h4, h5⟩ := greedy hi.2.2.2 e h
      have hT : s.isT = false := by cases s <;> first | rfl | (simp [Sy.null] at hn)
      have h6 := h2 (inv_ok6 hi.2.2.2 (hi.2.1 hT))
      have hg : ∀ j, j < 6 → go (s :: S) (kc j) = go S (kc j) := fun j hj => by rw [go, p2 j hj]
      refine ⟨i, h1, fun _ => h6, fun j hj => ?_, S', ?_, ?_⟩
      · rw [hg j (by omega)]; exact h3 j hj
      · rw [hg i h6]; exact h4
      · show wt S' + 1 ≤ s.w + wt S
        omega
    · have hb : ok6 (s :: S) → s.bad = false := fun h => by unfold ok6 at h; rw [if_neg hn] at h; exact h
      cases s with
      | t k d =>
        obtain ⟨i, h1, h2, h3, h4⟩ := kc_of hi.1.1
        refine clo_of (p := []) i h1 (fun h => h4 (hb h)) (fun j hj => ⟨141, ?_⟩) ?_ (Nat.le_of_eq rfl)
        · simp only [act]; rw [if_neg (h3 j hj)]
        · simp only [act]; rw [if_pos h2]
      | un d => exact clo_of (p := []) 3 (by decide) (fun _ => by decide) (act_three fun k _ => rfl) rfl (Nat.le_of_eq rfl)
      | mn d => exact clo_of (p := []) 3 (by decide) (fun _ => by decide) (act_three (d := d) fun k hk => by simp only [act]; rw [if_neg hk]) rfl (Nat.le_of_eq rfl)
      | lp lv d => exact absurd rfl hn
      | cl d => exact absurd rfl hn
      | el d => exact absurd rfl hn
      | a0 d => exact clo_of (p := []) 2 (by decide) (fun _ => by decide) (fun j hj => ⟨141, by match j, hj with | 0, _ => rfl | 1, _ => rfl⟩) rfl (Nat.le_of_eq rfl)
      | a1 d => exact clo_of (p := []) 2 (by decide) (fun _ => by decide) (fun j hj => ⟨141, by match j, hj with | 0, _ => rfl | 1, _ => rfl⟩) rfl (Nat.le_of_eq rfl)
      | p0 => exact clo_of (p := []) 2 (by decide) (fun _ => by decide) (fun j hj => ⟨141, by match j, hj with | 0, _ => rfl | 1, _ => rfl⟩) rfl (Nat.le_of_eq rfl)
      | p1 => exact clo_of (p := []) 2 (by decide) (fun _ => by decide) (fun j hj => ⟨141, by match j, hj with | 0, _ => rfl | 1, _ => rfl⟩) rfl (Nat.le_of_eq rfl)
      | ss d => exact clo_of (p := []) 0 (by decide) (fun _ => by decide) (fun j hj => absurd hj (by omega)) rfl (Nat.le_of_eq rfl)
      | e2 d => exact clo_of (p := [.ss (d + 1)]) 4 (by decide) (fun _ => by decide) (fun j hj => ⟨141, by match j, hj with | 0, _ => rfl | 1, _ => rfl | 2, _ => rfl | 3, _ => rfl⟩) rfl (Nat.le_of_eq rfl)
theorem read_clo {l : Bs} {p : Nat} (j : Nat) (hj : j < 10) (h : l.drop p = clo j) : ∃ t, readT l p = (t, p + (clo j).length) ∧ t.kind = kc j ∧ t.err = 0 ∧ t.at_ = p ∧ t.n ≠ -9223372036854775808 := by
  unfold readT
  match j, hj with
  | 0, _ => rw [show skp false (l.drop p) p = p by rw [h]; rfl, h]; exact ⟨_, rfl, rfl, rfl, rfl, fun e => absurd (show (0 : Int) = -9223372036854775808 from e) (by decide)⟩
  | 1, _ => rw [show skp false (l.drop p) p = p by rw [h]; rfl, h]; exact ⟨_, rfl, rfl, rfl, rfl, fun e => absurd (show (0 : Int) = -9223372036854775808 from e) (by decide)⟩
  | 2, _ => rw [show skp false (l.drop p) p = p by rw [h]; rfl, h]; exact ⟨_, rfl, rfl, rfl, rfl, fun e => absurd (show (0 : Int) = -9223372036854775808 from e) (by decide)⟩
  | 3, _ => rw [show skp false (l.drop p) p = p by rw [h]; rfl, h]; exact ⟨_, rfl, rfl, rfl, rfl, fun e => absurd (show (-1 : Int) = -9223372036854775808 from e) (by decide)⟩
  | 4, _ => rw [show skp false (l.drop p) p = p by rw [h]; rfl, h]; exact ⟨_, rfl, rfl, rfl, rfl, fun e => absurd (show (0 : Int) = -9223372036854775808 from e) (by decide)⟩
  | 5, _ => rw [show skp false (l.drop p) p = p by rw [h]; rfl, h]; exact ⟨_, rfl, rfl, rfl, rfl, fun e => absurd (show (0 : Int) = -9223372036854775808 from e) (by decide)⟩
  | 6, _ => rw [show skp false (l.drop p) p = p by rw [h]; rfl, h]; exact ⟨_, rfl, rfl, rfl, rfl, fun e => absurd (show (0 : Int) = -9223372036854775808 from e) (by decide)⟩
  | 7, _ => rw [show skp false (l.drop p) p = p by rw [h]; rfl, h]; exact ⟨_, rfl, rfl, rfl, rfl, fun e => absurd (show (0 : Int) = -9223372036854775808 from e) (by decide)⟩
  | 8, _ => rw [show skp false (l.drop p) p = p by rw [h]; rfl, h]; exact ⟨_, rfl, rfl, rfl, rfl, fun e => absurd (show (0 : Int) = -9223372036854775808 from e) (by decide)⟩
  | 9, _ => rw [show skp false (l.drop p) p = p by rw [h]; rfl, h]; exact ⟨_, rfl, rfl, rfl, rfl, fun e => absurd (show (0 : Int) = -9223372036854775808 from e) (by decide)⟩
def Fine (u : Tk) : Prop := u.err = 0 ∧ ¬ (u.kind = k_number ∧ u.n = -9223372036854775808)
def endT (l : Bs) : Tk := ⟨k_end, [], l.length, 0, 0⟩
theorem end_fine (l : Bs) : Fine (endT l) := ⟨rfl, fun h => absurd (show k_end = k_number from h.1) (by decide)⟩
structure At (l : Bs) (S : List Sy) : Prop where
  inv : Inv S
  own : runT l = run S [endT l]
  more : ∀ m u r, words (l ++ 10 :: m) (m.length + 1) (l.length + 1) = u :: r → Fine u → runT (l ++ 10 :: m) = run S (u :: r)
theorem clo_pos (j : Nat) (hj : j < 10) : 1 ≤ (clo j).length ∧ (clo j).length ≤ 2 := by
  have : ∀ j, j < 10 → 1 ≤ (clo j).length ∧ (clo j).length ≤ 2 := by decide
  exact this j hj
theorem kc_ne (j : Nat) (hj : j < 10) : kc j ≠ k_end := by
  have : ∀ j, j < 10 → kc j ≠ k_end := by decide
  exact this j hj
theorem words_clo {l : Bs} (j : Nat) (hj : j < 10) : ∃ t, Fine t ∧ t.kind = kc j ∧ t.at_ = l.length + 1 ∧ (∀ k, 2 ≤ k → words (l ++ 10 :: clo j) k (l.length + 1) = [t, endT (l ++ 10 :: clo j)]) ∧ ∀ m, words (l ++ 10 :: (clo j ++ 10 :: m)) ((clo j ++ 10 :: m).length + 1) (l.length + 1) = t :: words ((l ++ 10 :: clo j) ++ 10 :: m) (m.length + 1) ((l ++ 10 :: clo j).length + 1) := by
  obtain ⟨c1, c2⟩ := clo_pos j hj
  have hd : (l ++ 10 :: clo j).drop (l.length + 1) = clo j := by rw [← List.drop_drop, List.drop_left]; rfl
  have hL : (l ++ 10 :: clo j).length = l.length + 1 + (clo j).length := by simp; omega
  obtain ⟨t, h1, h2, h3, h4, h5⟩ := read_clo (l := l ++ 10 :: clo j) (p := l.length + 1) j hj hd
  have h6 : readT (l ++ 10 :: clo j) (l.length + 1 + (clo j).length) = (endT (l ++ 10 :: clo j), (l ++ 10 :: clo j).length) := by
    have e : (l ++ 10 :: clo j).drop (l.length + 1 + (clo j).length) = [] := List.drop_eq_nil_of_le (by omega)
    unfold readT
    rw [e, skp, e]; rfl
  have hw : ∀ k, 2 ≤ k → words (l ++ 10 :: clo j) k (l.length + 1) = [t, endT (l ++ 10 :: clo j)] := fun k hk => by
    obtain ⟨k, rfl⟩ : ∃ k', k = k' + 2 := ⟨k - 2, by omega⟩
    rw [words_succ, h1, if_neg (by simp only [h2, h3]; exact fun e => e.elim (fun e => e rfl) (kc_ne j hj)), words_succ, h6, if_pos (.inr rfl)]
  refine ⟨t, ⟨h3, fun e => h5 e.2⟩, h2, h4, hw, fun m => ?_⟩
  obtain ⟨A, u, e1, e2, e3, e4⟩ := words_nl (l := l ++ 10 :: clo j) (m := m) 3 (l.length + 1) (by omega) (by omega)
  rw [hw 3 (by omega)] at e1
  have e5 : A = [t] ∧ u = endT (l ++ 10 :: clo j) := by
    have := congrArg List.reverse e1
    simp at this
    obtain ⟨a, b⟩ := this
    refine ⟨?_, a.symm⟩
    have := congrArg List.reverse b
    simpa using this.symm
  obtain ⟨rfl, rfl⟩ := e5
  have := e3 rfl ((clo j ++ 10 :: m).length + 1) (by simp; omega)
  simp only [List.append_assoc, List.cons_append, List.nil_append] at this ⊢
  exact this
theorem run_end (S : List Sy) (l : Bs) : run S [endT l] = match go S k_end with
    | .fin => .ok () [endT l]
    | .err e => .err e l.length
    | .eat _ => .out := by
  rw [run]
  show (match go S k_end with | .fin => _ | .err e => _ | .eat S' => _) = _
  cases go S k_end <;> rfl
theorem run_two (S : List Sy) (t : Tk) (u : Tk) (r : List Tk) (hu : Fine u) : run S (t :: u :: r) = match go S t.kind with
    | .fin => .ok () (t :: u :: r)
    | .err e => .err e t.at_
    | .eat S' => run S' (u :: r) := by
  rw [run]
  cases go S t.kind with
  | fin => rfl
  | err e => rfl
  | eat S' =>
    simp only
    rw [if_neg (fun e => e hu.1), if_neg (fun e => hu.2 ⟨e.1, e.2.1⟩)]
theorem at_clo {l : Bs} {S : List Sy} (h : At l S) (j : Nat) (hj : j < 10) : (∀ e, go S (kc j) = .err e → runT (l ++ 10 :: clo j) = .err e (l.length + 1)) ∧ ∀ S', go S (kc j) = .eat S' → At (l ++ 10 :: clo j) S' := by
  obtain ⟨c1, c2⟩ := clo_pos j hj
  obtain ⟨t, h1, h2, h3, h4, h5⟩ := words_clo (l := l) j hj
  have hr := h.more (clo j) t _ (h4 _ (by omega)) h1
  rw [run_two S t _ _ (end_fine _), h2, h3] at hr
  refine ⟨fun e he => by rw [hr, he], fun S' he => ⟨inv_go h.inv he, by rw [hr, he], fun m u r hw hu => ?_⟩⟩
  have := h.more (clo j ++ 10 :: m) t _ (h5 m) h1
  rw [hw, run_two S t _ _ hu, h2, he] at this
  rw [List.append_assoc]
  exact this
theorem go_end : ∀ (S : List Sy), Inv S → go S k_end = .fin ∨ go S k_end = .err 141
  | [], _ => .inl (by rw [go, if_pos rfl])
  | s :: S, hi => by
    have hu : ∀ d, actU d k_end = .err 141 := fun d => rfl
    cases s with
    | t k d =>
      have h : k_end ≠ k := by
        rintro rfl
        exact absurd hi.1.1 (by decide)
      refine .inr ?_
      simp only [go, act]; rw [if_neg h]
    | un d => exact .inr rfl
    | mn d => exact .inr rfl
    | lp lv d => rw [go, (null_pop (s := .lp lv d) rfl).1]; exact go_end S hi.2.2.2
    | cl d => rw [go, (null_pop (s := .cl d) rfl).1]; exact go_end S hi.2.2.2
    | el d => rw [go, (null_pop (s := .el d) rfl).1]; exact go_end S hi.2.2.2
    | a0 d => exact .inr rfl
    | a1 d => exact .inr rfl
    | p0 => exact .inr rfl
    | p1 => exact .inr rfl
    | ss d => exact .inr rfl
    | e2 d => exact .inr rfl
end Go.Tx
namespace Go.Tx
theorem read_place {l : Bs} {p : Nat} (hp : p ≤ l.length) : ((readT l p).1.kind ≠ k_end → (readT l p).1.at_ < l.length) ∧ ((readT l p).1.kind = k_end → (readT l p).1 = endT l) := by
  obtain ⟨h1, h2⟩ := skp_range false (l.drop p) p
  rw [List.length_drop] at h2
  by_cases ha : skp false (l.drop p) p < l.length
  · obtain ⟨c, r, hcr⟩ : ∃ c r, l.drop (skp false (l.drop p) p) = c :: r := ⟨_, _, List.drop_eq_getElem_cons ha⟩
    have hat : (readT l p).1.at_ = skp false (l.drop p) p ∧ (readT l p).1.kind ≠ k_end := by
      unfold readT
      rw [hcr]
      simp only
      split
      · unfold named
        split
        · rename_i hkw
          refine ⟨rfl, fun e => ?_⟩
          have e : (c :: r).take (spanN alnum (c :: r)) = k_end := e
          rw [e] at hkw
          exact absurd hkw (by decide)
        · exact ⟨rfl, fun e => absurd (show k_name = k_end from e) (by decide)⟩
      · split
        · unfold number
          split
          · exact ⟨rfl, fun e => absurd (show k_number = k_end from e) (by decide)⟩
          · exact ⟨rfl, fun e => absurd (show k_number = k_end from e) (by decide)⟩
        · split
          · rename_i t ht
            unfold signAt at ht
            have := List.mem_of_find?_eq_some ht
            have h9 : ∀ t ∈ signs, t ≠ k_end := by decide
            exact ⟨rfl, h9 t this⟩
          · exact ⟨rfl, fun e => absurd (show ([] : Bs) = k_end from e) (by decide)⟩
    exact ⟨fun _ => by rw [hat.1]; exact ha, fun e => absurd e hat.2⟩
  · have hd : l.drop (skp false (l.drop p) p) = [] := List.drop_eq_nil_of_le (by omega)
    have : (readT l p).1 = endT l := by unfold readT; rw [hd]; rfl
    exact ⟨fun h => absurd (by rw [this]; rfl) h, fun _ => this⟩
theorem words_place {l : Bs} : ∀ (n p : Nat), p ≤ l.length → ∀ t ∈ words l n p, (t.kind ≠ k_end → t.at_ < l.length) ∧ (t.kind = k_end → t = endT l)
  | 0, p, _, t, ht => by simp [words] at ht
  | n + 1, p, hp, t, ht => by
    obtain ⟨h4, _, _⟩ := read_adv l hp
    rw [words_succ] at ht
    split at ht
    · rw [List.mem_singleton.1 ht]; exact read_place hp
    · rcases List.mem_cons.1 ht with rfl | ht
      · exact read_place hp
      · exact words_place n _ h4 t ht
theorem run_place : ∀ (ts : List Tk) (S : List Sy) (e : Int) (q : Nat), ts ≠ [] → run S ts = .err e q → ∃ a ∈ ts, a.at_ = q
  | [], _, _, _, h, _ => absurd rfl h
  | [t], S, e, q, _, h => by
    rw [run] at h
    cases hg : go S t.kind with
    | fin => rw [hg] at h; simp at h
    | err e' => rw [hg] at h; simp only [Res.err.injEq] at h; exact ⟨t, by simp, h.2⟩
    | eat S' => rw [hg] at h; simp at h
  | t :: u :: r, S, e, q, _, h => by
    rw [run] at h
    cases hg : go S t.kind with
    | fin => rw [hg] at h; simp at h
    | err e' => rw [hg] at h; simp only [Res.err.injEq] at h; exact ⟨t, by simp, h.2⟩
    | eat S' =>
      rw [hg] at h
      simp only at h
      split at h
      · simp only [Res.err.injEq] at h; exact ⟨u, by simp, h.2⟩
      · split at h
        · simp only [Res.err.injEq] at h; exact ⟨u, by simp, h.2⟩
        · obtain ⟨a, ha, hq⟩ := run_place (u :: r) S' e q (by simp) h
          exact ⟨a, List.mem_cons_of_mem _ ha, hq⟩
theorem act_err {s : Sy} {k : Bs} {e : Int} (h : act s k = .err e) : e = 141 ∨ e = 144 := by
  have hd : ∀ {d : Nat} {p : List Sy}, deepA d p = .err e → e = 144 := fun {d p} h => by
    unfold deepA at h
    split at h
    · simp only [Act.err.injEq] at h; exact h.symm
    · simp at h
  have hu : ∀ d, actU d k = .err e → e = 141 ∨ e = 144 := fun d h => by
    unfold actU at h
    split at h
    · exact .inr (hd h)
    split at h
    · exact .inr (hd h)
    split at h
    · simp at h
    split at h
    · simp at h
    split at h
    · exact .inr (hd h)
    split at h
    · exact .inr (hd h)
    · simp only [Act.err.injEq] at h; exact .inl h.symm
  cases s with
  | a0 d =>
    simp only [act] at h
    split at h
    · simp at h
    · cases hx : actU d k with
      | eat p => rw [hx] at h; simp [Act.more] at h
      | pop => rw [hx] at h; simp [Act.more] at h
      | err e' =>
        rw [hx] at h
        simp only [Act.more, Act.err.injEq] at h; subst h
        exact hu d hx
  | un d => exact hu d h
  | mn d =>
    simp only [act] at h
    split at h
    · simp at h
    · exact hu d h
  | ss d =>
    simp only [act] at h
    split at h
    · simp at h
    · split at h
      · split at h
        · exact .inr (hd h)
        · split at h
          · exact .inr (hd h)
          · exact .inr (hd h)
      · simp only [Act.err.injEq] at h; exact .inl h.symm
  | cl d =>
    simp only [act] at h
    split at h
    · exact .inr (hd h)
    · simp at h
  | e2 d =>
    simp only [act] at h
    split at h
    · exact .inr (hd h)
    · split at h
      · simp at h
      · simp only [Act.err.injEq] at h; exact .inl h.symm
  | _ =>
    simp only [act] at h
    repeat' split at h
    all_goals first | (simp only [Act.err.injEq] at h; exact .inl h.symm) | (simp at h)
theorem go_err {k : Bs} {e : Int} : ∀ {S : List Sy}, go S k = .err e → e = 141 ∨ e = 144
  | [], h => by
    rw [go] at h
    split at h
    · simp at h
    · split at h
      · simp at h
      · simp only [Go1.err.injEq] at h; exact .inl h.symm
  | s :: S, h => by
    rw [go] at h
    cases ha : act s k with
    | eat p => rw [ha] at h; simp at h
    | pop => rw [ha] at h; exact go_err (S := S) h
    | err e' =>
      rw [ha] at h
      simp only [Go1.err.injEq] at h; subst h
      exact act_err ha
theorem go_fin {k : Bs} : ∀ {S : List Sy}, go S k = .fin → k = k_end
  | [], h => by
    rw [go] at h
    split at h
    · assumption
    · split at h <;> simp at h
  | s :: S, h => by
    rw [go] at h
    cases ha : act s k with
    | eat p => rw [ha] at h; simp at h
    | pop => rw [ha] at h; exact go_fin (S := S) h
    | err e' => rw [ha] at h; simp at h
theorem run_split : ∀ (A : List Tk) (S : List Sy), Inv S → (∀ a ∈ A, a.err = 0 ∧ a.kind ≠ k_end) →
    (∃ e q, (∃ a ∈ A, a.at_ = q) ∧ ∀ B, run S (A ++ B) = .err e q) ∨ (∃ S', Inv S' ∧ ∀ u B, Fine u → run S (A ++ u :: B) = run S' (u :: B))
  | [], S, hi, _ => .inr ⟨S, hi, fun _ _ _ => rfl⟩
  | t :: A, S, hi, hA => by
    cases hg : go S t.kind with
    | fin => exact absurd (go_fin hg) (hA t (by simp)).2
    | err e =>
      refine .inl ⟨e, t.at_, ⟨t, by simp, rfl⟩, fun B => ?_⟩
      rw [List.cons_append, run, hg]
    | eat S' =>
      have hi' := inv_go hi hg
      cases A with
      | nil =>
        refine .inr ⟨S', hi', fun u B hu => ?_⟩
        rw [List.cons_append, List.nil_append, run_two S t u B hu, hg]
      | cons v A =>
        have hv := hA v (by simp)
        by_cases hl : v.kind = k_number ∧ v.n = -9223372036854775808 ∧ isMn S' = false
        · refine .inl ⟨143, v.at_, ⟨v, by simp, rfl⟩, fun B => ?_⟩
          rw [List.cons_append, List.cons_append, run, hg]
          simp only
          rw [if_neg (fun e => e hv.1), if_pos hl]
        · have hr : ∀ X, run S (t :: v :: X) = run S' (v :: X) := fun X => by
            rw [run, hg]
            simp only
            rw [if_neg (fun e => e hv.1), if_neg hl]
          rcases run_split (v :: A) S' hi' (fun a ha => hA a (List.mem_cons_of_mem _ ha)) with ⟨e, q, ⟨a, ha, hq⟩, h⟩ | ⟨S2, h1, h2⟩
          · exact .inl ⟨e, q, ⟨a, List.mem_cons_of_mem _ ha, hq⟩, fun B => by rw [List.cons_append, List.cons_append, hr]; exact h B⟩
          · exact .inr ⟨S2, h1, fun u B hu => by rw [List.cons_append, List.cons_append, hr]; exact h2 u B hu⟩
theorem first_fine {u : Tk} {r : List Tk} {d : Tk} (h : Fine u) : stepP false (d :: u :: r) = .ok () (u :: r) := by
  simp only [stepP]
  rw [if_neg (fun e => e h.1), if_neg (fun e => h.2 ⟨e.1, e.2.1⟩)]
theorem at_start {l : Bs} {e : Int} (h : runT l = .err e l.length) : ∃ S, At l S := by
  obtain ⟨A, t, e1, e2, e3, _⟩ := words_nl (l := l) (m := []) (l.length + 1) 0 (Nat.zero_le _) (by omega)
  have hpl := words_place (l := l) (l.length + 1) 0 (Nat.zero_le _)
  have hAp : ∀ a ∈ A, a.at_ < l.length := fun a ha => (hpl a (by rw [e1]; simp [ha])).1 (e2 a ha).2
  -- the place of the fault is the end's
  have hend : t = endT l := by
    have htp := hpl t (by rw [e1]; simp)
    refine htp.2 (Classical.byContradiction fun hk => ?_)
    have ht := htp.1 hk
    have hall : ∀ a ∈ words l (l.length + 1) 0, a.at_ < l.length := fun a ha => by
      rw [e1, List.mem_append, List.mem_singleton] at ha
      rcases ha with ha | rfl
      · exact hAp a ha
      · exact ht
    unfold runT start at h
    obtain ⟨u, r, hur⟩ : ∃ u r, words l (l.length + 1) 0 = u :: r := List.exists_cons_of_ne_nil words_ne
    rw [hur] at h hall
    have hu := hall u (by simp)
    simp only [stepP] at h
    split at h
    · simp only [Res.bind, Res.err.injEq] at h; omega
    · split at h
      · simp only [Res.bind, Res.err.injEq] at h; omega
      · obtain ⟨a, ha, hq⟩ := run_place (u :: r) S0 e l.length (by simp) h
        have := hall a ha
        omega
  subst hend
  have hw : ∀ m, words (l ++ 10 :: m) ((l ++ 10 :: m).length + 1) 0 = A ++ words (l ++ 10 :: m) (m.length + 1) (l.length + 1) := fun m => by
    obtain ⟨A2, t2, f1, f2, f3, f4⟩ := words_nl (l := l) (m := m) (l.length + 1) 0 (Nat.zero_le _) (by omega)
    rw [e1] at f1
    obtain ⟨g1, g2⟩ := List.append_inj' f1 rfl
    simp only [List.cons.injEq, and_true] at g2
    subst g1; subst g2
    exact f3 rfl _ (by rw [List.length_append, List.length_cons]; omega)
  cases A with
  | nil =>
    refine ⟨S0, inv_S0, ?_, fun m u r hur hu => ?_⟩
    · unfold runT start
      rw [e1, List.nil_append, first_fine (end_fine l)]; rfl
    · unfold runT start
      rw [hw m, List.nil_append, hur, first_fine hu]; rfl
  | cons a A =>
    have ha := e2 a (by simp)
    have hal := hAp a (by simp)
    have haf : Fine a := by
      refine ⟨ha.1, fun hl => ?_⟩
      unfold runT start at h
      rw [e1, List.cons_append] at h
      simp only [stepP] at h
      rw [if_neg (fun e => e ha.1), if_pos ⟨hl.1, hl.2, trivial⟩] at h
      simp only [Res.bind, Res.err.injEq] at h; omega
    have hr1 : runT l = run S0 (a :: A ++ [endT l]) := by
      unfold runT start
      rw [e1, List.cons_append, first_fine haf]; rfl
    have hr2 : ∀ m, runT (l ++ 10 :: m) = run S0 (a :: A ++ words (l ++ 10 :: m) (m.length + 1) (l.length + 1)) := fun m => by
      unfold runT start
      rw [hw m, List.cons_append, first_fine haf]; rfl
    rcases run_split (a :: A) S0 inv_S0 e2 with ⟨e', q, ⟨b, hb, hq⟩, hB⟩ | ⟨S', h1, h2⟩
    · rw [hr1, hB] at h
      simp only [Res.err.injEq] at h
      have := hAp b hb
      omega
    · refine ⟨S', h1, ?_, fun m u r hur hu => ?_⟩
      · rw [hr1, h2 _ _ (end_fine l)]
      · rw [hr2 m, hur, h2 _ _ hu]
theorem parse_of_run (l : Bs) : (∀ e q, runT l = .err e q → parseP l (fuelOf l) = .err e q) ∧ (∀ ts, runT l = .ok () ts → ∃ a ts, parseP l (fuelOf l) = .ok a ts) ∧ (∀ e q, parseP l (fuelOf l) = .err e q → runT l = .err e q) := by
  have h := parse_run l
  cases hp : parseP l (fuelOf l) with
  | out => have := parse_fin l; rw [hp] at this; exact this.elim
  | err e q =>
    rw [hp] at h
    change Res.err e q = _ at h
    rw [← h]
    exact ⟨fun e' q' x => by simpa using x, fun ts x => by simp at x, fun e' q' x => by simpa using x⟩
  | ok a ts =>
    rw [hp] at h
    change Res.ok () ts = _ at h
    rw [← h]
    exact ⟨fun e' q' x => by simp at x, fun ts' x => ⟨a, ts, rfl⟩, fun e' q' x => by simp at x⟩
theorem at_end {l : Bs} {S : List Sy} (h : At l S) : (∃ a ts, parseP l (fuelOf l) = .ok a ts) ∨ (parseP l (fuelOf l) = .err 141 l.length ∧ go S k_end = .err 141) := by
  have h1 := h.own
  rw [run_end] at h1
  rcases go_end S h.inv with hg | hg
  · rw [hg] at h1; exact .inl ((parse_of_run l).2.1 _ h1)
  · rw [hg] at h1; exact .inr ⟨(parse_of_run l).1 _ _ h1, hg⟩
theorem tail_next {l : Bs} {S : List Sy} (h : At l S) (hg : go S k_end = .err 141) : ∃ i S', i < 10 ∧ (∀ j, j < i → ∃ e, e ≠ 0 ∧ parseP (l ++ 10 :: clo j) (fuelOf (l ++ 10 :: clo j)) = .err e (l.length + 1)) ∧ At (l ++ 10 :: clo i) S' ∧ wt S' + 1 ≤ wt S := by
  obtain ⟨i, h1, _, h3, S', h4, h5⟩ := greedy h.inv _ hg
  refine ⟨i, S', h1, fun j hj => ?_, (at_clo h i h1).2 _ h4, h5⟩
  obtain ⟨e, he⟩ := h3 j hj
  refine ⟨e, ?_, (parse_of_run _).1 _ _ ((at_clo h j (by omega)).1 _ he)⟩
  rcases go_err he with rfl | rfl <;> decide
end Go.Tx
