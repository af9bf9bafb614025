/- own work: TyN, TzO, TyP, TyQ, TzP, TyV, TzQ, TzR, TzS, TyS -/
import Derived.WalkKit
import Derived.LaidEql
import Derived.Stop.Asserts
import Derived.RowKitTokens
import Derived.Shelf.Strconv.Itoa4
import Derived.Test.YtfnjodpehomgfaaGreatDoorMP5
set_option linter.unusedVariables false
set_option linter.unusedSimpArgs false
set_option linter.unusedSectionVars false
namespace Go.Proofs.YtfnjodpehomgfaaGreatDoor
open Go Go.Sh Go.Tx
attribute [local irreducible] Blk Ext RdS
structure FM where
  name : Bs
  P : Option Addr
  cp : Nat
  params : List Bs
  B : Option Addr
  cb : Nat
  body : List SM
def FM.e (f : FM) : Fnc := ⟨f.name, f.params, SM.es f.body⟩
def FM.enc (f : FM) : List Value := [.string (bs f.name), .slice f.P f.params.length f.cp, .slice f.B f.body.length f.cb]
def FM.v (f : FM) : Value := .agg f.enc.toArray
def FM.fp (f : FM) (k : Nat) : Prop := obk f.P = some k ∨ obk f.B = some k ∨ SM.fps f.body k
def FM.Ok (w : World) (f : FM) : Prop := Que strE 1 9 w 0 f.P f.cp f.params ∧ Que SM.enc 10 76 w 0 f.B f.cb f.body ∧ SM.Oks w f.body ∧ f.params.length ≤ 2000000 ∧ f.body.length ≤ 2000000
def FM.Sep (f : FM) : Prop := SM.Seps f.body ∧ (∀ k, ¬ (obk f.P = some k ∧ (obk f.B = some k ∨ SM.fps f.body k))) ∧ ∀ k, ¬ (obk f.B = some k ∧ SM.fps f.body k)
def FM.fps : List FM → Nat → Prop
  | [], _ => False
  | x :: r, k => FM.fp x k ∨ FM.fps r k
def FM.Oks (w : World) : List FM → Prop
  | [] => True
  | x :: r => FM.Ok w x ∧ FM.Oks w r
def FM.Seps : List FM → Prop
  | [] => True
  | x :: r => FM.Sep x ∧ FM.Seps r ∧ ∀ b, ¬ (FM.fp x b ∧ FM.fps r b)
theorem FM.fps_app (b : Nat) : ∀ l m : List FM, FM.fps (l ++ m) b ↔ FM.fps l b ∨ FM.fps m b
  | [], m => by simp [FM.fps]
  | x :: r, m => by simp [FM.fps, FM.fps_app b r m, or_assoc]
theorem FM.oks_app (w : World) : ∀ l m : List FM, FM.Oks w (l ++ m) ↔ FM.Oks w l ∧ FM.Oks w m
  | [], m => by simp [FM.Oks]
  | x :: r, m => by simp [FM.Oks, FM.oks_app w r m, and_assoc]
theorem FM.seps_app : ∀ l m : List FM, FM.Seps l → FM.Seps m → (∀ b, ¬ (FM.fps l b ∧ FM.fps m b)) → FM.Seps (l ++ m)
  | [], m, _, h, _ => h
  | x :: r, m, hl, hm, hd => by
    obtain ⟨h1, h2, h3⟩ := hl
    refine ⟨h1, FM.seps_app r m h2 hm fun b hb => hd b ⟨.inr hb.1, hb.2⟩, fun b hb => ?_⟩
    rcases (FM.fps_app b r m).1 hb.2 with h | h
    · exact h3 b ⟨hb.1, h⟩
    · exact hd b ⟨.inl hb.1, h⟩
theorem FM.Ok.lt {w : World} {f : FM} (h : FM.Ok w f) (k : Nat) (hk : FM.fp f k) : k < w.heap.size := by
  rcases hk with hk | hk | hk
  · exact (qu_ok h.1).lt k hk
  · exact (qu_ok h.2.1).lt k hk
  · exact SM.Oks.lt h.2.2.1 k hk
theorem FM.Oks.lt {w : World} : ∀ {l : List FM}, FM.Oks w l → ∀ b, FM.fps l b → b < w.heap.size
  | [], _, b, hb => hb.elim
  | x :: r, h, b, hb => by
    rcases hb with hb | hb
    · exact FM.Ok.lt h.1 b hb
    · exact FM.Oks.lt h.2 b hb
theorem FM.Ok.loc {w w' : World} (hs : w.heap.size ≤ w'.heap.size) {f : FM} (h : FM.Ok w f) (hb : ∀ b, FM.fp f b → w'.heap[b]? = w.heap[b]?) : FM.Ok w' f :=
  ⟨(qu_ok h.1).loc w' hs fun k hk => hb k (.inl hk), (qu_ok h.2.1).loc w' hs fun k hk => hb k (.inr (.inl hk)), SM.Oks.loc hs h.2.2.1 fun k hk => hb k (.inr (.inr hk)), h.2.2.2⟩
theorem FM.Oks.loc {w w' : World} (hs : w.heap.size ≤ w'.heap.size) : ∀ {l : List FM}, FM.Oks w l → (∀ b, FM.fps l b → w'.heap[b]? = w.heap[b]?) → FM.Oks w' l
  | [], _, _ => trivial
  | x :: r, h, hb => ⟨FM.Ok.loc hs h.1 fun b hk => hb b (.inl hk), FM.Oks.loc hs h.2 fun b hk => hb b (.inr hk)⟩
abbrev fns (l : List FM) : Ck := ⟨FM.fps l, fun w => FM.Oks w l ∧ FM.Seps l, true, false⟩
theorem fns_ok {l : List FM} {w : World} (h1 : FM.Oks w l) (h2 : FM.Seps l) : (fns l).Ok w :=
  ⟨⟨h1, h2⟩, FM.Oks.lt h1, fun w' hs hb => ⟨FM.Oks.loc hs h1 hb, h2⟩⟩
section
variable {S : Nat → Prop} {w0 w : World} {Γ : List Ck}
theorem Hp.fns0 (H : Hp S w0 w Γ) : Hp S w0 w (fns [] :: Γ) :=
  H.fr0 (Hp.one (Tch.refl _ _) (fns_ok trivial trivial) (fun k hk => hk.elim)) (.inl rfl)
theorem Hp.fnsS {l : List FM} {t : FM} (H : Hp S w0 w (fns [t] :: fns l :: Γ)) : Hp S w0 w (fns (l ++ [t]) :: Γ) := by
  refine Hp.join2 H rfl rfl (.inl rfl) (fun k hk => ?_) (fun hd h1 h2 => fns_ok ((FM.oks_app w l [t]).2 ⟨h2.holds.1, h1.holds.1⟩) (FM.seps_app _ _ h2.holds.2 h1.holds.2 fun b hb => hd b ⟨hb.2, hb.1⟩))
  rcases (FM.fps_app k l [t]).1 hk with h | h
  · exact .inr h
  · exact .inl h
theorem Hp.fnsN {P B : Option Addr} {cp cb : Nat} {ps : List Bs} {b : List SM} (nm : Bs) (H : Hp S w0 w (qu strE 1 9 P cp ps :: stl B cb b :: Γ)) (hlen : ps.length ≤ 2000000 := by first | (simp; done) | omega | assumption) : Hp S w0 w (fns [⟨nm, P, cp, ps, B, cb, b⟩] :: Γ) := by
  refine Hp.join2 H rfl rfl (.inl rfl) (fun k hk => ?_) (fun hd h1 h2 => fns_ok ⟨⟨h1.holds, h2.holds.1, h2.holds.2.1, hlen, h2.holds.2.2.2.2⟩, trivial⟩ ⟨⟨h2.holds.2.2.1, hd, h2.holds.2.2.2.1⟩, trivial, fun b hb => hb.2.elim⟩)
  rcases hk with (hk | hk | hk) | hk
  · exact .inl hk
  · exact .inr (.inl hk)
  · exact .inr (.inr hk)
  · exact hk.elim
end
theorem con_all {src : Bs} {pr : Nat} {wb : World} (X : Txt src pr wb) : ∀ f, Con src pr wb (pf f)
  | 0 => ⟨fun _ _ _ _ _ _ _ _ h => absurd rfl h, fun _ _ _ _ _ _ h => absurd rfl h, fun _ _ _ _ _ _ h => absurd rfl h, fun _ _ _ _ _ _ h => absurd rfl h, fun _ _ _ _ _ _ h => absurd rfl h⟩
  | f + 1 => ⟨expr_c X (con_all X f), unary_c X (con_all X f), primary_c X (con_all X f), block_c X (con_all X f), choice_c X (con_all X f)⟩
def OkF (src : Bs) (pr : Nat) (R : Res Fnc) (w : World) (v : Value) (w' : World) : Prop := ∃ f ts', R = .ok (FM.e f) ts' ∧ v = f.v ∧ Hp (· = pr) w w' [fns [f], rdr src pr ts']
theorem fm_v {v : Value} {nm : Bs} {P B : Option Addr} {cp cb : Nat} {ps : List Bs} {b : List SM} (h : v = .agg #[.string (bs nm), .slice P ps.length cp, .slice B b.length cb]) : v = FM.v ⟨nm, P, cp, ps, B, cb, b⟩ := h
section
variable {src : Bs} {pr : Nat} {wb : World} {F : PF} (X : Txt src pr wb) (C : Con src pr wb F)
include X C
set_option maxHeartbeats 4000000 in
theorem function_c (ts : List Tk) (w : World) (hwb : Ext wb w) (h : Rdr src pr ts w) (hne : functionP F ts ≠ .out) :
    Cl Tryz.prog 34 #[.pointer (some ⟨pr, 0, none⟩)] w (OkF src pr (functionP F ts) w) (PanX (functionP F ts) pr w) := by
  have HB := X.ok hwb
  have hsl := X.len
  obtain ⟨R, hR⟩ : ∃ R, R = functionP F ts := ⟨_, rfl⟩
  rw [← hR] at hne ⊢
  unfold functionP at hR
  refine calls_ex (args := [.pointer (some ⟨pr, 0, none⟩)]) T.ok Tryz.func34 rfl rfl rfl rfl ?_
  have H := Hp.start (S := (· = pr)) (rdr_ok h) (fun k hk => hk)
  clear h
  refine Sq.mk ?_
  ((conv => whnf); refine Al.hp H ?_; clear H; intro p2 _ H _)
  repeat' ((conv => whnf); first | ((with_reducible show Gd (bs _ == _) _ _); first | refine Gd.sY (by assumption) ?_ | refine Gd.sk (by assumption) ?_ | refine Gd.sN (by assumption) ?_) | ((conv => whnf); first | (((with_reducible show Gd ..); first | (with_reducible first | refine Gd.t ?_ | refine Gd.f ?_ | (first | apply Gd.dec | apply Gd.beq | apply Gd.bne) <;> intro _ | refine Gd.not ?_) | refine Gd.t ?_ | refine Gd.f ?_ | apply Gd.var <;> intro _) <;> try (exfalso; omega)) | with_reducible refine Sq.mk ?_ | ((with_reducible show Ld1 ..); first | refine Ld1.h H ?_ | refine Ld1.rF ?_ | refine Ld1.r ?_) | ((with_reducible show Ld ..); first | refine Ld.h H ?_ | refine Ld.r ?_) | ((with_reducible show Ix ..); first | refine Ix.h ?_ | refine Ix.ha ?_) | (refine Al.hp H ?_; clear H; intro _ _ H _) | (refine St.h H ?_; clear H; intro _ H)) | refine Sm.strix T.ok ?_)
  (((conv => whnf); refine Cl.mkX (take_c k_fn src pr (ts) wb _ (H.base2 HB) X.lo X.tb X.len (H.atC 1 rfl) (by decide)) ?_ ?_; rotate_left; (rintro ch w9 ⟨e9, p9, q9, h9, rfl, H'⟩; exact ⟨e9, p9, q9, (by rw [hR, h9]; rfl), rfl, Hp.pan H H' (.inl rfl)⟩)); rintro _ w8 ⟨t1, ts1, h1, rfl, H'⟩; replace H := H.upd (c := rdr src pr (ts)) H' rfl (.inl rfl); clear H'; rw [h1, Res.bind_ok] at hR; clear h1)
  repeat' ((conv => whnf); first | ((with_reducible show Gd (bs _ == _) _ _); first | refine Gd.sY (by assumption) ?_ | refine Gd.sk (by assumption) ?_ | refine Gd.sN (by assumption) ?_) | ((conv => whnf); first | (((with_reducible show Gd ..); first | (with_reducible first | refine Gd.t ?_ | refine Gd.f ?_ | (first | apply Gd.dec | apply Gd.beq | apply Gd.bne) <;> intro _ | refine Gd.not ?_) | refine Gd.t ?_ | refine Gd.f ?_ | apply Gd.var <;> intro _) <;> try (exfalso; omega)) | with_reducible refine Sq.mk ?_ | ((with_reducible show Ld1 ..); first | refine Ld1.h H ?_ | refine Ld1.rF ?_ | refine Ld1.r ?_) | ((with_reducible show Ld ..); first | refine Ld.h H ?_ | refine Ld.r ?_) | ((with_reducible show Ix ..); first | refine Ix.h ?_ | refine Ix.ha ?_) | (refine Al.hp H ?_; clear H; intro _ _ H _) | (refine St.h H ?_; clear H; intro _ H)) | refine Sm.strix T.ok ?_)
  (((conv => whnf); refine Cl.mkX (take_c k_name src pr (ts1) wb _ (H.base2 HB) X.lo X.tb X.len (H.atC 1 rfl) (by decide)) ?_ ?_; rotate_left; (rintro ch w9 ⟨e9, p9, q9, h9, rfl, H'⟩; exact ⟨e9, p9, q9, (by rw [hR, h9]; rfl), rfl, Hp.pan H H' (.inl rfl)⟩)); rintro _ w8 ⟨t2, ts2, h1, rfl, H'⟩; replace H := H.upd (c := rdr src pr (ts1)) H' rfl (.inl rfl); clear H'; rw [h1, Res.bind_ok] at hR; clear h1)
  repeat' ((conv => whnf); first | ((with_reducible show Gd (bs _ == _) _ _); first | refine Gd.sY (by assumption) ?_ | refine Gd.sk (by assumption) ?_ | refine Gd.sN (by assumption) ?_) | ((conv => whnf); first | (((with_reducible show Gd ..); first | (with_reducible first | refine Gd.t ?_ | refine Gd.f ?_ | (first | apply Gd.dec | apply Gd.beq | apply Gd.bne) <;> intro _ | refine Gd.not ?_) | refine Gd.t ?_ | refine Gd.f ?_ | apply Gd.var <;> intro _) <;> try (exfalso; omega)) | with_reducible refine Sq.mk ?_ | ((with_reducible show Ld1 ..); first | refine Ld1.h H ?_ | refine Ld1.rF ?_ | refine Ld1.r ?_) | ((with_reducible show Ld ..); first | refine Ld.h H ?_ | refine Ld.r ?_) | ((with_reducible show Ix ..); first | refine Ix.h ?_ | refine Ix.ha ?_) | (refine St.h H ?_; clear H; intro _ H)) | refine Sm.strix T.ok ?_)
  ((conv => whnf); refine Al.hp H ?_; clear H; intro p3 _ H _)
  repeat' ((conv => whnf); first | ((with_reducible show Gd (bs _ == _) _ _); first | refine Gd.sY (by assumption) ?_ | refine Gd.sk (by assumption) ?_ | refine Gd.sN (by assumption) ?_) | ((conv => whnf); first | (((with_reducible show Gd ..); first | (with_reducible first | refine Gd.t ?_ | refine Gd.f ?_ | (first | apply Gd.dec | apply Gd.beq | apply Gd.bne) <;> intro _ | refine Gd.not ?_) | refine Gd.t ?_ | refine Gd.f ?_ | apply Gd.var <;> intro _) <;> try (exfalso; omega)) | with_reducible refine Sq.mk ?_ | ((with_reducible show Ld1 ..); first | refine Ld1.h H ?_ | refine Ld1.rF ?_ | refine Ld1.r ?_) | ((with_reducible show Ld ..); first | refine Ld.h H ?_ | refine Ld.r ?_) | ((with_reducible show Ix ..); first | refine Ix.h ?_ | refine Ix.ha ?_) | (refine Al.hp H ?_; clear H; intro _ _ H _) | (refine St.h H ?_; clear H; intro _ H)) | refine Sm.strix T.ok ?_)
  (((conv => whnf); refine Cl.mkX (take_c s_lp src pr (ts2) wb _ (H.base2 HB) X.lo X.tb X.len (H.atC 2 rfl) (by decide)) ?_ ?_; rotate_left; (rintro ch w9 ⟨e9, p9, q9, h9, rfl, H'⟩; exact ⟨e9, p9, q9, (by rw [hR, h9]; rfl), rfl, Hp.pan H H' (.inl rfl)⟩)); rintro _ w8 ⟨t3, ts3, h1, rfl, H'⟩; replace H := H.upd (c := rdr src pr (ts2)) H' rfl (.inl rfl); clear H'; rw [h1, Res.bind_ok] at hR; clear h1)
  have hN : ts3.length ≤ src.length + 2 := (H.atC (c := rdr src pr ts3) 2 rfl).len
  generalize hN0 : ts3.length + 1 = N at hR
  have hNb : N ≤ 1000010 := by omega
  replace H := Hp.nil H strE 1 9
  have hfix : ∀ w', Hp (· = pr) w w' [qu strE 1 9 none 0 [], bk p3 34 [.string (bs t2.text), .slice none 0 0, .slice none 0 0], bk p2 34 T.t34.zero.cells.toList, rdr src pr ts3] → Hp (· = pr) w w' [qu strE 1 9 none 0 [], bk p3 34 [.string (bs t2.text), .slice none 0 0, .slice none 0 0], bk p2 34 T.t34.zero.cells.toList, rdr src pr ts3] := fun _ h => h
  replace H := hfix _ H
  clear hfix
  repeat' ((conv => whnf); first | ((with_reducible show Gd (bs _ == _) _ _); first | refine Gd.sY (by assumption) ?_ | refine Gd.sk (by assumption) ?_ | refine Gd.sN (by assumption) ?_) | ((conv => whnf); first | (((with_reducible show Gd ..); first | (with_reducible first | refine Gd.t ?_ | refine Gd.f ?_ | (first | apply Gd.dec | apply Gd.beq | apply Gd.bne) <;> intro _ | refine Gd.not ?_) | refine Gd.t ?_ | refine Gd.f ?_ | apply Gd.var <;> intro _) <;> try (exfalso; omega)) | with_reducible refine Sq.mk ?_ | ((with_reducible show Ld1 ..); first | refine Ld1.h H ?_ | refine Ld1.rF ?_ | refine Ld1.r ?_) | ((with_reducible show Ld ..); first | refine Ld.h H ?_ | refine Ld.r ?_) | ((with_reducible show Ix ..); first | refine Ix.h ?_ | refine Ix.ha ?_) | (refine Al.hp H ?_; clear H; intro _ _ H _) | (refine St.h H ?_; clear H; intro _ H)) | refine Sm.strix T.ok ?_)
  refine Lp.g0 T.ok (σ := Nat × Option Addr × Nat × List Bs × List Tk) (fun q => [(3, .pointer (some ⟨p3, 0, none⟩)), (2, .pointer (some ⟨p2, 0, none⟩)), (0, .pointer (some ⟨pr, 0, none⟩))])
    (fun q w' => R = (loopN q.1 q.2.2.2.1 q.2.2.2.2).bind (fun ps ts4 => (takeP s_rp ts4).bind fun _ ts5 => (F.block 1 ts5).bind fun b ts6 => .ok ⟨t2.text, ps, b⟩ ts6) ∧ q.1 + q.2.2.2.1.length ≤ N ∧ Hp (· = pr) w w' [qu strE 1 9 q.2.1 q.2.2.1 q.2.2.2.1, bk p3 34 [.string (bs t2.text), .slice q.2.1 q.2.2.2.1.length q.2.2.1, .slice none 0 0], bk p2 34 T.t34.zero.cells.toList, rdr src pr q.2.2.2.2]) (fun q _ => q.1) (N, none, 0, [], ts3) rfl ⟨rfl, rfl, rfl, trivial⟩ ⟨hR, Nat.le_refl _, H⟩ ?_
  clear H hR hN0 hN
  rintro ⟨f, A, c, l, ts⟩ w5 ⟨hR, hN, H⟩
  simp only at hR hN H ⊢
  cases f with
  | zero => exact absurd hR hne
  | succ f =>
  simp only [loopN] at hR
  (obtain ⟨nx, t0, r0, rfl, hnx, hr0, hb0⟩ := H.atC (c := rdr src pr ts) 3 rfl; replace H := Hp.ofR H hb0; clear hb0)
  by_cases hk : t0.kind = s_rp
  · rw [if_pos (show curK (t0 :: r0) = s_rp from hk), Res.bind_ok] at hR
    repeat' ((conv => whnf); first | ((with_reducible show Gd (bs _ == _) _ _); first | refine Gd.sY (by assumption) ?_ | refine Gd.sk (by assumption) ?_ | refine Gd.sN (by assumption) ?_) | ((conv => whnf); first | (((with_reducible show Gd ..); first | (with_reducible first | refine Gd.t ?_ | refine Gd.f ?_ | (first | apply Gd.dec | apply Gd.beq | apply Gd.bne) <;> intro _ | refine Gd.not ?_) | refine Gd.t ?_ | refine Gd.f ?_ | apply Gd.var <;> intro _) <;> try (exfalso; omega)) | with_reducible refine Sq.mk ?_ | ((with_reducible show Ld1 ..); first | refine Ld1.h H ?_ | refine Ld1.rF ?_ | refine Ld1.r ?_) | ((with_reducible show Ld ..); first | refine Ld.h H ?_ | refine Ld.r ?_) | ((with_reducible show Ix ..); first | refine Ix.h ?_ | refine Ix.ha ?_) | (refine Al.hp H ?_; clear H; intro _ _ H _) | (refine St.h H ?_; clear H; intro _ H)) | refine Sm.strix T.ok ?_)
    (replace H := Hp.toR H hnx hr0; clear hnx hr0)
    (((conv => whnf); refine Cl.mkX (take_c s_rp src pr (t0 :: r0) wb _ (H.base2 HB) X.lo X.tb X.len (H.atC 3 rfl) (by decide)) ?_ ?_; rotate_left; (rintro ch w9 ⟨e9, p9, q9, h9, rfl, H'⟩; exact ⟨e9, p9, q9, (by rw [hR, h9]; rfl), rfl, Hp.pan H H' (.inl rfl)⟩)); rintro _ w8 ⟨t5, ts5, h1, rfl, H'⟩; replace H := H.upd (c := rdr src pr (t0 :: r0)) H' rfl (.inl rfl); clear H'; rw [h1, Res.bind_ok] at hR; clear h1)
    repeat' ((conv => whnf); first | ((with_reducible show Gd (bs _ == _) _ _); first | refine Gd.sY (by assumption) ?_ | refine Gd.sk (by assumption) ?_ | refine Gd.sN (by assumption) ?_) | ((conv => whnf); first | (((with_reducible show Gd ..); first | (with_reducible first | refine Gd.t ?_ | refine Gd.f ?_ | (first | apply Gd.dec | apply Gd.beq | apply Gd.bne) <;> intro _ | refine Gd.not ?_) | refine Gd.t ?_ | refine Gd.f ?_ | apply Gd.var <;> intro _) <;> try (exfalso; omega)) | with_reducible refine Sq.mk ?_ | ((with_reducible show Ld1 ..); first | refine Ld1.h H ?_ | refine Ld1.rF ?_ | refine Ld1.r ?_) | ((with_reducible show Ld ..); first | refine Ld.h H ?_ | refine Ld.r ?_) | ((with_reducible show Ix ..); first | refine Ix.h ?_ | refine Ix.ha ?_) | (refine Al.hp H ?_; clear H; intro _ _ H _) | (refine St.h H ?_; clear H; intro _ H)) | refine Sm.strix T.ok ?_)
    ((conv => whnf); refine Cl.mkX (C.block 1 ts5 _ (by omega) (H.base2 HB) (H.atC 3 rfl) (Res.bind_out (by rw [← hR]; exact hne))) ?_ ?_; rotate_left; (rintro ch w9 ⟨e9, p9, q9, h9, rfl, H'⟩; exact ⟨e9, p9, q9, (by rw [hR, h9]; rfl), rfl, Hp.pan H H' (.inl rfl)⟩))
    rintro _ w6 ⟨B, cB, b, ts6, h6, rfl, H'⟩
    replace H := H.updn (c := rdr src pr ts5) (Hp.swap H') rfl (.inl rfl) (.inl rfl)
    clear H'
    rw [h6, Res.bind_ok] at hR
    repeat' ((conv => whnf); first | ((with_reducible show Gd (bs _ == _) _ _); first | refine Gd.sY (by assumption) ?_ | refine Gd.sk (by assumption) ?_ | refine Gd.sN (by assumption) ?_) | ((conv => whnf); first | (((with_reducible show Gd ..); first | (with_reducible first | refine Gd.t ?_ | refine Gd.f ?_ | (first | apply Gd.dec | apply Gd.beq | apply Gd.bne) <;> intro _ | refine Gd.not ?_) | refine Gd.t ?_ | refine Gd.f ?_ | apply Gd.var <;> intro _) <;> try (exfalso; omega)) | with_reducible refine Sq.mk ?_ | ((with_reducible show Ld1 ..); first | refine Ld1.h H ?_ | refine Ld1.rF ?_ | refine Ld1.r ?_) | ((with_reducible show Ld ..); first | refine Ld.h H ?_ | refine Ld.r ?_) | ((with_reducible show Ix ..); first | refine Ix.h ?_ | refine Ix.ha ?_) | (refine Al.hp H ?_; clear H; intro _ _ H _) | (refine St.h H ?_; clear H; intro _ H)) | refine Sm.strix T.ok ?_)
    exact ⟨⟨t2.text, A, c, l, B, cB, b⟩, ts6, hR, fm_v rfl, Hp.fnsN t2.text (H.sel [1, 0, 2] rfl)⟩
  rw [if_neg (show ¬ curK (t0 :: r0) = s_rp from hk)] at hR
  by_cases hl0 : l.length = 0
  · rw [if_neg (by omega), Res.bind_ok, Res.bind_assoc] at hR
    repeat' ((conv => whnf); first | ((with_reducible show Gd (bs _ == _) _ _); first | refine Gd.sY (by assumption) ?_ | refine Gd.sk (by assumption) ?_ | refine Gd.sN (by assumption) ?_) | ((conv => whnf); first | (((with_reducible show Gd ..); first | (with_reducible first | refine Gd.t ?_ | refine Gd.f ?_ | (first | apply Gd.dec | apply Gd.beq | apply Gd.bne) <;> intro _ | refine Gd.not ?_) | refine Gd.t ?_ | refine Gd.f ?_ | apply Gd.var <;> intro _) <;> try (exfalso; omega)) | with_reducible refine Sq.mk ?_ | ((with_reducible show Ld1 ..); first | refine Ld1.h H ?_ | refine Ld1.rF ?_ | refine Ld1.r ?_) | ((with_reducible show Ld ..); first | refine Ld.h H ?_ | refine Ld.r ?_) | ((with_reducible show Ix ..); first | refine Ix.h ?_ | refine Ix.ha ?_) | (refine Al.hp H ?_; clear H; intro _ _ H _) | (refine St.h H ?_; clear H; intro _ H)) | refine Sm.strix T.ok ?_)
    all_goals first | (exfalso; omega) | skip
    (replace H := Hp.toR H hnx hr0; clear hnx hr0)
    (conv => whnf)
    refine Dr.chX T.ok mixed [0, 1, 2, 7] [3, 4, 5, 6, 8] (by kernel_rfl) rfl rfl (fun w' => Blk w' p3 34 [.string (bs t2.text), .slice A l.length c, .slice none 0 0]) (PanX R pr w) (fun ch F' w' hds h => by (conv => whnf); rw [show F'.ds = [] from hds]; exact h) (fun w1 eT _ => ?_)
    replace H := H.ext eT
    repeat' ((conv => whnf); first | refine QLd1.own (fun _ hw => hw) ?_ | refine QLd.own (fun _ hw => hw) ?_)
    (conv => whnf)
    refine ⟨H.blk 1 rfl, ?_⟩
    (((conv => whnf); refine Cl.mkX (take_c k_name src pr (t0 :: r0) wb _ (H.base2 HB) X.lo X.tb X.len (H.atC 3 rfl) (by decide)) ?_ ?_; rotate_left; (rintro ch w9 ⟨e9, p9, q9, h9, rfl, H'⟩; exact ⟨e9, p9, q9, (by rw [hR, h9]; rfl), rfl, Hp.pan H H' (.inl rfl)⟩)); rintro _ w8 ⟨t6, ts6, h1, rfl, H'⟩; replace H := H.upd (c := rdr src pr (t0 :: r0)) H' rfl (.inl rfl); clear H'; rw [h1, Res.bind_ok] at hR; clear h1)
    (conv => whnf)
    refine ⟨H.blk 1 rfl, ?_⟩
    (conv => whnf)
    refine ⟨H.blk 1 rfl, ?_⟩
    refine Sm.lith (cs := [.string (bs t6.text)]) H T.ok (fun p5 w4 H _ => ?_)
    (conv => whnf)
    refine ⟨H.blk 2 rfl, ?_⟩
    refine Sm.ap1 (enc := strE) t6.text H T.ok ?_ ?_ (fun A' c' w7 H => ?_)
    · show (l.length + 1) * 16 ≤ _; omega
    · omega
    simp only [List.cons_append, List.nil_append] at H
    (conv => whnf)
    refine ⟨H.blk 1 rfl, ?_⟩
    repeat' ((conv => whnf); first | ((with_reducible show Gd (bs _ == _) _ _); first | refine Gd.sY (by assumption) ?_ | refine Gd.sk (by assumption) ?_ | refine Gd.sN (by assumption) ?_) | ((conv => whnf); first | (((with_reducible show Gd ..); first | (with_reducible first | refine Gd.t ?_ | refine Gd.f ?_ | (first | apply Gd.dec | apply Gd.beq | apply Gd.bne) <;> intro _ | refine Gd.not ?_) | refine Gd.t ?_ | refine Gd.f ?_ | apply Gd.var <;> intro _) <;> try (exfalso; omega)) | with_reducible refine Sq.mk ?_ | ((with_reducible show Ld1 ..); first | refine Ld1.h H ?_ | refine Ld1.rF ?_ | refine Ld1.r ?_) | ((with_reducible show Ld ..); first | refine Ld.h H ?_ | refine Ld.r ?_) | ((with_reducible show Ix ..); first | refine Ix.h ?_ | refine Ix.ha ?_) | (refine Al.hp H ?_; clear H; intro _ _ H _) | (refine St.h H ?_; clear H; intro _ H)) | refine Sm.strix T.ok ?_)
    refine ⟨(f, A', c', l ++ [t6.text], ts6), ⟨rfl, rfl, rfl, trivial⟩, rfl, ⟨hR, ?_, ?_⟩, Nat.lt_succ_self f⟩
    · simp only [List.length_append, List.length_cons, List.length_nil]; omega
    · have hl1 : (l ++ [t6.text]).length = l.length + 1 := by simp
      simp only [hl1]
      exact H
  · rw [if_pos hl0] at hR
    replace hR : R = (takeP s_comma (t0 :: r0)).bind fun _ ts1 => (takeP k_name ts1).bind fun t ts2 => (loopN f (l ++ [t.text]) ts2).bind (fun ps ts4 => (takeP s_rp ts4).bind fun _ ts5 => (F.block 1 ts5).bind fun b ts6 => .ok ⟨t2.text, ps, b⟩ ts6) := by
      rw [hR]
      cases takeP s_comma (t0 :: r0) with
      | out => rfl
      | err e p => rfl
      | ok a ts1 => simp only [Res.bind_ok, Res.bind_assoc]
    repeat' ((conv => whnf); first | ((with_reducible show Gd (bs _ == _) _ _); first | refine Gd.sY (by assumption) ?_ | refine Gd.sk (by assumption) ?_ | refine Gd.sN (by assumption) ?_) | ((conv => whnf); first | (((with_reducible show Gd ..); first | (with_reducible first | refine Gd.t ?_ | refine Gd.f ?_ | (first | apply Gd.dec | apply Gd.beq | apply Gd.bne) <;> intro _ | refine Gd.not ?_) | refine Gd.t ?_ | refine Gd.f ?_ | apply Gd.var <;> intro _) <;> try (exfalso; omega)) | with_reducible refine Sq.mk ?_ | ((with_reducible show Ld1 ..); first | refine Ld1.h H ?_ | refine Ld1.rF ?_ | refine Ld1.r ?_) | ((with_reducible show Ld ..); first | refine Ld.h H ?_ | refine Ld.r ?_) | ((with_reducible show Ix ..); first | refine Ix.h ?_ | refine Ix.ha ?_) | (refine Al.hp H ?_; clear H; intro _ _ H _) | (refine St.h H ?_; clear H; intro _ H)) | refine Sm.strix T.ok ?_)
    all_goals first | (exfalso; omega) | skip
    (replace H := Hp.toR H hnx hr0; clear hnx hr0)
    (((conv => whnf); refine Cl.mkX (take_c s_comma src pr (t0 :: r0) wb _ (H.base2 HB) X.lo X.tb X.len (H.atC 3 rfl) (by decide)) ?_ ?_; rotate_left; (rintro ch w9 ⟨e9, p9, q9, h9, rfl, H'⟩; exact ⟨e9, p9, q9, (by rw [hR, h9]; rfl), rfl, Hp.pan H H' (.inl rfl)⟩)); rintro _ w8 ⟨t7, ts7, h1, rfl, H'⟩; replace H := H.upd (c := rdr src pr (t0 :: r0)) H' rfl (.inl rfl); clear H'; rw [h1, Res.bind_ok] at hR; clear h1)
    repeat' ((conv => whnf); first | ((with_reducible show Gd (bs _ == _) _ _); first | refine Gd.sY (by assumption) ?_ | refine Gd.sk (by assumption) ?_ | refine Gd.sN (by assumption) ?_) | ((conv => whnf); first | (((with_reducible show Gd ..); first | (with_reducible first | refine Gd.t ?_ | refine Gd.f ?_ | (first | apply Gd.dec | apply Gd.beq | apply Gd.bne) <;> intro _ | refine Gd.not ?_) | refine Gd.t ?_ | refine Gd.f ?_ | apply Gd.var <;> intro _) <;> try (exfalso; omega)) | with_reducible refine Sq.mk ?_ | ((with_reducible show Ld1 ..); first | refine Ld1.h H ?_ | refine Ld1.rF ?_ | refine Ld1.r ?_) | ((with_reducible show Ld ..); first | refine Ld.h H ?_ | refine Ld.r ?_) | ((with_reducible show Ix ..); first | refine Ix.h ?_ | refine Ix.ha ?_) | (refine Al.hp H ?_; clear H; intro _ _ H _) | (refine St.h H ?_; clear H; intro _ H)) | refine Sm.strix T.ok ?_)
    (conv => whnf)
    refine Dr.chX T.ok mixed [0, 1, 2, 7] [3, 4, 5, 6, 8] (by kernel_rfl) rfl rfl (fun w' => Blk w' p3 34 [.string (bs t2.text), .slice A l.length c, .slice none 0 0]) (PanX R pr w) (fun ch F' w' hds h => by (conv => whnf); rw [show F'.ds = [] from hds]; exact h) (fun w1 eT _ => ?_)
    replace H := H.ext eT
    repeat' ((conv => whnf); first | refine QLd1.own (fun _ hw => hw) ?_ | refine QLd.own (fun _ hw => hw) ?_)
    (conv => whnf)
    refine ⟨H.blk 1 rfl, ?_⟩
    (((conv => whnf); refine Cl.mkX (take_c k_name src pr (ts7) wb _ (H.base2 HB) X.lo X.tb X.len (H.atC 3 rfl) (by decide)) ?_ ?_; rotate_left; (rintro ch w9 ⟨e9, p9, q9, h9, rfl, H'⟩; exact ⟨e9, p9, q9, (by rw [hR, h9]; rfl), rfl, Hp.pan H H' (.inl rfl)⟩)); rintro _ w8 ⟨t6, ts6, h1, rfl, H'⟩; replace H := H.upd (c := rdr src pr (ts7)) H' rfl (.inl rfl); clear H'; rw [h1, Res.bind_ok] at hR; clear h1)
    (conv => whnf)
    refine ⟨H.blk 1 rfl, ?_⟩
    (conv => whnf)
    refine ⟨H.blk 1 rfl, ?_⟩
    refine Sm.lith (cs := [.string (bs t6.text)]) H T.ok (fun p5 w4 H _ => ?_)
    (conv => whnf)
    refine ⟨H.blk 2 rfl, ?_⟩
    refine Sm.ap1 (enc := strE) t6.text H T.ok ?_ ?_ (fun A' c' w7 H => ?_)
    · show (l.length + 1) * 16 ≤ _; omega
    · omega
    simp only [List.cons_append, List.nil_append] at H
    (conv => whnf)
    refine ⟨H.blk 1 rfl, ?_⟩
    repeat' ((conv => whnf); first | ((with_reducible show Gd (bs _ == _) _ _); first | refine Gd.sY (by assumption) ?_ | refine Gd.sk (by assumption) ?_ | refine Gd.sN (by assumption) ?_) | ((conv => whnf); first | (((with_reducible show Gd ..); first | (with_reducible first | refine Gd.t ?_ | refine Gd.f ?_ | (first | apply Gd.dec | apply Gd.beq | apply Gd.bne) <;> intro _ | refine Gd.not ?_) | refine Gd.t ?_ | refine Gd.f ?_ | apply Gd.var <;> intro _) <;> try (exfalso; omega)) | with_reducible refine Sq.mk ?_ | ((with_reducible show Ld1 ..); first | refine Ld1.h H ?_ | refine Ld1.rF ?_ | refine Ld1.r ?_) | ((with_reducible show Ld ..); first | refine Ld.h H ?_ | refine Ld.r ?_) | ((with_reducible show Ix ..); first | refine Ix.h ?_ | refine Ix.ha ?_) | (refine Al.hp H ?_; clear H; intro _ _ H _) | (refine St.h H ?_; clear H; intro _ H)) | refine Sm.strix T.ok ?_)
    refine ⟨(f, A', c', l ++ [t6.text], ts6), ⟨rfl, rfl, rfl, trivial⟩, rfl, ⟨hR, ?_, ?_⟩, Nat.lt_succ_self f⟩
    · simp only [List.length_append, List.length_cons, List.length_nil]; omega
    · have hl1 : (l ++ [t6.text]).length = l.length + 1 := by simp
      simp only [hl1]
      exact H
end
end Go.Proofs.YtfnjodpehomgfaaGreatDoor
namespace Go.Proofs.YtfnjodpehomgfaaGreatDoor
open Go Go.Sh Go.Tx
attribute [local irreducible] Blk Ext RdS
theorem namesR_s (n : Nat) (l : List Bs) (ts : List Tk) : namesR (n + 1) l ts = (if curK ts = s_comma then (stepP false ts).bind fun _ ts1 => (takeP k_name ts1).bind fun t ts2 => namesR n (l ++ [t.text]) ts2 else (takeP s_rp ts).bind fun _ ts1 => .ok l ts1) := rfl
section
variable {src : Bs} {ws : List Tk} {A : Option Addr} {cw pr : Nat} {wb : World}
def OkRF (ws : List Tk) (A : Option Addr) (cw pr : Nat) {α : Type} (g : α → Fnc) (R : Res α) (w : World) (v : Value) (w' : World) : Prop :=
  ∃ f s', v = FM.v f ∧ AtR R s' ∧ Vl R (fun a => FM.e f = g a) ∧ Hp (· = pr) w w' [fns [f], rq ws A cw pr s']
variable (Y : RY src ws A cw pr wb)
include Y
theorem stmt_deep (d : Nat) (ts : List Tk) (w : World) (hd : 40 < d) (hd2 : d ≤ 41) (hk : curK ts = k_if) (hwb : Ext wb w) (h : RdQ ws A cw pr ⟨ts, none⟩ w) (hg : Gdw ts) :
    Cl Tryz.prog 83 #[.pointer (some ⟨pr, 0, none⟩), .int .i64 (d : Int)] w (OkRS ws A cw pr id (.err 144 (curT ts).at_) w) (fun _ _ => False) := by
  have X := Y.x
  have HB := X.ok hwb
  have hpl := h.pls X
  have hts := ends_ne hg.ends
  have hrk : rKind (curT (⟨ts, none⟩ : RS).ts) = k_if := (chk_ok hg.ok).1.trans hk
  refine calls_ex (args := [.pointer (some ⟨pr, 0, none⟩), .int .i64 (d : Int)]) T.ok Tryz.func83 rfl rfl rfl rfl ?_
  have H := Hp.start (S := (· = pr)) (rq_ok h) (fun k hk => hk)
  clear h
  refine Sq.mk ?_
  ((conv => whnf); refine Al.hp H ?_; clear H; intro p4 _ H _)
  repeat' ((conv => whnf); first | (((with_reducible show Gd ..); first | (with_reducible first | refine Gd.t ?_ | refine Gd.f ?_ | (first | apply Gd.dec | apply Gd.beq | apply Gd.bne) <;> intro _ | refine Gd.not ?_) | refine Gd.t ?_ | refine Gd.f ?_ | apply Gd.var <;> intro _) <;> try (exfalso; omega)) | with_reducible refine Sq.mk ?_ | ((with_reducible show Ld1 ..); first | refine Ld1.h H ?_ | refine Ld1.rF ?_ | refine Ld1.r ?_) | ((with_reducible show Ld ..); first | refine Ld.h H ?_ | refine Ld.r ?_) | ((with_reducible show Ix ..); first | refine Ix.h ?_ | refine Ix.ha ?_) | (refine St.h H ?_; clear H; intro _ H))
  (((conv => whnf); refine Cl.mk (next_r X ⟨ts, none⟩ _ (H.base2 HB) (H.atC 1 rfl) hts) ?_); rintro _ _ ⟨rfl, hx⟩; replace H := H.ext hx; clear hx)
  ((conv => whnf); refine Al.hp H ?_; clear H; intro p5 _ H _)
  repeat' ((conv => whnf); first | (((with_reducible show Gd ..); first | (with_reducible first | refine Gd.t ?_ | refine Gd.f ?_ | (first | apply Gd.dec | apply Gd.beq | apply Gd.bne) <;> intro _ | refine Gd.not ?_) | refine Gd.t ?_ | refine Gd.f ?_ | apply Gd.var <;> intro _) <;> try (exfalso; omega)) | with_reducible refine Sq.mk ?_ | ((with_reducible show Ld1 ..); first | refine Ld1.h H ?_ | refine Ld1.rF ?_ | refine Ld1.r ?_) | ((with_reducible show Ld ..); first | refine Ld.h H ?_ | refine Ld.r ?_) | ((with_reducible show Ix ..); first | refine Ix.h ?_ | refine Ix.ha ?_) | (refine St.h H ?_; clear H; intro _ H))
  (((conv => whnf); refine Cl.mk (begins_r (rKind (curT (⟨ts, none⟩ : RS).ts)) _) ?_); rintro _ _ ⟨rfl, hx⟩; replace H := H.ext hx; clear hx)
  rw [show beginsB (rKind (curT (⟨ts, none⟩ : RS).ts)) = true by rw [hrk]; rfl]
  have hw : wrongR 144 ⟨ts, none⟩ = ⟨ts, some (144, (curT ts).at_)⟩ := wrong_good rfl hg.ok hpl.cur.1
  repeat' ((conv => whnf); first | (((with_reducible show Gd ..); first | (with_reducible first | refine Gd.t ?_ | refine Gd.f ?_ | (first | apply Gd.dec | apply Gd.beq | apply Gd.bne) <;> intro _ | refine Gd.not ?_) | refine Gd.t ?_ | refine Gd.f ?_ | apply Gd.var <;> intro _) <;> try (exfalso; omega)) | with_reducible refine Sq.mk ?_ | ((with_reducible show Ld1 ..); first | refine Ld1.h H ?_ | refine Ld1.rF ?_ | refine Ld1.r ?_) | ((with_reducible show Ld ..); first | refine Ld.h H ?_ | refine Ld.r ?_) | ((with_reducible show Ix ..); first | refine Ix.h ?_ | refine Ix.ha ?_) | (refine St.h H ?_; clear H; intro _ H))
  all_goals first | (exfalso; omega) | skip
  ((conv => whnf); refine Cl.mk (wrong_r X 144 ⟨ts, none⟩ _ (by decide) (H.base2 HB) (H.atC 2 rfl) hts) ?_)
  rintro _ w3 H'
  rw [hw] at H'
  replace H := H.upd (c := rq ws A cw pr ⟨ts, none⟩) H' rfl (.inl rfl)
  clear H'
  repeat' ((conv => whnf); first | (((with_reducible show Gd ..); first | (with_reducible first | refine Gd.t ?_ | refine Gd.f ?_ | (first | apply Gd.dec | apply Gd.beq | apply Gd.bne) <;> intro _ | refine Gd.not ?_) | refine Gd.t ?_ | refine Gd.f ?_ | apply Gd.var <;> intro _) <;> try (exfalso; omega)) | with_reducible refine Sq.mk ?_ | ((with_reducible show Ld1 ..); first | refine Ld1.h H ?_ | refine Ld1.rF ?_ | refine Ld1.r ?_) | ((with_reducible show Ld ..); first | refine Ld.h H ?_ | refine Ld.r ?_) | ((with_reducible show Ix ..); first | refine Ix.h ?_ | refine Ix.ha ?_) | (refine St.h H ?_; clear H; intro _ H))
  exact ⟨.mk 0 [] (.mk 0 0 0 [] [] none 0 []) none 0 [] none 0 [], _, sm_v rfl, ⟨hg.ends, .inl rfl⟩, Vl.err, Hp.stsE 0 [] (Hp.trsZ 0 0 0 [] [] (H.sel [2] rfl))⟩
theorem rcon_all : ∀ f, RCon src ws A cw pr wb (pf f)
  | 0 => by
    refine ⟨fun _ _ _ _ _ _ _ _ _ h => absurd rfl h, fun _ _ _ _ _ _ _ h => absurd rfl h, fun _ _ _ _ _ _ _ h => absurd rfl h, fun _ _ _ _ _ _ _ h => absurd rfl h, fun d ts w hd hk hwb h hg hne => ?_⟩
    by_cases h40 : 40 < d
    · have he : ((deepP d ts).bind fun _ ts => (pf 0).choice d ts) = .err 144 (curT ts).at_ := by unfold deepP; rw [if_pos h40]; rfl
      rw [he]
      exact stmt_deep Y d ts w h40 hd hk hwb h hg
    · exfalso
      apply hne
      unfold deepP
      rw [if_neg h40]; rfl
  | f + 1 => ⟨fun lv d ts w h1 h2 h3 h4 h5 h6 => expr_r Y (rcon_all f) lv d ts w h1 h2 h3 h4 h5 h6, fun d ts w h2 h3 h4 h5 h6 => unary_r Y (rcon_all f) d ts w h2 h3 h4 h5 h6, fun d ts w h2 h3 h4 h5 h6 => primary_r Y (rcon_all f) d ts w h2 h3 h4 h5 h6, fun d ts w h2 h3 h4 h5 h6 => block_r Y (rcon_all f) d ts w h2 h3 h4 h5 h6, fun d ts w h2 hk h3 h4 h5 h6 => stmt_if Y (rcon_all f) d ts w h2 hk h3 h4 h5 h6⟩
set_option maxHeartbeats 4000000 in
theorem functionD (s : RS) (w : World) {e : Int} {p : Nat} (hwb : Ext wb w) (h : RdQ ws A cw pr s w) (ha : AtR (.err e p : Res Unit) s) : Cl Tryz.prog 30 #[.pointer (some ⟨pr, 0, none⟩)] w (fun v w' => ∃ f, v = FM.v f ∧ Hp (· = pr) w w' [fns [f], rq ws A cw pr ⟨s.ts, some (e, p)⟩]) (fun _ _ => False) := by
  have X := Y.x
  have HB := X.ok hwb
  have hts := ends_ne ha.ends
  refine calls_ex (args := [.pointer (some ⟨pr, 0, none⟩)]) T.ok Tryz.func30 rfl rfl rfl rfl ?_
  have H := Hp.start (S := (· = pr)) (rq_ok h) (fun k hk => hk)
  clear h
  refine Sq.mk ?_
  ((conv => whnf); refine Al.hp H ?_; clear H; intro p2 _ H _)
  repeat' ((conv => whnf); first | (((with_reducible show Gd ..); first | (with_reducible first | refine Gd.t ?_ | refine Gd.f ?_ | (first | apply Gd.dec | apply Gd.beq | apply Gd.bne) <;> intro _ | refine Gd.not ?_) | refine Gd.t ?_ | refine Gd.f ?_ | apply Gd.var <;> intro _) <;> try (exfalso; omega)) | with_reducible refine Sq.mk ?_ | ((with_reducible show Ld1 ..); first | refine Ld1.h H ?_ | refine Ld1.rF ?_ | refine Ld1.r ?_) | ((with_reducible show Ld ..); first | refine Ld.h H ?_ | refine Ld.r ?_) | ((with_reducible show Ix ..); first | refine Ix.h ?_ | refine Ix.ha ?_) | (refine St.h H ?_; clear H; intro _ H))
  ((conv => whnf); refine Cl.mk (take_r X k_fn s _ (H.base2 HB) (H.atC 1 rfl) hts) ?_)
  rintro _ w3 ⟨rfl, H'⟩
  rw [takeR_doom ha.at_ (by decide) (by decide)] at H'
  replace H := H.upd (c := rq ws A cw pr s) H' rfl (.inl rfl)
  clear H'
  have hD : Doom e p ⟨s.ts, some (e, p)⟩ := .inl rfl
  have haD : AtR (.err e p : Res Unit) ⟨s.ts, some (e, p)⟩ := ⟨ha.ends, hD⟩
  repeat' ((conv => whnf); first | (((with_reducible show Gd ..); first | (with_reducible first | refine Gd.t ?_ | refine Gd.f ?_ | (first | apply Gd.dec | apply Gd.beq | apply Gd.bne) <;> intro _ | refine Gd.not ?_) | refine Gd.t ?_ | refine Gd.f ?_ | apply Gd.var <;> intro _) <;> try (exfalso; omega)) | with_reducible refine Sq.mk ?_ | ((with_reducible show Ld1 ..); first | refine Ld1.h H ?_ | refine Ld1.rF ?_ | refine Ld1.r ?_) | ((with_reducible show Ld ..); first | refine Ld.h H ?_ | refine Ld.r ?_) | ((with_reducible show Ix ..); first | refine Ix.h ?_ | refine Ix.ha ?_) | (refine St.h H ?_; clear H; intro _ H))
  ((conv => whnf); refine Cl.mk (take_r X k_name ⟨s.ts, some (e, p)⟩ _ (H.base2 HB) (H.atC 1 rfl) hts) ?_)
  rintro _ w3 ⟨rfl, H'⟩
  rw [takeR_doom hD (by decide) (by decide)] at H'
  replace H := H.upd (c := rq ws A cw pr ⟨s.ts, some (e, p)⟩) H' rfl (.inl rfl)
  clear H'
  ((conv => whnf); refine Al.hp H ?_; clear H; intro p3 _ H _)
  repeat' ((conv => whnf); first | (((with_reducible show Gd ..); first | (with_reducible first | refine Gd.t ?_ | refine Gd.f ?_ | (first | apply Gd.dec | apply Gd.beq | apply Gd.bne) <;> intro _ | refine Gd.not ?_) | refine Gd.t ?_ | refine Gd.f ?_ | apply Gd.var <;> intro _) <;> try (exfalso; omega)) | with_reducible refine Sq.mk ?_ | ((with_reducible show Ld1 ..); first | refine Ld1.h H ?_ | refine Ld1.rF ?_ | refine Ld1.r ?_) | ((with_reducible show Ld ..); first | refine Ld.h H ?_ | refine Ld.r ?_) | ((with_reducible show Ix ..); first | refine Ix.h ?_ | refine Ix.ha ?_) | (refine St.h H ?_; clear H; intro _ H))
  ((conv => whnf); refine Al.hp H ?_; clear H; intro p4 _ H _)
  repeat' ((conv => whnf); first | (((with_reducible show Gd ..); first | (with_reducible first | refine Gd.t ?_ | refine Gd.f ?_ | (first | apply Gd.dec | apply Gd.beq | apply Gd.bne) <;> intro _ | refine Gd.not ?_) | refine Gd.t ?_ | refine Gd.f ?_ | apply Gd.var <;> intro _) <;> try (exfalso; omega)) | with_reducible refine Sq.mk ?_ | ((with_reducible show Ld1 ..); first | refine Ld1.h H ?_ | refine Ld1.rF ?_ | refine Ld1.r ?_) | ((with_reducible show Ld ..); first | refine Ld.h H ?_ | refine Ld.r ?_) | ((with_reducible show Ix ..); first | refine Ix.h ?_ | refine Ix.ha ?_) | (refine St.h H ?_; clear H; intro _ H))
  ((conv => whnf); refine Cl.mk (take_r X s_lp ⟨s.ts, some (e, p)⟩ _ (H.base2 HB) (H.atC 3 rfl) hts) ?_)
  rintro _ w3 ⟨rfl, H'⟩
  rw [takeR_doom hD (by decide) (by decide)] at H'
  replace H := H.upd (c := rq ws A cw pr ⟨s.ts, some (e, p)⟩) H' rfl (.inl rfl)
  clear H'
  repeat' ((conv => whnf); first | (((with_reducible show Gd ..); first | (with_reducible first | refine Gd.t ?_ | refine Gd.f ?_ | (first | apply Gd.dec | apply Gd.beq | apply Gd.bne) <;> intro _ | refine Gd.not ?_) | refine Gd.t ?_ | refine Gd.f ?_ | apply Gd.var <;> intro _) <;> try (exfalso; omega)) | with_reducible refine Sq.mk ?_ | ((with_reducible show Ld1 ..); first | refine Ld1.h H ?_ | refine Ld1.rF ?_ | refine Ld1.r ?_) | ((with_reducible show Ld ..); first | refine Ld.h H ?_ | refine Ld.r ?_) | ((with_reducible show Ix ..); first | refine Ix.h ?_ | refine Ix.ha ?_) | (refine St.h H ?_; clear H; intro _ H))
  (((conv => whnf); refine Cl.mk (is_r X k_name ⟨s.ts, some (e, p)⟩ _ (H.base2 HB) (H.atC 3 rfl) hts) ?_); rintro _ _ ⟨rfl, hx⟩; replace H := H.ext hx; clear hx)
  rw [is_err haD (by decide) (by decide)]
  repeat' ((conv => whnf); first | (((with_reducible show Gd ..); first | (with_reducible first | refine Gd.t ?_ | refine Gd.f ?_ | (first | apply Gd.dec | apply Gd.beq | apply Gd.bne) <;> intro _ | refine Gd.not ?_) | refine Gd.t ?_ | refine Gd.f ?_ | apply Gd.var <;> intro _) <;> try (exfalso; omega)) | with_reducible refine Sq.mk ?_ | ((with_reducible show Ld1 ..); first | refine Ld1.h H ?_ | refine Ld1.rF ?_ | refine Ld1.r ?_) | ((with_reducible show Ld ..); first | refine Ld.h H ?_ | refine Ld.r ?_) | ((with_reducible show Ix ..); first | refine Ix.h ?_ | refine Ix.ha ?_) | (refine St.h H ?_; clear H; intro _ H))
  ((conv => whnf); refine Cl.mk (take_r X s_rp ⟨s.ts, some (e, p)⟩ _ (H.base2 HB) (H.atC 3 rfl) hts) ?_)
  rintro _ w3 ⟨rfl, H'⟩
  rw [takeR_doom hD (by decide) (by decide)] at H'
  replace H := H.upd (c := rq ws A cw pr ⟨s.ts, some (e, p)⟩) H' rfl (.inl rfl)
  clear H'
  repeat' ((conv => whnf); first | (((with_reducible show Gd ..); first | (with_reducible first | refine Gd.t ?_ | refine Gd.f ?_ | (first | apply Gd.dec | apply Gd.beq | apply Gd.bne) <;> intro _ | refine Gd.not ?_) | refine Gd.t ?_ | refine Gd.f ?_ | apply Gd.var <;> intro _) <;> try (exfalso; omega)) | with_reducible refine Sq.mk ?_ | ((with_reducible show Ld1 ..); first | refine Ld1.h H ?_ | refine Ld1.rF ?_ | refine Ld1.r ?_) | ((with_reducible show Ld ..); first | refine Ld.h H ?_ | refine Ld.r ?_) | ((with_reducible show Ix ..); first | refine Ix.h ?_ | refine Ix.ha ?_) | (refine St.h H ?_; clear H; intro _ H))
  ((conv => whnf); refine Cl.mk (blockD Y 1 ⟨s.ts, some (e, p)⟩ _ (H.base2 HB) (H.atC 3 rfl) haD) ?_)
  rintro _ w3 ⟨B, c, l, rfl, H'⟩
  replace H := H.updn (c := rq ws A cw pr ⟨s.ts, some (e, p)⟩) (Hp.swap H') rfl (.inl rfl) (.inl rfl)
  clear H'
  repeat' ((conv => whnf); first | (((with_reducible show Gd ..); first | (with_reducible first | refine Gd.t ?_ | refine Gd.f ?_ | (first | apply Gd.dec | apply Gd.beq | apply Gd.bne) <;> intro _ | refine Gd.not ?_) | refine Gd.t ?_ | refine Gd.f ?_ | apply Gd.var <;> intro _) <;> try (exfalso; omega)) | with_reducible refine Sq.mk ?_ | ((with_reducible show Ld1 ..); first | refine Ld1.h H ?_ | refine Ld1.rF ?_ | refine Ld1.r ?_) | ((with_reducible show Ld ..); first | refine Ld.h H ?_ | refine Ld.r ?_) | ((with_reducible show Ix ..); first | refine Ix.h ?_ | refine Ix.ha ?_) | (refine St.h H ?_; clear H; intro _ H))
  replace H := Hp.nil H strE 1 9
  exact ⟨⟨[], none, 0, [], B, c, l⟩, fm_v rfl, Hp.fnsN [] (H.sel [0, 0, 3] rfl)⟩
variable {F : PF} (C : RCon src ws A cw pr wb F)
include C
set_option maxHeartbeats 8000000 in
theorem function_r {α : Type} (R0 : Res α) (s : RS) (w : World) (hwb : Ext wb w) (h : RdQ ws A cw pr s w) (ha : AtR R0 s) (hne : (R0.and fun _ ts => functionP F ts) ≠ .out) :
    Cl Tryz.prog 30 #[.pointer (some ⟨pr, 0, none⟩)] w (OkRF ws A cw pr Prod.snd (R0.and fun _ ts => functionP F ts) w) (fun _ _ => False) := by
  have X := Y.x
  have HB := X.ok hwb
  obtain ⟨R, hR⟩ : ∃ R, R = R0.and fun _ ts => functionP F ts := ⟨_, rfl⟩
  rw [← hR] at hne ⊢
  refine calls_ex (args := [.pointer (some ⟨pr, 0, none⟩)]) T.ok Tryz.func30 rfl rfl rfl rfl ?_
  have H := Hp.start (S := (· = pr)) (rq_ok h) (fun k hk => hk)
  clear h
  refine Sq.mk ?_
  ((conv => whnf); refine Al.hp H ?_; clear H; intro p2 _ H _)
  repeat' ((conv => whnf); first | (((with_reducible show Gd ..); first | (with_reducible first | refine Gd.t ?_ | refine Gd.f ?_ | (first | apply Gd.dec | apply Gd.beq | apply Gd.bne) <;> intro _ | refine Gd.not ?_) | refine Gd.t ?_ | refine Gd.f ?_ | apply Gd.var <;> intro _) <;> try (exfalso; omega)) | with_reducible refine Sq.mk ?_ | ((with_reducible show Ld1 ..); first | refine Ld1.h H ?_ | refine Ld1.rF ?_ | refine Ld1.r ?_) | ((with_reducible show Ld ..); first | refine Ld.h H ?_ | refine Ld.r ?_) | ((with_reducible show Ix ..); first | refine Ix.h ?_ | refine Ix.ha ?_) | (refine St.h H ?_; clear H; intro _ H))
  (((conv => whnf); refine Cl.mk (takeRR Y C k_fn (R0) s _ (H.base2 HB) (H.atC 1 rfl) ha (by decide) (by decide) (by decide)) ?_); rintro _ w3 ⟨kd_, pp_, tx0, ee_, s1, rfl, ha1, hv1, H'⟩; replace H := H.upd (c := rq ws A cw pr s) H' rfl (.inl rfl); clear H')
  repeat' ((conv => whnf); first | (((with_reducible show Gd ..); first | (with_reducible first | refine Gd.t ?_ | refine Gd.f ?_ | (first | apply Gd.dec | apply Gd.beq | apply Gd.bne) <;> intro _ | refine Gd.not ?_) | refine Gd.t ?_ | refine Gd.f ?_ | apply Gd.var <;> intro _) <;> try (exfalso; omega)) | with_reducible refine Sq.mk ?_ | ((with_reducible show Ld1 ..); first | refine Ld1.h H ?_ | refine Ld1.rF ?_ | refine Ld1.r ?_) | ((with_reducible show Ld ..); first | refine Ld.h H ?_ | refine Ld.r ?_) | ((with_reducible show Ix ..); first | refine Ix.h ?_ | refine Ix.ha ?_) | (refine St.h H ?_; clear H; intro _ H))
  (((conv => whnf); refine Cl.mk (takeRR Y C k_name (R0.and fun _ ts => takeP k_fn ts) s1 _ (H.base2 HB) (H.atC 1 rfl) ha1 (by decide) (by decide) (by decide)) ?_); rintro _ w3 ⟨kd_, pp_, tx1, ee_, s2, rfl, ha2, hv2, H'⟩; replace H := H.upd (c := rq ws A cw pr s1) H' rfl (.inl rfl); clear H')
  ((conv => whnf); refine Al.hp H ?_; clear H; intro p3 _ H _)
  repeat' ((conv => whnf); first | (((with_reducible show Gd ..); first | (with_reducible first | refine Gd.t ?_ | refine Gd.f ?_ | (first | apply Gd.dec | apply Gd.beq | apply Gd.bne) <;> intro _ | refine Gd.not ?_) | refine Gd.t ?_ | refine Gd.f ?_ | apply Gd.var <;> intro _) <;> try (exfalso; omega)) | with_reducible refine Sq.mk ?_ | ((with_reducible show Ld1 ..); first | refine Ld1.h H ?_ | refine Ld1.rF ?_ | refine Ld1.r ?_) | ((with_reducible show Ld ..); first | refine Ld.h H ?_ | refine Ld.r ?_) | ((with_reducible show Ix ..); first | refine Ix.h ?_ | refine Ix.ha ?_) | (refine St.h H ?_; clear H; intro _ H))
  ((conv => whnf); refine Al.hp H ?_; clear H; intro p4 _ H _)
  repeat' ((conv => whnf); first | (((with_reducible show Gd ..); first | (with_reducible first | refine Gd.t ?_ | refine Gd.f ?_ | (first | apply Gd.dec | apply Gd.beq | apply Gd.bne) <;> intro _ | refine Gd.not ?_) | refine Gd.t ?_ | refine Gd.f ?_ | apply Gd.var <;> intro _) <;> try (exfalso; omega)) | with_reducible refine Sq.mk ?_ | ((with_reducible show Ld1 ..); first | refine Ld1.h H ?_ | refine Ld1.rF ?_ | refine Ld1.r ?_) | ((with_reducible show Ld ..); first | refine Ld.h H ?_ | refine Ld.r ?_) | ((with_reducible show Ix ..); first | refine Ix.h ?_ | refine Ix.ha ?_) | (refine St.h H ?_; clear H; intro _ H))
  (((conv => whnf); refine Cl.mk (takeRR Y C s_lp ((R0.and fun _ ts => takeP k_fn ts).and fun _ ts => takeP k_name ts) s2 _ (H.base2 HB) (H.atC 3 rfl) ha2 (by decide) (by decide) (by decide)) ?_); rintro _ w3 ⟨kd_, pp_, tx2, ee_, s3, rfl, ha3, hv3, H'⟩; replace H := H.upd (c := rq ws A cw pr s2) H' rfl (.inl rfl); clear H')
  replace hR : R = (((R0.and fun _ ts => takeP k_fn ts).and fun _ ts => takeP k_name ts).and fun _ ts => takeP s_lp ts).bind fun q ts3 => (loopN (ts3.length + 1) [] ts3).bind fun ps ts4 => (takeP s_rp ts4).bind fun _ ts5 => (F.block 1 ts5).bind fun b ts6 => .ok (q.1.1.1, ⟨q.1.2.text, ps, b⟩) ts6 := by
    rw [hR]
    simp only [Res.and_bind]
    cases R0 with
    | out => rfl
    | err e p => rfl
    | ok a ts =>
      show ((functionP F ts).bind _) = _
      unfold functionP
      simp only [Res.bind_assoc]
      rfl
  have hvn := Vl.fst (f := fun _ ts => takeP s_lp ts) hv2
  have hsm3 := RdQ.small X (H.atC (c := rq ws A cw pr s3) 3 rfl)
  clear hv1 hv2 hv3 ha1 ha2 ha
  generalize (((R0.and fun _ ts => takeP k_fn ts).and fun _ ts => takeP k_name ts).and fun _ ts => takeP s_lp ts) = R3 at ha3 hvn hR
  replace H := Hp.nil H strE 1 9
  (have hfix : ∀ Γ w', Hp (· = pr) w w' (qu strE 1 9 none 0 ([] : List Bs) :: bk p4 34 [.string (bs tx1), .slice none (([] : List Bs)).length 0, .slice none 0 0] :: Γ) → Hp (· = pr) w w' (qu strE 1 9 none 0 ([] : List Bs) :: bk p4 34 [.string (bs tx1), .slice none (([] : List Bs)).length 0, .slice none 0 0] :: Γ) := fun _ _ h => h)
  replace H := hfix _ _ H
  clear hfix
  repeat' ((conv => whnf); first | (((with_reducible show Gd ..); first | (with_reducible first | refine Gd.t ?_ | refine Gd.f ?_ | (first | apply Gd.dec | apply Gd.beq | apply Gd.bne) <;> intro _ | refine Gd.not ?_) | refine Gd.t ?_ | refine Gd.f ?_ | apply Gd.var <;> intro _) <;> try (exfalso; omega)) | with_reducible refine Sq.mk ?_ | ((with_reducible show Ld1 ..); first | refine Ld1.h H ?_ | refine Ld1.rF ?_ | refine Ld1.r ?_) | ((with_reducible show Ld ..); first | refine Ld.h H ?_ | refine Ld.r ?_) | ((with_reducible show Ix ..); first | refine Ix.h ?_ | refine Ix.ha ?_) | (refine St.h H ?_; clear H; intro _ H))
  (((conv => whnf); refine Cl.mk (is_r X k_name s3 _ (H.base2 HB) (H.atC 4 rfl) (ends_ne ha3.ends)) ?_); rintro _ _ ⟨rfl, hx⟩; replace H := H.ext hx; clear hx)
  by_cases hkn : isR k_name s3 = true
  case neg =>
    rw [Bool.eq_false_iff.2 hkn]
    have ha := ha3
    have hexit : R = ((R3.and fun _ ts => takeP s_rp ts).and fun _ ts => F.block 1 ts).map (fun p => (p.1.1.1.1.1, ⟨p.1.1.1.2.text, [], p.2⟩)) := by
      rw [hR, Res.map]
      simp only [Res.and_bind]
      cases R3 with
      | out => rfl
      | err e p => rfl
      | ok q ts3 =>
        rw [is_ok ha3] at hkn
        have hk : ¬ curK ts3 = k_name := by simpa using hkn
        show (loopN (ts3.length + 1) [] ts3).bind _ = (takeP s_rp ts3).bind _
        unfold loopN
        by_cases hrp : curK ts3 = s_rp
        · rw [if_pos hrp]; rfl
        · rw [if_neg hrp, if_neg (by simp)]
          show ((takeP k_name ts3).bind _).bind _ = _
          rw [take_no hk, take_no hrp]; rfl
    ((repeat' ((conv => whnf); first | (((with_reducible show Gd ..); first | (with_reducible first | refine Gd.t ?_ | refine Gd.f ?_ | (first | apply Gd.dec | apply Gd.beq | apply Gd.bne) <;> intro _ | refine Gd.not ?_) | refine Gd.t ?_ | refine Gd.f ?_ | apply Gd.var <;> intro _) <;> try (exfalso; omega)) | with_reducible refine Sq.mk ?_ | ((with_reducible show Ld1 ..); first | refine Ld1.h H ?_ | refine Ld1.rF ?_ | refine Ld1.r ?_) | ((with_reducible show Ld ..); first | refine Ld.h H ?_ | refine Ld.r ?_) | ((with_reducible show Ix ..); first | refine Ix.h ?_ | refine Ix.ha ?_) | (refine St.h H ?_; clear H; intro _ H))); (((conv => whnf); refine Cl.mk (takeRR Y C s_rp (R3) s3 _ (H.base2 HB) (H.atC 4 rfl) ha (by decide) (by decide) (by decide)) ?_); rintro _ w3 ⟨kd_, pp_, tx9, ee_, s6, rfl, ha6, hv6, H'⟩; replace H := H.upd (c := rq ws A cw pr s3) H' rfl (.inl rfl); clear H'); (repeat' ((conv => whnf); first | (((with_reducible show Gd ..); first | (with_reducible first | refine Gd.t ?_ | refine Gd.f ?_ | (first | apply Gd.dec | apply Gd.beq | apply Gd.bne) <;> intro _ | refine Gd.not ?_) | refine Gd.t ?_ | refine Gd.f ?_ | apply Gd.var <;> intro _) <;> try (exfalso; omega)) | with_reducible refine Sq.mk ?_ | ((with_reducible show Ld1 ..); first | refine Ld1.h H ?_ | refine Ld1.rF ?_ | refine Ld1.r ?_) | ((with_reducible show Ld ..); first | refine Ld.h H ?_ | refine Ld.r ?_) | ((with_reducible show Ix ..); first | refine Ix.h ?_ | refine Ix.ha ?_) | (refine St.h H ?_; clear H; intro _ H))); ((conv => whnf); refine Cl.mk (blockR Y C ((R3).and fun _ ts => takeP s_rp ts) 1 s6 _ (by omega) (H.base2 HB) (H.atC 4 rfl) ha6 (Res.map_out (g := (fun p => (p.1.1.1.1.1, (⟨p.1.1.1.2.text, [], p.2⟩ : Fnc)))) (by rw [← hexit]; exact hne))) ?_); rintro _ w9 ⟨B, cB, b, s7, rfl, ha7, hv7, H'⟩; replace H := H.updn (c := rq ws A cw pr s6) (Hp.swap H') rfl (.inl rfl) (.inl rfl); clear H'; (repeat' ((conv => whnf); first | (((with_reducible show Gd ..); first | (with_reducible first | refine Gd.t ?_ | refine Gd.f ?_ | (first | apply Gd.dec | apply Gd.beq | apply Gd.bne) <;> intro _ | refine Gd.not ?_) | refine Gd.t ?_ | refine Gd.f ?_ | apply Gd.var <;> intro _) <;> try (exfalso; omega)) | with_reducible refine Sq.mk ?_ | ((with_reducible show Ld1 ..); first | refine Ld1.h H ?_ | refine Ld1.rF ?_ | refine Ld1.r ?_) | ((with_reducible show Ld ..); first | refine Ld.h H ?_ | refine Ld.r ?_) | ((with_reducible show Ix ..); first | refine Ix.h ?_ | refine Ix.ha ?_) | (refine St.h H ?_; clear H; intro _ H))); refine ⟨⟨tx1, none, 0, ([] : List Bs), B, cB, b⟩, s7, fm_v rfl, by rw [hexit]; exact ha7.map _, ?_, Hp.fnsN tx1 (H.sel [1, 0, 3] rfl)⟩; rw [hexit]; refine Vl.map (Vl.mono2 hv7 (Vl.fst (Vl.fst hvn)) fun a h1 h2 => by simp only [FM.e]; rw [h1, h2]))
  rw [hkn]
  obtain ⟨q, ts3, rfl⟩ : ∃ a ts, R3 = .ok a ts := by
    cases R3 with
    | out => exact absurd hR hne
    | err e p => rw [is_err ha3 (by decide) (by decide)] at hkn; cases hkn
    | ok a ts => exact ⟨a, ts, rfl⟩
  obtain ⟨rfl, hg3⟩ := ha3.gd
  rw [is_ok ha3] at hkn
  have hk3 : curK ts3 = k_name := by simpa using hkn
  have hnm : tx1 = q.1.2.text := hvn q ts3 rfl
  have hR2 : R = (((.ok q ts3 : Res (((α × Tk) × Tk) × Tk)).and fun _ ts => takeP k_name ts).map (fun p => [p.2.text])).bind fun ps ts => (namesR ts3.length ps ts).bind fun ps ts5 => (F.block 1 ts5).bind fun b ts6 => .ok (q.1.1.1, ⟨q.1.2.text, ps, b⟩) ts6 := by
    rw [hR, Res.map_bind, Res.and_bind]
    show (loopN (ts3.length + 1) [] ts3).bind _ = (takeP k_name ts3).bind _
    unfold loopN
    rw [if_neg (by rw [hk3]; decide), if_neg (by simp)]
    show ((takeP k_name ts3).bind _).bind _ = _
    rw [Res.bind_assoc]
    congr 1
    funext t ts4
    rw [List.nil_append, ← names_R ts3.length [t.text] ts4 (by simp), Res.bind_assoc]
    congr 1
    funext ps ts5
    rw [Res.bind_assoc]; rfl
  simp only at hsm3
  repeat' ((conv => whnf); first | (((with_reducible show Gd ..); first | (with_reducible first | refine Gd.t ?_ | refine Gd.f ?_ | (first | apply Gd.dec | apply Gd.beq | apply Gd.bne) <;> intro _ | refine Gd.not ?_) | refine Gd.t ?_ | refine Gd.f ?_ | apply Gd.var <;> intro _) <;> try (exfalso; omega)) | with_reducible refine Sq.mk ?_ | ((with_reducible show Ld1 ..); first | refine Ld1.h H ?_ | refine Ld1.rF ?_ | refine Ld1.r ?_) | ((with_reducible show Ld ..); first | refine Ld.h H ?_ | refine Ld.r ?_) | ((with_reducible show Ix ..); first | refine Ix.h ?_ | refine Ix.ha ?_) | (refine St.h H ?_; clear H; intro _ H))
  (((conv => whnf); refine Cl.mk (takeRR Y C k_name ((.ok q ts3 : Res (((α × Tk) × Tk) × Tk))) ⟨ts3, none⟩ _ (H.base2 HB) (H.atC 4 rfl) ha3 (by decide) (by decide) (by decide)) ?_); rintro _ w3 ⟨kd_, pp_, tx4, ee_, s4, rfl, ha4, hv4, H'⟩; replace H := H.upd (c := rq ws A cw pr ⟨ts3, none⟩) H' rfl (.inl rfl); clear H')
  ((conv => whnf); refine Al.hp H ?_; clear H; intro p5 _ H _)
  repeat' ((conv => whnf); first | (((with_reducible show Gd ..); first | (with_reducible first | refine Gd.t ?_ | refine Gd.f ?_ | (first | apply Gd.dec | apply Gd.beq | apply Gd.bne) <;> intro _ | refine Gd.not ?_) | refine Gd.t ?_ | refine Gd.f ?_ | apply Gd.var <;> intro _) <;> try (exfalso; omega)) | with_reducible refine Sq.mk ?_ | ((with_reducible show Ld1 ..); first | refine Ld1.h H ?_ | refine Ld1.rF ?_ | refine Ld1.r ?_) | ((with_reducible show Ld ..); first | refine Ld.h H ?_ | refine Ld.r ?_) | ((with_reducible show Ix ..); first | refine Ix.h ?_ | refine Ix.ha ?_) | (refine St.h H ?_; clear H; intro _ H))
  refine Sm.lith (cs := strE tx4) H T.ok (fun p6 w6 H _ => ?_)
  refine Sm.ap1 (enc := strE) tx4 H T.ok ?_ ?_ (fun A' c' w7 H => ?_)
  · show (0 + 1) * 16 ≤ _; omega
  · show 0 + 1 ≤ _; omega
  simp only [List.cons_append, List.nil_append] at H
  repeat' ((conv => whnf); first | (((with_reducible show Gd ..); first | (with_reducible first | refine Gd.t ?_ | refine Gd.f ?_ | (first | apply Gd.dec | apply Gd.beq | apply Gd.bne) <;> intro _ | refine Gd.not ?_) | refine Gd.t ?_ | refine Gd.f ?_ | apply Gd.var <;> intro _) <;> try (exfalso; omega)) | with_reducible refine Sq.mk ?_ | ((with_reducible show Ld1 ..); first | refine Ld1.h H ?_ | refine Ld1.rF ?_ | refine Ld1.r ?_) | ((with_reducible show Ld ..); first | refine Ld.h H ?_ | refine Ld.r ?_) | ((with_reducible show Ix ..); first | refine Ix.h ?_ | refine Ix.ha ?_) | (refine St.h H ?_; clear H; intro _ H))
  replace H := H.sel [0, 0, 0, 1, 1] rfl
  have hL : ∀ (P : Option Addr) (cp : Nat) (ps : List Bs) (k1 : Bs) (i1 : Int) (x1 : Bs) (e1 : Int) (s : RS) (w' : World), Hp (· = pr) w w' [bk p5 99 [.string (bs k1), .int .i64 i1, .string (bs x1), .int .i64 e1], qu strE 1 9 P cp ps, bk p4 34 [.string (bs tx1), .slice P ps.length cp, .slice none 0 0], bk p2 34 T.t34.zero.cells.toList, rq ws A cw pr s] → Hp (· = pr) w w' [bk p5 99 [.string (bs k1), .int .i64 i1, .string (bs x1), .int .i64 e1], qu strE 1 9 P cp ps, bk p4 34 [.string (bs tx1), .slice P ps.length cp, .slice none 0 0], bk p2 34 T.t34.zero.cells.toList, rq ws A cw pr s] := fun _ _ _ _ _ _ _ _ _ h => h
  replace H := hL A' c' [tx4] _ _ _ _ s4 _ H
  refine Lp.g0 T.ok (σ := Res (List Bs) × Nat × Option Addr × Nat × List Bs × (Bs × Int × Bs × Int) × RS) (fun q => [(5, .pointer (some ⟨p5, 0, none⟩)), (4, .pointer (some ⟨p4, 0, none⟩)), (2, .pointer (some ⟨p2, 0, none⟩)), (0, .pointer (some ⟨pr, 0, none⟩))])
    (fun z w' => R = z.1.bind (fun ps ts => (namesR z.2.1 ps ts).bind fun ps ts5 => (F.block 1 ts5).bind fun b ts6 => .ok (q.1.1.1, ⟨q.1.2.text, ps, b⟩) ts6) ∧ AtR z.1 z.2.2.2.2.2.2 ∧ Vl z.1 (fun a => z.2.2.2.2.1 = a) ∧ z.2.1 + z.2.2.2.2.1.length ≤ 20002 ∧ Hp (· = pr) w w' [bk p5 99 [.string (bs z.2.2.2.2.2.1.1), .int .i64 z.2.2.2.2.2.1.2.1, .string (bs z.2.2.2.2.2.1.2.2.1), .int .i64 z.2.2.2.2.2.1.2.2.2], qu strE 1 9 z.2.2.1 z.2.2.2.1 z.2.2.2.2.1, bk p4 34 [.string (bs tx1), .slice z.2.2.1 z.2.2.2.2.1.length z.2.2.2.1, .slice none 0 0], bk p2 34 T.t34.zero.cells.toList, rq ws A cw pr z.2.2.2.2.2.2]) (fun z _ => z.2.1)
    (((.ok q ts3 : Res (((α × Tk) × Tk) × Tk)).and fun _ ts => takeP k_name ts).map (fun p => [p.2.text]), ts3.length, A', c', [tx4], (kd_, pp_, tx4, ee_), s4) rfl ⟨rfl, rfl, rfl, rfl, trivial⟩ ⟨hR2, ha4.map _, Vl.map (hv4.mono fun p h => by rw [h]), by simp only [List.length_cons, List.length_nil]; omega, H⟩ ?_
  clear H hR hR2 ha3 ha4 hv4 hvn hL hg3
  rintro ⟨Rc, n, P, cp, ps, ⟨k1, i1, x1, e1⟩, s⟩ w5 ⟨hR, ha, hv, hn, H⟩
  simp only at hR ha hv hn H ⊢
  repeat' ((conv => whnf); first | (((with_reducible show Gd ..); first | (with_reducible first | refine Gd.t ?_ | refine Gd.f ?_ | (first | apply Gd.dec | apply Gd.beq | apply Gd.bne) <;> intro _ | refine Gd.not ?_) | refine Gd.t ?_ | refine Gd.f ?_ | apply Gd.var <;> intro _) <;> try (exfalso; omega)) | with_reducible refine Sq.mk ?_ | ((with_reducible show Ld1 ..); first | refine Ld1.h H ?_ | refine Ld1.rF ?_ | refine Ld1.r ?_) | ((with_reducible show Ld ..); first | refine Ld.h H ?_ | refine Ld.r ?_) | ((with_reducible show Ix ..); first | refine Ix.h ?_ | refine Ix.ha ?_) | (refine St.h H ?_; clear H; intro _ H))
  (((conv => whnf); refine Cl.mk (is_r X s_comma s _ (H.base2 HB) (H.atC 4 rfl) (ends_ne ha.ends)) ?_); rintro _ _ ⟨rfl, hx⟩; replace H := H.ext hx; clear hx)
  by_cases hcm : isR s_comma s = true
  · rw [hcm]
    obtain ⟨a, ts, rfl⟩ : ∃ a ts, Rc = .ok a ts := by
      cases Rc with
      | out => exact absurd hR hne
      | err e p => rw [is_err ha (by decide) (by decide)] at hcm; cases hcm
      | ok a ts => exact ⟨a, ts, rfl⟩
    obtain ⟨rfl, hg⟩ := ha.gd
    rw [is_ok ha] at hcm
    have hk : curK ts = s_comma := by simpa using hcm
    have hst := step_at hg.ends hg.ok (by rw [hk]; decide)
    obtain ⟨t0, r0, rfl⟩ : ∃ t0 r0, ts = t0 :: r0 := by
      cases ts with
      | nil => exact absurd rfl (ends_ne ha.ends)
      | cons t0 r0 => exact ⟨t0, r0, rfl⟩
    cases n with
    | zero => exact absurd hR hne
    | succ n =>
    replace hR : R = (((stepP false (t0 :: r0)).and fun _ ts => takeP k_name ts).map (fun p => a ++ [p.2.text])).bind fun ps ts => (namesR n ps ts).bind fun ps ts5 => (F.block 1 ts5).bind fun b ts6 => .ok (q.1.1.1, ⟨q.1.2.text, ps, b⟩) ts6 := by
      rw [hR, Res.map_bind, Res.and_bind]
      show ((namesR (n + 1) a (t0 :: r0)).bind _) = _
      rw [namesR_s, if_pos hk, Res.bind_assoc]
      congr 1
      funext _ ts1
      rw [Res.bind_assoc]
    repeat' ((conv => whnf); first | (((with_reducible show Gd ..); first | (with_reducible first | refine Gd.t ?_ | refine Gd.f ?_ | (first | apply Gd.dec | apply Gd.beq | apply Gd.bne) <;> intro _ | refine Gd.not ?_) | refine Gd.t ?_ | refine Gd.f ?_ | apply Gd.var <;> intro _) <;> try (exfalso; omega)) | with_reducible refine Sq.mk ?_ | ((with_reducible show Ld1 ..); first | refine Ld1.h H ?_ | refine Ld1.rF ?_ | refine Ld1.r ?_) | ((with_reducible show Ld ..); first | refine Ld.h H ?_ | refine Ld.r ?_) | ((with_reducible show Ix ..); first | refine Ix.h ?_ | refine Ix.ha ?_) | (refine St.h H ?_; clear H; intro _ H))
    (obtain ⟨j, hj1, hj2, hb0⟩ := H.atC (c := rq ws A cw pr (⟨t0 :: r0, none⟩)) 4 rfl; have hjl := X.lt hj1 (by first | exact List.cons_ne_nil _ _ | assumption); replace H := Hp.ofQ H hb0; clear hb0)
    repeat' ((conv => whnf); first | (((with_reducible show Gd ..); first | (with_reducible first | refine Gd.t ?_ | refine Gd.f ?_ | (first | apply Gd.dec | apply Gd.beq | apply Gd.bne) <;> intro _ | refine Gd.not ?_) | refine Gd.t ?_ | refine Gd.f ?_ | apply Gd.var <;> intro _) <;> try (exfalso; omega)) | with_reducible refine Sq.mk ?_ | ((with_reducible show Ld1 ..); first | refine Ld1.h H ?_ | refine Ld1.rF ?_ | refine Ld1.r ?_) | ((with_reducible show Ld ..); first | refine Ld.h H ?_ | refine Ld.r ?_) | ((with_reducible show Ix ..); first | refine Ix.h ?_ | refine Ix.ha ?_) | (refine St.h H ?_; clear H; intro _ H))
    (have hwj : IntKind.i64.wrap ((j : Int) + 1) = ((j + 1 : Nat) : Int) := w64 rfl (by omega) (by omega); rw [hwj] at H; replace H := Hp.toQ (pr := pr) (s := ⟨r0, none⟩) (k := j + 1) H (List.tail_drop.symm.trans (congrArg List.tail hj1)) (fun e p h => by cases h); clear hwj hj1 hj2 hjl)
    have hst2 : AtR (stepP false (t0 :: r0)) ⟨r0, none⟩ := hst
    (((conv => whnf); refine Cl.mk (takeRR Y C k_name (stepP false (t0 :: r0)) ⟨r0, none⟩ _ (H.base2 HB) (H.atC 4 rfl) hst2 (by decide) (by decide) (by decide)) ?_); rintro _ w3 ⟨kd_, pp_, tx6, ee_, s6, rfl, ha6, hv6, H'⟩; replace H := H.upd (c := rq ws A cw pr ⟨r0, none⟩) H' rfl (.inl rfl); clear H')
    repeat' ((conv => whnf); first | (((with_reducible show Gd ..); first | (with_reducible first | refine Gd.t ?_ | refine Gd.f ?_ | (first | apply Gd.dec | apply Gd.beq | apply Gd.bne) <;> intro _ | refine Gd.not ?_) | refine Gd.t ?_ | refine Gd.f ?_ | apply Gd.var <;> intro _) <;> try (exfalso; omega)) | with_reducible refine Sq.mk ?_ | ((with_reducible show Ld1 ..); first | refine Ld1.h H ?_ | refine Ld1.rF ?_ | refine Ld1.r ?_) | ((with_reducible show Ld ..); first | refine Ld.h H ?_ | refine Ld.r ?_) | ((with_reducible show Ix ..); first | refine Ix.h ?_ | refine Ix.ha ?_) | (refine St.h H ?_; clear H; intro _ H))
    refine Sm.lith (cs := strE tx6) H T.ok (fun p6 w6 H _ => ?_)
    refine Sm.ap1 (enc := strE) tx6 H T.ok ?_ ?_ (fun A' c' w7 H => ?_)
    · show (ps.length + 1) * 16 ≤ _; omega
    · omega
    simp only [List.cons_append, List.nil_append] at H
    repeat' ((conv => whnf); first | (((with_reducible show Gd ..); first | (with_reducible first | refine Gd.t ?_ | refine Gd.f ?_ | (first | apply Gd.dec | apply Gd.beq | apply Gd.bne) <;> intro _ | refine Gd.not ?_) | refine Gd.t ?_ | refine Gd.f ?_ | apply Gd.var <;> intro _) <;> try (exfalso; omega)) | with_reducible refine Sq.mk ?_ | ((with_reducible show Ld1 ..); first | refine Ld1.h H ?_ | refine Ld1.rF ?_ | refine Ld1.r ?_) | ((with_reducible show Ld ..); first | refine Ld.h H ?_ | refine Ld.r ?_) | ((with_reducible show Ix ..); first | refine Ix.h ?_ | refine Ix.ha ?_) | (refine St.h H ?_; clear H; intro _ H))
    have hle : ps = a := hv a _ rfl
    have hlen1 : (ps ++ [tx6]).length = ps.length + 1 := by simp
    refine ⟨(((stepP false (t0 :: r0)).and fun _ ts => takeP k_name ts).map (fun p => a ++ [p.2.text]), n, A', c', ps ++ [tx6], (kd_, pp_, tx6, ee_), s6), ⟨rfl, rfl, rfl, rfl, trivial⟩, rfl, ⟨hR, ha6.map _, Vl.map (hv6.mono fun p h => by rw [hle, h]), ?_, ?_⟩, Nat.lt_succ_self n⟩
    · simp only [List.length_append, List.length_cons, List.length_nil]; omega
    · simp only [hlen1]
      exact H
  · rw [Bool.eq_false_iff.2 hcm]
    have hexit : R = ((Rc.and fun _ ts => takeP s_rp ts).and fun _ ts => F.block 1 ts).map (fun p => (q.1.1.1, ⟨q.1.2.text, p.1.1, p.2⟩)) := by
      rw [hR, Res.map]
      simp only [Res.and_bind]
      cases Rc with
      | out => exact absurd hR hne
      | err e p => rfl
      | ok a ts =>
        cases n with
        | zero => exact absurd hR hne
        | succ n =>
          rw [is_ok ha] at hcm
          have hk : ¬ curK ts = s_comma := by simpa using hcm
          show ((namesR (n + 1) a ts).bind _) = (takeP s_rp ts).bind _
          rw [namesR_s, if_neg hk, Res.bind_assoc]
          cases takeP s_rp ts <;> rfl
    ((repeat' ((conv => whnf); first | (((with_reducible show Gd ..); first | (with_reducible first | refine Gd.t ?_ | refine Gd.f ?_ | (first | apply Gd.dec | apply Gd.beq | apply Gd.bne) <;> intro _ | refine Gd.not ?_) | refine Gd.t ?_ | refine Gd.f ?_ | apply Gd.var <;> intro _) <;> try (exfalso; omega)) | with_reducible refine Sq.mk ?_ | ((with_reducible show Ld1 ..); first | refine Ld1.h H ?_ | refine Ld1.rF ?_ | refine Ld1.r ?_) | ((with_reducible show Ld ..); first | refine Ld.h H ?_ | refine Ld.r ?_) | ((with_reducible show Ix ..); first | refine Ix.h ?_ | refine Ix.ha ?_) | (refine St.h H ?_; clear H; intro _ H))); (((conv => whnf); refine Cl.mk (takeRR Y C s_rp (Rc) s _ (H.base2 HB) (H.atC 4 rfl) ha (by decide) (by decide) (by decide)) ?_); rintro _ w3 ⟨kd_, pp_, tx9, ee_, s6, rfl, ha6, hv6, H'⟩; replace H := H.upd (c := rq ws A cw pr s) H' rfl (.inl rfl); clear H'); (repeat' ((conv => whnf); first | (((with_reducible show Gd ..); first | (with_reducible first | refine Gd.t ?_ | refine Gd.f ?_ | (first | apply Gd.dec | apply Gd.beq | apply Gd.bne) <;> intro _ | refine Gd.not ?_) | refine Gd.t ?_ | refine Gd.f ?_ | apply Gd.var <;> intro _) <;> try (exfalso; omega)) | with_reducible refine Sq.mk ?_ | ((with_reducible show Ld1 ..); first | refine Ld1.h H ?_ | refine Ld1.rF ?_ | refine Ld1.r ?_) | ((with_reducible show Ld ..); first | refine Ld.h H ?_ | refine Ld.r ?_) | ((with_reducible show Ix ..); first | refine Ix.h ?_ | refine Ix.ha ?_) | (refine St.h H ?_; clear H; intro _ H))); ((conv => whnf); refine Cl.mk (blockR Y C ((Rc).and fun _ ts => takeP s_rp ts) 1 s6 _ (by omega) (H.base2 HB) (H.atC 4 rfl) ha6 (Res.map_out (g := (fun p => (q.1.1.1, (⟨q.1.2.text, p.1.1, p.2⟩ : Fnc)))) (by rw [← hexit]; exact hne))) ?_); rintro _ w9 ⟨B, cB, b, s7, rfl, ha7, hv7, H'⟩; replace H := H.updn (c := rq ws A cw pr s6) (Hp.swap H') rfl (.inl rfl) (.inl rfl); clear H'; (repeat' ((conv => whnf); first | (((with_reducible show Gd ..); first | (with_reducible first | refine Gd.t ?_ | refine Gd.f ?_ | (first | apply Gd.dec | apply Gd.beq | apply Gd.bne) <;> intro _ | refine Gd.not ?_) | refine Gd.t ?_ | refine Gd.f ?_ | apply Gd.var <;> intro _) <;> try (exfalso; omega)) | with_reducible refine Sq.mk ?_ | ((with_reducible show Ld1 ..); first | refine Ld1.h H ?_ | refine Ld1.rF ?_ | refine Ld1.r ?_) | ((with_reducible show Ld ..); first | refine Ld.h H ?_ | refine Ld.r ?_) | ((with_reducible show Ix ..); first | refine Ix.h ?_ | refine Ix.ha ?_) | (refine St.h H ?_; clear H; intro _ H))); refine ⟨⟨tx1, P, cp, ps, B, cB, b⟩, s7, fm_v rfl, by rw [hexit]; exact ha7.map _, ?_, Hp.fnsN tx1 (H.sel [2, 0, 3] rfl)⟩; rw [hexit]; refine Vl.map (Vl.mono2 hv7 (Vl.fst (Vl.fst hv)) fun a h1 h2 => by simp only [FM.e]; rw [h1, h2, hnm]))
end
end Go.Proofs.YtfnjodpehomgfaaGreatDoor
namespace Go.Proofs.YtfnjodpehomgfaaGreatDoor
open Go.RowKit Go.Extern.Stop Go.Stop Go.Extern
theorem tas_valueOf27 (t : Addr) (w : World) : (ReflectliteValue.unpack (.iface 61 (.pointer (some t)))).run Tryz.prog w
    = .ok (.agg #[.pointer (some ⟨10, 61, none⟩), .pointer (some ⟨w.heap.size, 0, none⟩), .int .u64 150]) (w.alloc (.cells #[.pointer (some t)] 61)) := by kernel_rfl
theorem tas_type27 (a : Addr) (w : World) : (ReflectliteValue.methodAny (ReflectliteValue.valueError "reflectlite.Value.Type" 0) (fun t _ _ _ => ReflectliteType.toType t) #[.agg #[.pointer (some ⟨10, 61, none⟩), .pointer (some a), .int .u64 150]]).run Tryz.prog w
    = .ok (.iface 137 (.agg #[.pointer (some ⟨10, 61, none⟩)])) w := by kernel_rfl
theorem tas_methodKind (h : Value) (w : World) : (Go.method 330 137 (.agg #[h]) "Kind").run Tryz.prog w = .ok (177, h) w := by kernel_rfl
theorem tas_kind27 (w : World) : ((ReflectliteType.abiMethod fun t => (fun a : Nat => Value.int IntKind.u8 (a : Int)) <$> Rtype.kind t) #[.pointer (some ⟨10, 61, none⟩)]).run Tryz.prog w = .ok (.int .u8 22) w := by kernel_rfl
theorem tas_kind25 (w : World) : ((ReflectliteType.abiMethod fun t => (fun a : Nat => Value.int IntKind.u8 (a : Int)) <$> Rtype.kind t) #[.pointer (some ⟨10, 56, none⟩)]).run Tryz.prog w = .ok (.int .u8 22) w := by kernel_rfl
theorem rlm (z : Sem Value) (f : TypeId → Addr → Nat → Nat → Sem Value) (v : Value) :
    ReflectliteValue.method z f #[v] = (do match ← ReflectliteValue.parts v with | none => z | some (t, a, fl) => f t a fl (fl % 32)) := rfl
theorem tas_parts27 (a : Addr) (w : World) : (ReflectliteValue.parts (.agg #[.pointer (some ⟨10, 61, none⟩), .pointer (some a), .int .u64 150])).run Tryz.prog w = .ok (some (61, a, 150)) w := by kernel_rfl
theorem tas_isNil27 (a p : Addr) (W : World) (ha : W.cell? a = some (.pointer (some p))) :
    (ReflectliteValue.method (ReflectliteValue.valueError "reflectlite.Value.IsNil" 0) ReflectliteValue.isNil #[.agg #[.pointer (some ⟨10, 61, none⟩), .pointer (some a), .int .u64 150]]).run Tryz.prog W = .ok (.bool false) W := by
  rw [rlm]
  simp only [Sem.run_bind, tas_parts27, Result.andThen]
  simp [ReflectliteValue.isNil, loadVar, isAgg, underlying, Tryz.underlying61, ha, Result.andThen]
theorem tas_methodElem (h : Value) (w : World) : (Go.method 330 137 (.agg #[h]) "Elem").run Tryz.prog w = .ok (188, .agg #[h]) w := by kernel_rfl
theorem tas_methodImplements (h : Value) (w : World) : (Go.method 330 137 (.agg #[h]) "Implements").run Tryz.prog w = .ok (189, .agg #[h]) w := by kernel_rfl
theorem tas_methodAssignableTo (h : Value) (w : World) : (Go.method 330 137 (.agg #[h]) "AssignableTo").run Tryz.prog w = .ok (186, .agg #[h]) w := by kernel_rfl
theorem tas_elem27 (w : World) : (ReflectliteType.method ReflectliteType.elem #[.agg #[.pointer (some ⟨10, 61, none⟩)]]).run Tryz.prog w = .ok (.iface 137 (.agg #[.pointer (some ⟨10, 56, none⟩)])) w := by kernel_rfl
theorem tas_implements25 (w : World) : (ReflectliteType.relation "Implements" ReflectliteType.implements_ #[.agg #[.pointer (some ⟨10, 56, none⟩)], .iface 137 (.agg #[.pointer (some ⟨10, 58, none⟩)])]).run Tryz.prog w = .ok (.bool true) w := by kernel_rfl
theorem tas_typeOf25 (v : Value) (w : World) : (ReflectliteType.typeOf #[.iface 56 v]).run Tryz.prog w = .ok (.iface 137 (.agg #[.pointer (some ⟨10, 56, none⟩)])) w := by kernel_rfl
theorem tas_assignable25 (w : World) : (ReflectliteType.relation "AssignableTo" ReflectliteType.assignableTo #[.agg #[.pointer (some ⟨10, 56, none⟩)], .iface 137 (.agg #[.pointer (some ⟨10, 56, none⟩)])]).run Tryz.prog w = .ok (.bool true) w := by kernel_rfl
theorem tas_valueOf25 (e : Addr) (w : World) : (ReflectliteValue.unpack (.iface 56 (.pointer (some e)))).run Tryz.prog w
    = .ok (.agg #[.pointer (some ⟨10, 56, none⟩), .pointer (some ⟨w.heap.size, 0, none⟩), .int .u64 150]) (w.alloc (.cells #[.pointer (some e)] 56)) := by kernel_rfl
theorem tas_elemOf27 (w : World) : (Rtype.elem? 61).run Tryz.prog w = .ok (some 56) w := by kernel_rfl
theorem tas_mk25 (p : Addr) (w : World) : (ReflectliteValue.mk 56 p ReflectliteValue.flagAddr).run Tryz.prog w = .ok (.agg #[.pointer (some ⟨10, 56, none⟩), .pointer (some p), .int .u64 406]) w := by kernel_rfl
theorem tas_elemV27 (a p : Addr) (W : World) (ha : W.cell? a = some (.pointer (some p))) :
    (ReflectliteValue.method (ReflectliteValue.valueError "reflectlite.Value.Elem" 0) ReflectliteValue.elem #[.agg #[.pointer (some ⟨10, 61, none⟩), .pointer (some a), .int .u64 150]]).run Tryz.prog W
      = .ok (.agg #[.pointer (some ⟨10, 56, none⟩), .pointer (some p), .int .u64 406]) W := by
  rw [rlm]
  simp only [Sem.run_bind, tas_parts27, Result.andThen]
  simp [ReflectliteValue.elem, loadVar, isAgg, underlying, Tryz.underlying61, ha, Result.andThen, tas_elemOf27, tas_mk25]
theorem rls (v x : Value) : ReflectliteValue.set #[v, x] = (do
    let (some (dst, a, fl), some (src, b, _)) := (← ReflectliteValue.parts v, ← ReflectliteValue.parts x)
      | unsupported (.noEntry "extern/(internal/reflectlite.Value).Set.zeroValue")
    if fl / ReflectliteValue.flagAddr % 2 == 0 then unsupported (.noEntry "extern/(internal/reflectlite.Value).Set.unaddressable")
    let val ← loadVar src b
    if ← Rtype.directlyAssignable dst src then storeVar dst a val
    else if ← Rtype.implements dst src then
      if (← Rtype.kind src) == 20 then
        match val with
        | .nilIface => unsupported (.noEntry "extern/reflectlite: a nil value of one interface type handed on as a value of another")
        | _ => storeVar dst a val
      else storeVar dst a (.iface src val)
    else panicString ("reflectlite.Set: value of type " ++ (← Rtype.spelt src) ++ " is not assignable to type " ++ (← Rtype.spelt dst))
    pure (.tuple #[])) := rfl
theorem tas_parts25a (a : Addr) (w : World) : (ReflectliteValue.parts (.agg #[.pointer (some ⟨10, 56, none⟩), .pointer (some a), .int .u64 406])).run Tryz.prog w = .ok (some (56, a, 406)) w := by kernel_rfl
theorem tas_parts25 (a : Addr) (w : World) : (ReflectliteValue.parts (.agg #[.pointer (some ⟨10, 56, none⟩), .pointer (some a), .int .u64 150])).run Tryz.prog w = .ok (some (56, a, 150)) w := by kernel_rfl
theorem tas_direct25 (w : World) : (Rtype.directlyAssignable 56 56).run Tryz.prog w = .ok true w := by kernel_rfl
theorem tas_set25 (ta b e : Addr) (old : Value) (W : World) (hb : W.cell? b = some (.pointer (some e))) (ht : W.cell? ta = some old) (hf : W.frozen? ta = false) :
    (ReflectliteValue.set #[.agg #[.pointer (some ⟨10, 56, none⟩), .pointer (some ta), .int .u64 406], .agg #[.pointer (some ⟨10, 56, none⟩), .pointer (some b), .int .u64 150]]).run Tryz.prog W
      = .ok (.tuple #[]) (W.setCell ta (.pointer (some e))) := by
  rw [rls]
  simp only [Sem.run_bind, tas_parts25a, tas_parts25, Result.andThen]
  simp [ReflectliteValue.flagAddr, loadVar, isAgg, underlying, Tryz.underlying56, hb, Result.andThen, tas_direct25, storeVar, Value.cells, storeCells, Addr.add]
  rw [run_store Tryz.prog W ta _ _ (by rfl)]
  simp [ht, hf]
set_option maxRecDepth 20000 in
set_option maxHeartbeats 8000000 in
theorem as_hit (e t : Addr) (old : Value) (w : World) (hg : w.cell? ⟨0, 0, none⟩ = some (.iface 137 (.agg #[.pointer (some ⟨10, 58, none⟩)]))) (ht0 : w.cell? t = some old) (hf0 : w.frozen? t = false) :
    Calls Tryz.prog 32 #[.iface 56 (.pointer (some e)), .iface 61 (.pointer (some t))] w fun ev w' => ev = .returned (.bool true) ∧ w' = ((((w.alloc (.cells #[.pointer (some t)] 61)).alloc (.cells #[.pointer (some ⟨10, 61, none⟩), .pointer (some ⟨w.heap.size, 0, none⟩), .int .u64 150] 107)).alloc (.cells #[.pointer (some ⟨10, 61, none⟩), .pointer (some ⟨w.heap.size, 0, none⟩), .int .u64 150] 107)).alloc (.cells #[.pointer (some e)] 56)).setCell t (.pointer (some e)) := by
  have h6 := @run_callFunc_extern Tryz.prog 55 _ (fun args => ReflectliteValue.unpack (args.getD 0 (.tuple #[]))) Tryz.func55 (by kernel_rfl) (by kernel_rfl) (by kernel_rfl) (by kernel_rfl)
  have h7 := @run_callFunc_extern Tryz.prog 56 _ (ReflectliteValue.methodAny (ReflectliteValue.valueError "reflectlite.Value.Type" 0) (fun t _ _ _ => ReflectliteType.toType t)) Tryz.func56 (by kernel_rfl) (by kernel_rfl) (by kernel_rfl) (by kernel_rfl)
  have h8 := @run_callFunc_extern Tryz.prog 57 _ (ReflectliteValue.method (ReflectliteValue.valueError "reflectlite.Value.IsNil" 0) ReflectliteValue.isNil) Tryz.func57 (by kernel_rfl) (by kernel_rfl) (by kernel_rfl) (by kernel_rfl)
  have h27 := @run_callFunc_extern Tryz.prog 177 _ (ReflectliteType.abiMethod fun t => do pure (.int .u8 (← Rtype.kind t))) Tryz.func177 (by kernel_rfl) (by kernel_rfl) (by kernel_rfl) (by kernel_rfl)
  have h37 := @run_callFunc_extern Tryz.prog 188 _ (ReflectliteType.method ReflectliteType.elem) Tryz.func188 (by kernel_rfl) (by kernel_rfl) (by kernel_rfl) (by kernel_rfl)
  have h38 := @run_callFunc_extern Tryz.prog 189 _ (ReflectliteType.relation "Implements" ReflectliteType.implements_) Tryz.func189 (by kernel_rfl) (by kernel_rfl) (by kernel_rfl) (by kernel_rfl)
  have h10 := @run_callFunc_extern Tryz.prog 84 _ ReflectliteType.typeOf Tryz.func84 (by kernel_rfl) (by kernel_rfl) (by kernel_rfl) (by kernel_rfl)
  have h35 := @run_callFunc_extern Tryz.prog 186 _ (ReflectliteType.relation "AssignableTo" ReflectliteType.assignableTo) Tryz.func186 (by kernel_rfl) (by kernel_rfl) (by kernel_rfl) (by kernel_rfl)
  have h11 := @run_callFunc_extern Tryz.prog 85 _ (ReflectliteValue.method (ReflectliteValue.valueError "reflectlite.Value.Elem" 0) ReflectliteValue.elem) Tryz.func85 (by kernel_rfl) (by kernel_rfl) (by kernel_rfl) (by kernel_rfl)
  have h12 := @run_callFunc_extern Tryz.prog 86 _ ReflectliteValue.set Tryz.func86 (by kernel_rfl) (by kernel_rfl) (by kernel_rfl) (by kernel_rfl)
  have tO := tas_typeOf25
  have mA := tas_methodAssignableTo
  have a25 := tas_assignable25
  have v25 := tas_valueOf25
  have f6 := tas_valueOf27
  have f7 := tas_type27
  have mK := tas_methodKind
  have mE := tas_methodElem
  have mI := tas_methodImplements
  have k27 := tas_kind27
  have k25 := tas_kind25
  have e27 := tas_elem27
  have i25 := tas_implements25
  have n8 := tas_isNil27 ⟨w.heap.size, 0, none⟩ t ((w.alloc (.cells #[.pointer (some t)] 61)).alloc (.cells #[.pointer (some ⟨10, 61, none⟩), .pointer (some ⟨w.heap.size, 0, none⟩), .int .u64 150] 107)) (by simp)
  have hlt : 0 < w.heap.size := by
    rcases Nat.eq_zero_or_pos w.heap.size with h0 | h
    · simp [World.cell?, h0] at hg
    · exact h
  have hg2 : ((w.alloc (.cells #[.pointer (some t)] 61)).alloc (.cells #[.pointer (some ⟨10, 61, none⟩), .pointer (some ⟨w.heap.size, 0, none⟩), .int .u64 150] 107)).cell? ⟨0, 0, none⟩ = some (.iface 137 (.agg #[.pointer (some ⟨10, 58, none⟩)])) := by
    rw [World.cell?_alloc_lt _ _ ⟨0, 0, none⟩ (by simp), World.cell?_alloc_lt _ _ ⟨0, 0, none⟩ hlt]; exact hg
  have htl : t.block < w.heap.size := by
    rcases Nat.lt_or_ge t.block w.heap.size with h | h
    · exact h
    · simp [World.cell?, Array.getElem?_eq_none h] at ht0
  have el := tas_elemV27 ⟨w.heap.size, 0, none⟩ t (((w.alloc (.cells #[.pointer (some t)] 61)).alloc (.cells #[.pointer (some ⟨10, 61, none⟩), .pointer (some ⟨w.heap.size, 0, none⟩), .int .u64 150] 107)).alloc (.cells #[.pointer (some ⟨10, 61, none⟩), .pointer (some ⟨w.heap.size, 0, none⟩), .int .u64 150] 107)) (by rw [World.cell?_alloc_lt _ _ ⟨w.heap.size, 0, none⟩ (by simp; omega)]; simp)
  have st := tas_set25 t ⟨w.heap.size + 1 + 1 + 1, 0, none⟩ e old ((((w.alloc (.cells #[.pointer (some t)] 61)).alloc (.cells #[.pointer (some ⟨10, 61, none⟩), .pointer (some ⟨w.heap.size, 0, none⟩), .int .u64 150] 107)).alloc (.cells #[.pointer (some ⟨10, 61, none⟩), .pointer (some ⟨w.heap.size, 0, none⟩), .int .u64 150] 107)).alloc (.cells #[.pointer (some e)] 56))
    (by rw [World.cell?_alloc_at _ _ _ _ (by simp)]; rfl)
    (by rw [World.cell?_alloc_lt _ _ t (by simp; omega), World.cell?_alloc_lt _ _ t (by simp; omega), World.cell?_alloc_lt _ _ t (by simp; omega), World.cell?_alloc_lt _ _ t htl]; exact ht0)
    (by rw [World.frozen?_alloc_old _ _ t (by simp; omega), World.frozen?_alloc_old _ _ t (by simp; omega), World.frozen?_alloc_old _ _ t (by simp; omega), World.frozen?_alloc_old _ _ t (Nat.ne_of_lt htl)]; exact hf0)
  go_enter Tryz.func32, Tryz.ntmps32
  go_wp2
  refine wp_loop_rounds 1 ?_
  rw [rounds_succ]
  go_wp2
  go_ret
  exact ⟨rfl, rfl⟩
end Go.Proofs.YtfnjodpehomgfaaGreatDoor
namespace Go.Proofs.YtfnjodpehomgfaaGreatDoor
open Go Go.Sh Go.Tx
theorem DCl.recov2 {P : Program} {T : Tab} (hT : TabOk P T) {f : FuncId} {fn : Func} {args : List Value} {w : World} {k : FrameMode → World → Prop} {m id d d2 : Nat} {o o2 : Oper} {c2 : Code} {u u1 : FrameMode} {v : Value}
    (hf : P.funcs[f]? = some fn) (hb : fn.body = some (.seq (.region id #[o, o2] false) c2)) (hm : fn.ntmps = m) (hrs : fn.results = #[]) (hn : Nat.ble args.length m = true)
    (ho : ∀ ρ w, (execOp ρ o).run P w = .ok .recover w) (hg : o.guard = none) (hd : o.dst = some d) (hdn : Nat.blt d m = true)
    (ho2 : o2.op = .assign (.tmp d)) (hg2 : o2.guard = none) (hd2 : o2.dst = some d2) (hdn2 : Nat.blt d2 m = true)
    (hu : (u = .returning ∧ v = .nilIface ∧ u1 = .returning) ∨ ∃ x, u = .panicking [{ v := x, recovered := false }] ∧ v = x ∧ u1 = .panicking [{ v := x, recovered := true }])
    (h : exC P T m c2 ⟨(d2, v) :: (d, v) :: argsEnv args 0, []⟩ w (fun e F w' => match e with | .normal | .ret => F.ds = [] ∧ k u1 w' | _ => False)) : DCl P f args.toArray u w k := by
  subst hm
  refine ⟨callsD_of_wpS hf hb fun c₀ cs hc => ?_⟩
  refine wpS_seq (wpS_region ?_)
  have hr0 : List.range (#[o, o2] : Array Oper).size = [0, 1] := rfl
  rw [hr0]
  have ha1 := (Agr.enter (fn := fn) hn).put (d := some d) (by simpa [dstOk] using hdn) v
  have ha := ha1.put (d := some d2) (by simpa [dstOk] using hdn2) v
  have hev := ha1.ev (.tmp d) v (by simp [evF, Fr.put, Sh.look])
  have fin : ∀ c₁ : Frame, c₁ = { c₀ with mode := u1 } → c2.wpS P (bodyPostS P fn c₀ cs (fun e u' w' => match e with | .returned _ => k u' w' | _ => False)) (Act.put (Act.put { tmps := args.toArray ++ Array.replicate (fn.ntmps - args.toArray.size) undef, defers := [] } (some d) v) (some d2) v) (c₁ :: cs) w := fun c₁ h1 => by
    refine wpS_of_wp (wp_mono (exC_sound hT c2 _ _ w _ ha (by exact h)) fun e a' w' q => ?_)
    obtain ⟨F', ha', q⟩ := q
    cases e with
    | normal =>
      refine ⟨ha'.2.1.trans q.1, u1, by rw [h1], .tuple #[], ?_, q.2⟩
      exact (by simp [results, hrs] : (results fn a'.tmps).run P w' = .ok (.tuple #[]) w')
    | ret =>
      refine ⟨ha'.2.1.trans q.1, u1, by rw [h1], .tuple #[], ?_, q.2⟩
      exact (by simp [results, hrs] : (results fn a'.tmps).run P w' = .ok (.tuple #[]) w')
    | _ => exact q.elim
  have snd : ∀ (Q : Exit → Act → List Frame → World → Prop) (c₁ : Frame), Q .normal (Act.put (Act.put { tmps := args.toArray ++ Array.replicate (fn.ntmps - args.toArray.size) undef, defers := [] } (some d) v) (some d2) v) (c₁ :: cs) w → wpOpsS P #[o, o2] Q [1] (Act.put { tmps := args.toArray ++ Array.replicate (fn.ntmps - args.toArray.size) undef, defers := [] } (some d) v) (c₁ :: cs) w := fun Q c₁ h1 => by
    unfold wpOpsS
    simp only [List.getElem?_toArray, List.getElem?_cons_succ, List.getElem?_cons_zero, wanted_none hg2, if_true]
    have hx : ∀ ρ w, (execOp ρ o2).run P w = .ok (.value (ρ (.tmp d))) w := fun ρ w => by unfold execOp; rw [ho2]; rfl
    simp only [hx, hev, Oper.upon, hd2]
    unfold wpOpsS
    exact h1
  unfold wpOpsS
  simp only [List.getElem?_toArray, List.getElem?_cons_zero, wanted_none hg, if_true, ho, hd]
  rcases hu with ⟨h1, rfl, h3⟩ | ⟨x, h1, rfl, h3⟩
  · have : recoverD (c₀ :: cs) = none := by simp [recoverD, hc, h1]
    simp only [this]
    exact snd _ c₀ (fin c₀ (by rw [h3, ← h1, ← hc]))
  · have : recoverD (c₀ :: cs) = some (v, { c₀ with mode := u1 } :: cs) := by simp [recoverD, hc, h1, h3]
    simp only [this]
    exact snd _ _ (fin _ rfl)
def EG (w : World) : Prop := w.cell? ⟨0, 0, none⟩ = some (.iface 137 (.agg #[.pointer (some ⟨10, 58, none⟩)]))
theorem EG.lt {w : World} (h : EG w) : 0 < w.heap.size := by
  rcases Nat.lt_or_ge 0 w.heap.size with h1 | h1
  · exact h1
  · unfold EG at h
    simp [World.cell?, Array.getElem?_eq_none h1] at h
theorem EG.ext {w w' : World} (h : EG w) (e : Ext w w') : EG w' := by
  have hb : w'.heap[0]? = w.heap[0]? := Go.RowKit.Below.block e _ h.lt
  unfold EG at h ⊢
  unfold World.cell? at h ⊢
  simp only at h hb ⊢
  rw [hb]; exact h
theorem as_c (q t : Nat) (old : Value) (w : World) (hE : EG w) (hb : Blk w t 56 [old]) :
    Cl Tryz.prog 32 #[.iface 56 (.pointer (some ⟨q, 0, none⟩)), .iface 61 (.pointer (some ⟨t, 0, none⟩))] w
      (fun v w' => v = .bool true ∧ Hp (· = t) w w' [bk t 56 [.pointer (some ⟨q, 0, none⟩)]]) (fun _ _ => False) := by
  refine ⟨Calls.mono (as_hit ⟨q, 0, none⟩ ⟨t, 0, none⟩ old w hE ?_ ?_) ?_⟩
  · exact hb.cell 0
  · exact hb.frozen _ rfl
  rintro ev w' ⟨rfl, rfl⟩
  refine ⟨rfl, ?_⟩
  have e := (((Ext.alloc w (.cells #[.pointer (some ⟨t, 0, none⟩)] 61)).trans (Ext.alloc _ (.cells #[.pointer (some ⟨10, 61, none⟩), .pointer (some ⟨w.heap.size, 0, none⟩), .int .u64 150] 107))).trans (Ext.alloc _ (.cells #[.pointer (some ⟨10, 61, none⟩), .pointer (some ⟨w.heap.size, 0, none⟩), .int .u64 150] 107))).trans (Ext.alloc _ (.cells #[.pointer (some ⟨q, 0, none⟩)] 56))
  have H0 : Hp (· = t) w w [bk t 56 [old]] := Hp.start (S := (· = t)) (bk_ok hb) (fun k hk => hk)
  have H := H0.ext e
  have hst := St.h (vs := [Value.pointer (some ⟨q, 0, none⟩)]) (o := 0) (k := fun w' => Hp (· = t) w w' [bk t 56 [.pointer (some ⟨q, 0, none⟩)]]) H (fun w' H => H)
  exact hst.out
attribute [local irreducible] Blk Ext RdS
theorem run_as (x : Value) (w : World) : (Instr.typeAssert (.iface 56 x) 20 58 true).run Tryz.prog w = .ok (.tuple #[.iface 56 x, .bool true]) w := by kernel_rfl
theorem parse1_ret (p2 p3 : Nat) (w : World) : DCl Tryz.prog 31 #[.pointer (some ⟨p2, 0, none⟩), .pointer (some ⟨p3, 0, none⟩)] .returning w (fun u w' => u = .returning ∧ Ext w w') := by
  refine DCl.recov2 (args := [.pointer (some ⟨p2, 0, none⟩), .pointer (some ⟨p3, 0, none⟩)]) T.ok Tryz.func31 rfl rfl rfl rfl (fun ρ w => rfl) rfl rfl rfl rfl rfl rfl rfl (.inl ⟨rfl, rfl, rfl⟩) ?_
  have H := Hp.begin nw w
  repeat' ((conv => whnf); first | (((with_reducible show Gd ..); first | (with_reducible first | refine Gd.t ?_ | refine Gd.f ?_ | (first | apply Gd.dec | apply Gd.beq | apply Gd.bne) <;> intro _ | refine Gd.not ?_) | refine Gd.t ?_ | refine Gd.f ?_ | apply Gd.var <;> intro _) <;> try (exfalso; omega)) | with_reducible refine Sq.mk ?_ | ((with_reducible show Ld1 ..); first | refine Ld1.h H ?_ | refine Ld1.rF ?_ | refine Ld1.r ?_) | ((with_reducible show Ld ..); first | refine Ld.h H ?_ | refine Ld.r ?_) | ((with_reducible show Ix ..); first | refine Ix.h ?_ | refine Ix.ha ?_) | (refine Al.hp H ?_; clear H; intro _ _ H _) | (refine St.h H ?_; clear H; intro _ H))
  exact ⟨rfl, rfl, H.e⟩
theorem parse1_pan {w0 w : World} {q p2 p3 : Nat} {e : Int} {p : Nat} {c2 x y : Value} (hE : EG w0) (H : Hp nw w0 w [bk q 63 [.int .i64 e, .int .i64 (p : Int)], bk p3 27 [x, y], bk p2 24 [c2]]) :
    DCl Tryz.prog 31 #[.pointer (some ⟨p2, 0, none⟩), .pointer (some ⟨p3, 0, none⟩)] (.panicking (pk q)) w
      (fun u w' => u = .panicking [{ v := .iface 56 (.pointer (some ⟨q, 0, none⟩)), recovered := true }] ∧ Hp nw w0 w' [bk p3 27 [.int .i64 e, .int .i64 (p : Int)], bk p2 24 [.slice none 0 0]]) := by
  refine DCl.recov2 (args := [.pointer (some ⟨p2, 0, none⟩), .pointer (some ⟨p3, 0, none⟩)]) T.ok Tryz.func31 rfl rfl rfl rfl (fun ρ w => rfl) rfl rfl rfl rfl rfl rfl rfl (.inr ⟨_, rfl, rfl, rfl⟩) ?_
  repeat' ((conv => whnf); first | (((with_reducible show Gd ..); first | (with_reducible first | refine Gd.t ?_ | refine Gd.f ?_ | (first | apply Gd.dec | apply Gd.beq | apply Gd.bne) <;> intro _ | refine Gd.not ?_) | refine Gd.t ?_ | refine Gd.f ?_ | apply Gd.var <;> intro _) <;> try (exfalso; omega)) | with_reducible refine Sq.mk ?_ | ((with_reducible show Ld1 ..); first | refine Ld1.h H ?_ | refine Ld1.rF ?_ | refine Ld1.r ?_) | ((with_reducible show Ld ..); first | refine Ld.h H ?_ | refine Ld.r ?_) | ((with_reducible show Ix ..); first | refine Ix.h ?_ | refine Ix.ha ?_) | (refine St.h H ?_; clear H; intro _ H))
  ((conv => whnf); refine Al.hp H ?_; clear H; intro p5 _ H _)
  repeat' ((conv => whnf); first | (((with_reducible show Gd ..); first | (with_reducible first | refine Gd.t ?_ | refine Gd.f ?_ | (first | apply Gd.dec | apply Gd.beq | apply Gd.bne) <;> intro _ | refine Gd.not ?_) | refine Gd.t ?_ | refine Gd.f ?_ | apply Gd.var <;> intro _) <;> try (exfalso; omega)) | with_reducible refine Sq.mk ?_ | ((with_reducible show Ld1 ..); first | refine Ld1.h H ?_ | refine Ld1.rF ?_ | refine Ld1.r ?_) | ((with_reducible show Ld ..); first | refine Ld.h H ?_ | refine Ld.r ?_) | ((with_reducible show Ix ..); first | refine Ix.h ?_ | refine Ix.ha ?_) | (refine Al.hp H ?_; clear H; intro _ _ H _) | (refine St.h H ?_; clear H; intro _ H))
  refine Sm.ran (run_as _ _) ?_
  repeat' ((conv => whnf); first | (((with_reducible show Gd ..); first | (with_reducible first | refine Gd.t ?_ | refine Gd.f ?_ | (first | apply Gd.dec | apply Gd.beq | apply Gd.bne) <;> intro _ | refine Gd.not ?_) | refine Gd.t ?_ | refine Gd.f ?_ | apply Gd.var <;> intro _) <;> try (exfalso; omega)) | with_reducible refine Sq.mk ?_ | ((with_reducible show Ld1 ..); first | refine Ld1.h H ?_ | refine Ld1.rF ?_ | refine Ld1.r ?_) | ((with_reducible show Ld ..); first | refine Ld.h H ?_ | refine Ld.r ?_) | ((with_reducible show Ix ..); first | refine Ix.h ?_ | refine Ix.ha ?_) | (refine Al.hp H ?_; clear H; intro _ _ H _) | (refine St.h H ?_; clear H; intro _ H))
  ((conv => whnf); refine Cl.mk (as_c q p5 (.pointer none) _ (hE.ext H.e) (H.blk 0 rfl)) ?_)
  rintro _ w6 ⟨rfl, H'⟩
  replace H := H.updb H'
  clear H'
  repeat' ((conv => whnf); first | (((with_reducible show Gd ..); first | (with_reducible first | refine Gd.t ?_ | refine Gd.f ?_ | (first | apply Gd.dec | apply Gd.beq | apply Gd.bne) <;> intro _ | refine Gd.not ?_) | refine Gd.t ?_ | refine Gd.f ?_ | apply Gd.var <;> intro _) <;> try (exfalso; omega)) | with_reducible refine Sq.mk ?_ | ((with_reducible show Ld1 ..); first | refine Ld1.h H ?_ | refine Ld1.rF ?_ | refine Ld1.r ?_) | ((with_reducible show Ld ..); first | refine Ld.h H ?_ | refine Ld.r ?_) | ((with_reducible show Ix ..); first | refine Ix.h ?_ | refine Ix.ha ?_) | (refine Al.hp H ?_; clear H; intro _ _ H _) | (refine St.h H ?_; clear H; intro _ H))
  exact ⟨rfl, rfl, H.sel [2, 2] rfl⟩
def PR (l : Bs) : Res (List Fnc) := if 16384 < l.length then .err 2 0 else parseP l (fuelOf l)
def OkP (l : Bs) (w : World) (v : Value) (w' : World) : Prop :=
  (∃ m ts A c, PR l = .ok (m.map FM.e) ts ∧ v = .tuple #[.agg #[.slice A m.length c], .agg #[.int .i64 0, .int .i64 0]] ∧ m.length ≤ 2000000 ∧ Hp nw w w' [qu FM.enc 3 34 A c m, fns m]) ∨
  (∃ e p, PR l = .err e p ∧ v = .tuple #[.agg #[.slice none 0 0], .agg #[.int .i64 e, .int .i64 (p : Int)]] ∧ Ext w w')
structure Rg (w : World) : Prop where
  tb : Tb w
  eg : EG w
theorem Rg.ext {w w' : World} (h : Rg w) (e : Ext w w') : Rg w' := ⟨h.tb.ext e, h.eg.ext e⟩
set_option maxHeartbeats 4000000 in
theorem Parse_c (l : Bs) (w : World) (hG : Rg w) : Cl Tryz.prog 12 #[.string (bs l)] w (OkP l w) (fun _ _ => False) := by
  refine calls_exd (args := [.string (bs l)]) T.ok Tryz.func12 rfl rfl rfl rfl ?_
  have H := Hp.begin nw w
  have hsz := bs_size l
  refine Sq.mk ?_
  ((conv => whnf); refine Al.hp H ?_; clear H; intro p2 _ H _)
  ((conv => whnf); refine Al.hp H ?_; clear H; intro p3 _ H _)
  by_cases hlong : 16384 < l.length
  · repeat' ((conv => whnf); first | (((with_reducible show Gd ..); first | (with_reducible first | refine Gd.t ?_ | refine Gd.f ?_ | (first | apply Gd.dec | apply Gd.beq | apply Gd.bne) <;> intro _ | refine Gd.not ?_) | refine Gd.t ?_ | refine Gd.f ?_ | apply Gd.var <;> intro _) <;> try (exfalso; omega)) | with_reducible refine Sq.mk ?_ | ((with_reducible show Ld1 ..); first | refine Ld1.h H ?_ | refine Ld1.rF ?_ | refine Ld1.r ?_) | ((with_reducible show Ld ..); first | refine Ld.h H ?_ | refine Ld.r ?_) | ((with_reducible show Ix ..); first | refine Ix.h ?_ | refine Ix.ha ?_) | (refine Al.hp H ?_; clear H; intro _ _ H _) | (refine St.h H ?_; clear H; intro _ H))
    all_goals first | (exfalso; omega) | skip
    exact .inr ⟨2, 0, by unfold PR; rw [if_pos hlong], rfl, H.e⟩
  obtain ⟨R, hR⟩ : ∃ R, R = PR l := ⟨_, rfl⟩
  have hne : R ≠ .out := by
    rw [hR]; unfold PR; rw [if_neg hlong]
    intro e
    have := parse_fin l
    rw [e] at this
    exact this
  have hRp : R = parseP l (fuelOf l) := by rw [hR]; unfold PR; rw [if_neg hlong]
  unfold parseP at hRp
  repeat' ((conv => whnf); first | (((with_reducible show Gd ..); first | (with_reducible first | refine Gd.t ?_ | refine Gd.f ?_ | (first | apply Gd.dec | apply Gd.beq | apply Gd.bne) <;> intro _ | refine Gd.not ?_) | refine Gd.t ?_ | refine Gd.f ?_ | apply Gd.var <;> intro _) <;> try (exfalso; omega)) | with_reducible refine Sq.mk ?_ | ((with_reducible show Ld1 ..); first | refine Ld1.h H ?_ | refine Ld1.rF ?_ | refine Ld1.r ?_) | ((with_reducible show Ld ..); first | refine Ld.h H ?_ | refine Ld.r ?_) | ((with_reducible show Ix ..); first | refine Ix.h ?_ | refine Ix.ha ?_) | (refine St.h H ?_; clear H; intro _ H))
  all_goals first | (exfalso; omega) | skip
  ((conv => whnf); refine Al.hp H ?_; clear H; intro pr _ H _)
  repeat' ((conv => whnf); first | (((with_reducible show Gd ..); first | (with_reducible first | refine Gd.t ?_ | refine Gd.f ?_ | (first | apply Gd.dec | apply Gd.beq | apply Gd.bne) <;> intro _ | refine Gd.not ?_) | refine Gd.t ?_ | refine Gd.f ?_ | apply Gd.var <;> intro _) <;> try (exfalso; omega)) | with_reducible refine Sq.mk ?_ | ((with_reducible show Ld1 ..); first | refine Ld1.h H ?_ | refine Ld1.rF ?_ | refine Ld1.r ?_) | ((with_reducible show Ld ..); first | refine Ld.h H ?_ | refine Ld.r ?_) | ((with_reducible show Ix ..); first | refine Ix.h ?_ | refine Ix.ha ?_) | (refine Al.hp H ?_; clear H; intro _ _ H _) | (refine St.h H ?_; clear H; intro _ H))
  have hfix : ∀ w', Hp nw w w' [bk pr 68 (rdrCs l 0 ⟨[], [], 0, 0, 0⟩), bk p3 27 [.int .i64 0, .int .i64 0], bk p2 24 [.slice none 0 0]] → Hp nw w w' [bk pr 68 (rdrCs l 0 ⟨[], [], 0, 0, 0⟩), bk p3 27 [.int .i64 0, .int .i64 0], bk p2 24 [.slice none 0 0]] := fun _ h => h
  replace H := hfix _ H
  clear hfix
  have hwl := words_len l (l.length + 1) 0
  replace H := Hp.toR (t := ⟨[], [], 0, 0, 0⟩) (r := words l (l.length + 1) 0) H (Nat.zero_le _) ⟨fun _ => rfl, by omega, by decide, by decide⟩
  have X : Txt l pr w := ⟨by assumption, hG.tb, by omega⟩
  have C := con_all X (fuelOf l)
  (conv => whnf)
  refine Cl.mkX (step_c false l pr (⟨[], [], 0, 0, 0⟩ :: words l (l.length + 1) 0) w _ H.e X.lo X.tb X.len (H.atC 0 rfl) (by show ([] : Bs) ≠ k_end; decide)) ?_ ?_
  rotate_left
  · rintro ch w9 ⟨e9, p9, q9, h9, rfl, H'⟩
    replace H := H.upd (c := rdr l pr (⟨[], [], 0, 0, 0⟩ :: words l (l.length + 1) 0)) H' rfl (.inl rfl)
    have hR9 : R = .err e9 p9 := by rw [hRp, h9]; rfl
    (conv => whnf)
    refine DCl.mono (parse1_pan hG.eg (H.sel [0, 0, 0] rfl)) ?_
    rintro _ w10 ⟨rfl, H2⟩
    replace H := H2
    repeat' ((conv => whnf); first | (((with_reducible show Gd ..); first | (with_reducible first | refine Gd.t ?_ | refine Gd.f ?_ | (first | apply Gd.dec | apply Gd.beq | apply Gd.bne) <;> intro _ | refine Gd.not ?_) | refine Gd.t ?_ | refine Gd.f ?_ | apply Gd.var <;> intro _) <;> try (exfalso; omega)) | with_reducible refine Sq.mk ?_ | ((with_reducible show Ld1 ..); first | refine Ld1.h H ?_ | refine Ld1.rF ?_ | refine Ld1.r ?_) | ((with_reducible show Ld ..); first | refine Ld.h H ?_ | refine Ld.r ?_) | ((with_reducible show Ix ..); first | refine Ix.h ?_ | refine Ix.ha ?_) | (refine Al.hp H ?_; clear H; intro _ _ H _) | (refine St.h H ?_; clear H; intro _ H))
    exact .inr ⟨e9, p9, by rw [← hR, hR9], rfl, H.e⟩
  rintro _ w3 ⟨ts, h1, H'⟩
  replace H := H.upd (c := rdr l pr (⟨[], [], 0, 0, 0⟩ :: words l (l.length + 1) 0)) H' rfl (.inl rfl)
  clear H'
  rw [h1, Res.bind_ok] at hRp
  replace H := Hp.nil (Hp.fns0 H) FM.enc 3 34
  repeat' ((conv => whnf); first | ((with_reducible show Gd (bs _ == _) _ _); first | refine Gd.sY (by assumption) ?_ | refine Gd.sk (by assumption) ?_ | refine Gd.sN (by assumption) ?_) | ((conv => whnf); first | (((with_reducible show Gd ..); first | (with_reducible first | refine Gd.t ?_ | refine Gd.f ?_ | (first | apply Gd.dec | apply Gd.beq | apply Gd.bne) <;> intro _ | refine Gd.not ?_) | refine Gd.t ?_ | refine Gd.f ?_ | apply Gd.var <;> intro _) <;> try (exfalso; omega)) | with_reducible refine Sq.mk ?_ | ((with_reducible show Ld1 ..); first | refine Ld1.h H ?_ | refine Ld1.rF ?_ | refine Ld1.r ?_) | ((with_reducible show Ld ..); first | refine Ld.h H ?_ | refine Ld.r ?_) | ((with_reducible show Ix ..); first | refine Ix.h ?_ | refine Ix.ha ?_) | (refine Al.hp H ?_; clear H; intro _ _ H _) | (refine St.h H ?_; clear H; intro _ H)) | refine Sm.strix T.ok ?_)
  (conv => whnf)
  refine Dr.chXk T.ok mixed [0, 1, 2, 6] [3, 4, 5, 7] (by kernel_rfl) rfl rfl (fun w' => Blk w' p2 24 [.slice none 0 0]) (fun ch w' => ∃ e9 p9 q9 c9, R = .err e9 p9 ∧ ch = pk q9 ∧ Hp nw w w' [bk q9 63 [.int .i64 e9, .int .i64 (p9 : Int)], bk p3 27 [.int .i64 0, .int .i64 0], bk p2 24 [c9]])
    (fun ch w' h => ?_) (fun w1 eT _ => ?_)
  · obtain ⟨e9, p9, q9, c9, hR9, rfl, H⟩ := h
    (conv => whnf)
    refine DCl.mono (parse1_pan hG.eg H) ?_
    rintro _ w10 ⟨rfl, H2⟩
    replace H := H2
    repeat' ((conv => whnf); first | (((with_reducible show Gd ..); first | (with_reducible first | refine Gd.t ?_ | refine Gd.f ?_ | (first | apply Gd.dec | apply Gd.beq | apply Gd.bne) <;> intro _ | refine Gd.not ?_) | refine Gd.t ?_ | refine Gd.f ?_ | apply Gd.var <;> intro _) <;> try (exfalso; omega)) | with_reducible refine Sq.mk ?_ | ((with_reducible show Ld1 ..); first | refine Ld1.h H ?_ | refine Ld1.rF ?_ | refine Ld1.r ?_) | ((with_reducible show Ld ..); first | refine Ld.h H ?_ | refine Ld.r ?_) | ((with_reducible show Ix ..); first | refine Ix.h ?_ | refine Ix.ha ?_) | (refine Al.hp H ?_; clear H; intro _ _ H _) | (refine St.h H ?_; clear H; intro _ H))
    exact .inr ⟨e9, p9, by rw [← hR, hR9], rfl, H.e⟩
  replace H := H.ext eT
  repeat' ((conv => whnf); first | refine QLd1.own (fun _ hw => hw) ?_ | refine QLd.own (fun _ hw => hw) ?_)
  (conv => whnf)
  refine ⟨H.blk 4 rfl, ?_⟩
  (conv => whnf)
  refine Cl.mkX (function_c X C (ts) _ H.e (H.atC 2 rfl) (Res.bind_out (by rw [← hRp]; exact hne))) ?_ ?_
  rotate_left
  · rintro ch w9 ⟨e9, p9, q9, h9, rfl, H'⟩
    replace H := H.upd (c := rdr l pr (ts)) H' rfl (.inl rfl)
    exact ⟨e9, p9, q9, _, by rw [hRp, h9]; rfl, rfl, H.sel [2, 2, 2] rfl⟩
  rintro _ w3 ⟨⟨n1, P1, c1, ps1, B1, d1, b1⟩, ts1, h2, rfl, H'⟩
  replace H := H.updn (c := rdr l pr (ts)) (Hp.swap H') rfl (.inl rfl) (.inl rfl)
  clear H'
  rw [h2, Res.bind_ok] at hRp
  (conv => whnf)
  refine ⟨H.blk 5 rfl, ?_⟩
  refine Sm.lith (cs := FM.enc ⟨n1, P1, c1, ps1, B1, d1, b1⟩) H T.ok (fun p5 w4 H _ => ?_)
  (conv => whnf)
  refine ⟨H.blk 6 rfl, ?_⟩
  refine Sm.ap1 (enc := FM.enc) ⟨n1, P1, c1, ps1, B1, d1, b1⟩ H T.ok ?_ ?_ (fun A' c' w6 H => ?_)
  · show (0 + 1) * 64 ≤ _; omega
  · show 0 + 1 ≤ _; omega
  simp only [List.cons_append, List.nil_append] at H
  (conv => whnf)
  refine ⟨H.blk 5 rfl, ?_⟩
  repeat' ((conv => whnf); first | ((with_reducible show Gd (bs _ == _) _ _); first | refine Gd.sY (by assumption) ?_ | refine Gd.sk (by assumption) ?_ | refine Gd.sN (by assumption) ?_) | ((conv => whnf); first | (((with_reducible show Gd ..); first | (with_reducible first | refine Gd.t ?_ | refine Gd.f ?_ | (first | apply Gd.dec | apply Gd.beq | apply Gd.bne) <;> intro _ | refine Gd.not ?_) | refine Gd.t ?_ | refine Gd.f ?_ | apply Gd.var <;> intro _) <;> try (exfalso; omega)) | with_reducible refine Sq.mk ?_ | ((with_reducible show Ld1 ..); first | refine Ld1.h H ?_ | refine Ld1.rF ?_ | refine Ld1.r ?_) | ((with_reducible show Ld ..); first | refine Ld.h H ?_ | refine Ld.r ?_) | ((with_reducible show Ix ..); first | refine Ix.h ?_ | refine Ix.ha ?_) | (refine Al.hp H ?_; clear H; intro _ _ H _) | (refine St.h H ?_; clear H; intro _ H)) | refine Sm.strix T.ok ?_)
  have hN : ts1.length ≤ l.length + 2 := (H.atC (c := rdr l pr ts1) 3 rfl).len
  generalize hN0 : ts1.length + 1 = N at hRp
  have hNb : N ≤ 1000010 := by omega
  replace H := Hp.swap (Hp.fnsS (l := []) (H.sel [0, 1, 0, 0, 0, 0] rfl))
  refine Lp.go T.ok (σ := Nat × Option Addr × Nat × List FM × List Tk) (fun q => [(2, .pointer (some ⟨p2, 0, none⟩)), (3, .pointer (some ⟨p3, 0, none⟩)), (4, .pointer (some ⟨pr, 0, none⟩))])
    (fun q w' => R = loopF (pf (fuelOf l)) q.1 (q.2.2.2.1.map FM.e) q.2.2.2.2 ∧ q.1 + q.2.2.2.1.length ≤ N + 1 ∧ Hp nw w w' [qu FM.enc 3 34 q.2.1 q.2.2.1 q.2.2.2.1, fns q.2.2.2.1, rdr l pr q.2.2.2.2, bk p3 27 [.int .i64 0, .int .i64 0], bk p2 24 [.slice q.2.1 q.2.2.2.1.length q.2.2.1]]) (fun q _ => q.1) (N, A', c', [⟨n1, P1, c1, ps1, B1, d1, b1⟩], ts1) ⟨rfl, rfl, rfl, trivial⟩ ⟨hRp, Nat.le_refl _, H⟩ ?_
  clear H hRp hN0 hN h2 h1
  rintro ⟨f, A, c, fs, ts⟩ w5 ⟨hRp, hN, H⟩
  simp only at hRp hN H ⊢
  cases f with
  | zero => exact absurd hRp hne
  | succ f =>
  simp only [loopF] at hRp
  obtain ⟨nx, t0, r0, rfl, hnx, hr0, hb0⟩ := H.atC (c := rdr l pr ts) 2 rfl
  replace H := Hp.ofR H hb0
  clear hb0
  by_cases hk : t0.kind = k_end
  · rw [if_pos (show curK (t0 :: r0) = k_end from hk)] at hRp
    repeat' ((conv => whnf); first | ((with_reducible show Gd (bs _ == _) _ _); first | refine Gd.sY (by assumption) ?_ | refine Gd.sk (by assumption) ?_ | refine Gd.sN (by assumption) ?_) | ((conv => whnf); first | (((with_reducible show Gd ..); first | (with_reducible first | refine Gd.t ?_ | refine Gd.f ?_ | (first | apply Gd.dec | apply Gd.beq | apply Gd.bne) <;> intro _ | refine Gd.not ?_) | refine Gd.t ?_ | refine Gd.f ?_ | apply Gd.var <;> intro _) <;> try (exfalso; omega)) | with_reducible refine Sq.mk ?_ | ((with_reducible show Ld1 ..); first | refine Ld1.h H ?_ | refine Ld1.rF ?_ | refine Ld1.r ?_) | ((with_reducible show Ld ..); first | refine Ld.h H ?_ | refine Ld.r ?_) | ((with_reducible show Ix ..); first | refine Ix.h ?_ | refine Ix.ha ?_) | (refine Al.hp H ?_; clear H; intro _ _ H _) | (refine St.h H ?_; clear H; intro _ H)) | refine Sm.strix T.ok ?_)
    (conv => whnf)
    refine DCl.mono (parse1_ret p2 p3 _) ?_
    rintro _ _ ⟨rfl, hx⟩
    replace H := H.ext hx
    clear hx
    refine ⟨rfl, ?_⟩
    repeat' ((conv => whnf); first | (((with_reducible show Gd ..); first | (with_reducible first | refine Gd.t ?_ | refine Gd.f ?_ | (first | apply Gd.dec | apply Gd.beq | apply Gd.bne) <;> intro _ | refine Gd.not ?_) | refine Gd.t ?_ | refine Gd.f ?_ | apply Gd.var <;> intro _) <;> try (exfalso; omega)) | with_reducible refine Sq.mk ?_ | ((with_reducible show Ld1 ..); first | refine Ld1.h H ?_ | refine Ld1.rF ?_ | refine Ld1.r ?_) | ((with_reducible show Ld ..); first | refine Ld.h H ?_ | refine Ld.r ?_) | ((with_reducible show Ix ..); first | refine Ix.h ?_ | refine Ix.ha ?_) | (refine Al.hp H ?_; clear H; intro _ _ H _) | (refine St.h H ?_; clear H; intro _ H))
    exact .inl ⟨fs, t0 :: r0, A, c, by rw [← hR, hRp], rfl, by omega, H.sel [0, 0] rfl⟩
  rw [if_neg (show ¬ curK (t0 :: r0) = k_end from hk)] at hRp
  repeat' ((conv => whnf); first | ((with_reducible show Gd (bs _ == _) _ _); first | refine Gd.sY (by assumption) ?_ | refine Gd.sk (by assumption) ?_ | refine Gd.sN (by assumption) ?_) | ((conv => whnf); first | (((with_reducible show Gd ..); first | (with_reducible first | refine Gd.t ?_ | refine Gd.f ?_ | (first | apply Gd.dec | apply Gd.beq | apply Gd.bne) <;> intro _ | refine Gd.not ?_) | refine Gd.t ?_ | refine Gd.f ?_ | apply Gd.var <;> intro _) <;> try (exfalso; omega)) | with_reducible refine Sq.mk ?_ | ((with_reducible show Ld1 ..); first | refine Ld1.h H ?_ | refine Ld1.rF ?_ | refine Ld1.r ?_) | ((with_reducible show Ld ..); first | refine Ld.h H ?_ | refine Ld.r ?_) | ((with_reducible show Ix ..); first | refine Ix.h ?_ | refine Ix.ha ?_) | (refine Al.hp H ?_; clear H; intro _ _ H _) | (refine St.h H ?_; clear H; intro _ H)) | refine Sm.strix T.ok ?_)
  replace H := Hp.toR H hnx hr0
  (conv => whnf)
  refine Dr.chXk T.ok mixed [0, 1, 2, 6] [3, 4, 5, 7] (by kernel_rfl) rfl rfl (fun w' => Blk w' p2 24 [.slice A fs.length c]) (fun ch w' => ∃ e9 p9 q9 c9, R = .err e9 p9 ∧ ch = pk q9 ∧ Hp nw w w' [bk q9 63 [.int .i64 e9, .int .i64 (p9 : Int)], bk p3 27 [.int .i64 0, .int .i64 0], bk p2 24 [c9]])
    (fun ch w' h => ?_) (fun w1 eT _ => ?_)
  · obtain ⟨e9, p9, q9, c9, hR9, rfl, H⟩ := h
    (conv => whnf)
    refine DCl.mono (parse1_pan hG.eg H) ?_
    rintro _ w10 ⟨rfl, H2⟩
    replace H := H2
    repeat' ((conv => whnf); first | (((with_reducible show Gd ..); first | (with_reducible first | refine Gd.t ?_ | refine Gd.f ?_ | (first | apply Gd.dec | apply Gd.beq | apply Gd.bne) <;> intro _ | refine Gd.not ?_) | refine Gd.t ?_ | refine Gd.f ?_ | apply Gd.var <;> intro _) <;> try (exfalso; omega)) | with_reducible refine Sq.mk ?_ | ((with_reducible show Ld1 ..); first | refine Ld1.h H ?_ | refine Ld1.rF ?_ | refine Ld1.r ?_) | ((with_reducible show Ld ..); first | refine Ld.h H ?_ | refine Ld.r ?_) | ((with_reducible show Ix ..); first | refine Ix.h ?_ | refine Ix.ha ?_) | (refine Al.hp H ?_; clear H; intro _ _ H _) | (refine St.h H ?_; clear H; intro _ H))
    exact .inr ⟨e9, p9, by rw [← hR, hR9], rfl, H.e⟩
  replace H := H.ext eT
  repeat' ((conv => whnf); first | refine QLd1.own (fun _ hw => hw) ?_ | refine QLd.own (fun _ hw => hw) ?_)
  (conv => whnf)
  refine ⟨H.blk 4 rfl, ?_⟩
  (conv => whnf)
  refine Cl.mkX (function_c X C (t0 :: r0) _ H.e (H.atC 2 rfl) (Res.bind_out (by rw [← hRp]; exact hne))) ?_ ?_
  rotate_left
  · rintro ch w9 ⟨e9, p9, q9, h9, rfl, H'⟩
    replace H := H.upd (c := rdr l pr (t0 :: r0)) H' rfl (.inl rfl)
    exact ⟨e9, p9, q9, _, by rw [hRp, h9]; rfl, rfl, H.sel [2, 2, 2] rfl⟩
  rintro _ w3 ⟨⟨n1, P1, c1, ps1, B1, d1, b1⟩, ts1, h2, rfl, H'⟩
  replace H := H.updn (c := rdr l pr (t0 :: r0)) (Hp.swap H') rfl (.inl rfl) (.inl rfl)
  clear H'
  rw [h2, Res.bind_ok] at hRp
  (conv => whnf)
  refine ⟨H.blk 5 rfl, ?_⟩
  refine Sm.lith (cs := FM.enc ⟨n1, P1, c1, ps1, B1, d1, b1⟩) H T.ok (fun p5 w4 H _ => ?_)
  (conv => whnf)
  refine ⟨H.blk 6 rfl, ?_⟩
  refine Sm.ap1 (enc := FM.enc) ⟨n1, P1, c1, ps1, B1, d1, b1⟩ H T.ok ?_ ?_ (fun A' c' w6 H => ?_)
  · show (fs.length + 1) * 64 ≤ _; omega
  · show fs.length + 1 ≤ _; omega
  simp only [List.cons_append, List.nil_append] at H
  (conv => whnf)
  refine ⟨H.blk 5 rfl, ?_⟩
  repeat' ((conv => whnf); first | ((with_reducible show Gd (bs _ == _) _ _); first | refine Gd.sY (by assumption) ?_ | refine Gd.sk (by assumption) ?_ | refine Gd.sN (by assumption) ?_) | ((conv => whnf); first | (((with_reducible show Gd ..); first | (with_reducible first | refine Gd.t ?_ | refine Gd.f ?_ | (first | apply Gd.dec | apply Gd.beq | apply Gd.bne) <;> intro _ | refine Gd.not ?_) | refine Gd.t ?_ | refine Gd.f ?_ | apply Gd.var <;> intro _) <;> try (exfalso; omega)) | with_reducible refine Sq.mk ?_ | ((with_reducible show Ld1 ..); first | refine Ld1.h H ?_ | refine Ld1.rF ?_ | refine Ld1.r ?_) | ((with_reducible show Ld ..); first | refine Ld.h H ?_ | refine Ld.r ?_) | ((with_reducible show Ix ..); first | refine Ix.h ?_ | refine Ix.ha ?_) | (refine Al.hp H ?_; clear H; intro _ _ H _) | (refine St.h H ?_; clear H; intro _ H)) | refine Sm.strix T.ok ?_)
  refine ⟨(f, A', c', fs ++ [⟨n1, P1, c1, ps1, B1, d1, b1⟩], ts1), ⟨rfl, rfl, rfl, trivial⟩, rfl, ⟨?_, ?_, ?_⟩, Nat.lt_succ_self f⟩
  · rw [hRp, List.map_append]; rfl
  · simp only [List.length_append, List.length_cons, List.length_nil]; omega
  · have hl1 : (fs ++ [(⟨n1, P1, c1, ps1, B1, d1, b1⟩ : FM)]).length = fs.length + 1 := by simp
    simp only [hl1]
    exact Hp.swap (Hp.fnsS (H.sel [0, 1, 0, 0, 0, 0] rfl))
end Go.Proofs.YtfnjodpehomgfaaGreatDoor
namespace Go.Proofs.YtfnjodpehomgfaaGreatDoor
open Go Go.Sh Go.Tx
attribute [local irreducible] Blk Ext RdS
theorem words_rd (l : Bs) : ∀ (n p : Nat), ∀ t ∈ words l n p, ∃ a, t = (rdAt l a).1
  | 0, _, t, h => by simp [words] at h
  | n + 1, p, t, h => by
    rw [words_succ] at h
    split at h
    · rw [List.mem_singleton.1 h]; exact ⟨_, rfl⟩
    · rcases List.mem_cons.1 h with h | h
      · rw [h]; exact ⟨_, rfl⟩
      · exact words_rd l n _ t h
theorem rd_num {l : Bs} (hl : l.length ≤ 1000000) (a : Nat) : NumOk (rdAt l a).1 := by
  intro hk he
  have hsp : ∀ (c : UInt8) (r : Bs), l.drop a = c :: r → ((c :: r).take (spanN digit (c :: r))).length ≤ 1000000 := fun c r h => by
    have := congrArg List.length h
    rw [List.length_drop] at this
    rw [List.length_take]; omega
  have kn : ∀ s ∈ keywords, s ≠ k_number := by decide
  have sn : ∀ s ∈ signs, s ≠ k_number := by decide
  unfold rdAt at hk he ⊢
  split at hk
  · exact absurd (show k_end = k_number from hk) (by decide)
  · rename_i c r hd
    rw [hd] at he
    simp only at he ⊢
    split at hk
    · exfalso
      unfold named at hk
      split at hk
      · rename_i hw
        exact kn _ (List.contains_iff_mem.1 hw) hk
      · exact absurd (show k_name = k_number from hk) (by decide)
    · rename_i hc
      rw [if_neg hc] at he ⊢
      split at hk
      · rename_i hdg
        rw [if_pos hdg] at he ⊢
        have hds : Digs ((c :: r).take (spanN digit (c :: r))) := span_all digit _
        have hl2 := hsp c r hd
        generalize (c :: r).take (spanN digit (c :: r)) = s at *
        have he : (number s a).err = 0 := he
        show Digs (number s a).text ∧ (number s a).n = -(val (number s a).text : Int) ∧ val (number s a).text ≤ 9223372036854775808 ∧ (number s a).text.length ≤ 1000000
        unfold number at he ⊢
        cases hv : negOf s with
        | none => rw [hv] at he; simp at he
        | some v =>
          simp only
          unfold negOf at hv
          split at hv
          · rename_i h0
            simp only [Option.some.injEq] at hv
            subst h0 hv
            exact ⟨hds, by decide, by decide, by decide⟩
          · split at hv
            · simp at hv
            · rename_i hno
              simp only [Option.some.injEq] at hv
              exact ⟨hds, hv.symm, by omega, hl2⟩
      · split at hk
        · rename_i t hs
          exact absurd hk (sn t (List.mem_of_find?_eq_some hs))
        · exact absurd (show ([] : Bs) = k_number from hk) (by decide)
def loopG (F : PF) (n : Nat) (L : List Fnc) (ts : List Tk) : Res (List Fnc) := match L with
  | [] => (functionP F ts).bind fun f ts1 => loopF F (ts1.length + 1) [f] ts1
  | _ => loopF F n L ts
theorem loopF_s (F : PF) (n : Nat) (l : List Fnc) (ts : List Tk) : loopF F (n + 1) l ts = (if curK ts = k_end then .ok l ts else (functionP F ts).bind fun f ts1 => loopF F n (l ++ [f]) ts1) := rfl
theorem parse_G (l : Bs) (f : Nat) : parseP l f = ((chk (words l (l.length + 1) 0)).map (fun _ => ([] : List Fnc))).bind fun L ts => loopG (pf f) 0 L ts := by
  unfold parseP
  rw [step_chk, Res.map_bind]; rfl
theorem loopG_step {F : PF} {R : Res (List Fnc)} {n : Nat} {L : List Fnc} {ts : List Tk} (hR : R = loopG F n L ts) (hne : R ≠ .out) (hk : L = [] ∨ curK ts ≠ k_end) : (((.ok L ts : Res (List Fnc)).and fun _ ts => functionP F ts) ≠ .out) ∧ (L ≠ [] → 1 ≤ n) ∧ ∀ s' : RS, AtR ((.ok L ts : Res (List Fnc)).and fun _ ts => functionP F ts) s' →
    R = (((.ok L ts : Res (List Fnc)).and fun _ ts => functionP F ts).map (fun p => p.1 ++ [p.2])).bind (fun L' ts => loopG F (if L = [] then s'.ts.length + 1 else n - 1) L' ts) := by
  cases L with
  | nil =>
    replace hR : R = (functionP F ts).bind fun f ts1 => loopF F (ts1.length + 1) [f] ts1 := hR
    refine ⟨?_, fun h => absurd rfl h, fun s' ha => ?_⟩
    · show (functionP F ts).bind _ ≠ _
      cases hx : functionP F ts with
      | out => rw [hx] at hR; exact absurd hR hne
      | err e p => simp [Res.bind]
      | ok f ts1 => simp [Res.bind]
    · rw [if_pos rfl, hR]
      cases hx : functionP F ts with
      | out => simp [Res.and, Res.map, Res.bind, hx]
      | err e p => simp [Res.and, Res.map, Res.bind, hx]
      | ok f ts1 =>
        have h2 : AtR (.ok (([] : List Fnc), f) ts1 : Res (List Fnc × Fnc)) s' := ha.same (by simp [Res.and, Res.bind, hx])
        rw [h2.gd.1]
        simp [Res.and, Res.map, Res.bind, hx, loopG]
  | cons x L =>
    have hk : curK ts ≠ k_end := hk.resolve_left (by simp)
    replace hR : R = loopF F n (x :: L) ts := hR
    cases n with
    | zero => exact absurd hR hne
    | succ n =>
    rw [loopF_s, if_neg hk] at hR
    refine ⟨?_, fun _ => by omega, fun s' ha => ?_⟩
    · show (functionP F ts).bind _ ≠ _
      cases hx : functionP F ts with
      | out => rw [hx] at hR; exact absurd hR hne
      | err e p => simp [Res.bind]
      | ok f ts1 => simp [Res.bind]
    · rw [if_neg (by simp), hR]
      cases hx : functionP F ts with
      | out => simp [Res.and, Res.map, Res.bind, hx]
      | err e p => simp [Res.and, Res.map, Res.bind, hx]
      | ok f ts1 => simp [Res.and, Res.map, Res.bind, hx, loopG]
set_option maxHeartbeats 8000000 in
theorem ParseR_r (l : Bs) (w : World) : Cl Tryz.prog 11 #[.string (bs l)] w (OkP l w) (fun _ _ => False) := by
  refine calls_ex (args := [.string (bs l)]) T.ok Tryz.func11 rfl rfl rfl rfl ?_
  have H := Hp.begin nw w
  have hsz := bs_size l
  refine Sq.mk ?_
  ((conv => whnf); refine Al.hp H ?_; clear H; intro p2 _ H _)
  ((conv => whnf); refine Al.hp H ?_; clear H; intro p3 _ H _)
  by_cases hlong : 16384 < l.length
  · repeat' ((conv => whnf); first | (((with_reducible show Gd ..); first | (with_reducible first | refine Gd.t ?_ | refine Gd.f ?_ | (first | apply Gd.dec | apply Gd.beq | apply Gd.bne) <;> intro _ | refine Gd.not ?_) | refine Gd.t ?_ | refine Gd.f ?_ | apply Gd.var <;> intro _) <;> try (exfalso; omega)) | with_reducible refine Sq.mk ?_ | ((with_reducible show Ld1 ..); first | refine Ld1.h H ?_ | refine Ld1.rF ?_ | refine Ld1.r ?_) | ((with_reducible show Ld ..); first | refine Ld.h H ?_ | refine Ld.r ?_) | ((with_reducible show Ix ..); first | refine Ix.h ?_ | refine Ix.ha ?_) | (refine St.h H ?_; clear H; intro _ H))
    all_goals first | (exfalso; omega) | skip
    exact .inr ⟨2, 0, by unfold PR; rw [if_pos hlong], rfl, H.e⟩
  obtain ⟨R, hR⟩ : ∃ R, R = PR l := ⟨_, rfl⟩
  have hne : R ≠ .out := by
    rw [hR]; unfold PR; rw [if_neg hlong]
    intro e
    have := parse_fin l
    rw [e] at this
    exact this
  have hRp : R = ((chk (words l (l.length + 1) 0)).map (fun _ => ([] : List Fnc))).bind fun L ts => loopG (pf (fuelOf l)) 0 L ts := by
    rw [hR]; unfold PR; rw [if_neg hlong, parse_G]
  repeat' ((conv => whnf); first | (((with_reducible show Gd ..); first | (with_reducible first | refine Gd.t ?_ | refine Gd.f ?_ | (first | apply Gd.dec | apply Gd.beq | apply Gd.bne) <;> intro _ | refine Gd.not ?_) | refine Gd.t ?_ | refine Gd.f ?_ | apply Gd.var <;> intro _) <;> try (exfalso; omega)) | with_reducible refine Sq.mk ?_ | ((with_reducible show Ld1 ..); first | refine Ld1.h H ?_ | refine Ld1.rF ?_ | refine Ld1.r ?_) | ((with_reducible show Ld ..); first | refine Ld.h H ?_ | refine Ld.r ?_) | ((with_reducible show Ix ..); first | refine Ix.h ?_ | refine Ix.ha ?_) | (refine St.h H ?_; clear H; intro _ H))
  all_goals first | (exfalso; omega) | skip
  ((conv => whnf); refine Cl.mk (Words_r l _ (by omega)) ?_)
  rintro _ wb ⟨A, cw, rfl, H'⟩
  replace H := H.fr0 H' (.inl rfl)
  clear H'
  have hends := words_ends l (l.length + 1) 0 (Nat.zero_le _) (by omega)
  have hwl := words_len l (l.length + 1) 0
  have hpls : Pls (words l (l.length + 1) 0) := fun t ht => by
    obtain ⟨a, rfl⟩ := words_rd l _ _ t ht
    exact ⟨(rd_kind l a).2.1, (rd_kind l a).1⟩
  have hnum : ∀ t ∈ words l (l.length + 1) 0, NumOk t := fun t ht => by
    obtain ⟨a, rfl⟩ := words_rd l _ _ t ht
    exact rd_num (by omega) a
  generalize hws : words l (l.length + 1) 0 = ws at *
  have hrd := H.rdq 0 rfl
  have H0 := H
  replace H := Hp.begin nw wb
  repeat' ((conv => whnf); first | (((with_reducible show Gd ..); first | (with_reducible first | refine Gd.t ?_ | refine Gd.f ?_ | (first | apply Gd.dec | apply Gd.beq | apply Gd.bne) <;> intro _ | refine Gd.not ?_) | refine Gd.t ?_ | refine Gd.f ?_ | apply Gd.var <;> intro _) <;> try (exfalso; omega)) | with_reducible refine Sq.mk ?_ | ((with_reducible show Ld1 ..); first | refine Ld1.h H ?_ | refine Ld1.rF ?_ | refine Ld1.r ?_) | ((with_reducible show Ld ..); first | refine Ld.h H ?_ | refine Ld.r ?_) | ((with_reducible show Ix ..); first | refine Ix.h ?_ | refine Ix.ha ?_) | (refine St.h H ?_; clear H; intro _ H))
  ((conv => whnf); refine Al.hp H ?_; clear H; intro p5 _ H _)
  have hlo : wb.heap.size ≤ p5 := by assumption
  have Y : RY l ws A cw p5 wb := ⟨⟨hlo, hrd, by omega, hpls⟩, hnum⟩
  have X := Y.x
  have C := rcon_all Y (fuelOf l)
  have hfix : ∀ w', Hp nw wb w' [bk p5 54 (qCs ws A cw 0 ⟨ws, none⟩)] → Hp nw wb w' [rq ws A cw p5 ⟨ws, none⟩] := fun w' h => Hp.toQ (s := ⟨ws, none⟩) (k := 0) h rfl (fun e p h => by cases h)
  replace H := hfix _ H
  clear hfix
  repeat' ((conv => whnf); first | (((with_reducible show Gd ..); first | (with_reducible first | refine Gd.t ?_ | refine Gd.f ?_ | (first | apply Gd.dec | apply Gd.beq | apply Gd.bne) <;> intro _ | refine Gd.not ?_) | refine Gd.t ?_ | refine Gd.f ?_ | apply Gd.var <;> intro _) <;> try (exfalso; omega)) | with_reducible refine Sq.mk ?_ | ((with_reducible show Ld1 ..); first | refine Ld1.h H ?_ | refine Ld1.rF ?_ | refine Ld1.r ?_) | ((with_reducible show Ld ..); first | refine Ld.h H ?_ | refine Ld.r ?_) | ((with_reducible show Ix ..); first | refine Ix.h ?_ | refine Ix.ha ?_) | (refine St.h H ?_; clear H; intro _ H))
  ((conv => whnf); refine Al.hp H ?_; clear H; intro p6 _ H _)
  have hat : AtR (chk ws) ⟨ws, none⟩ := by
    refine ⟨hends, ?_⟩
    rcases chk_cases hends with hc | ⟨e, p, hc⟩
    · rw [hc]; exact ⟨rfl, rfl, hc⟩
    · rw [hc]; exact .inr ⟨rfl, hc⟩
  replace H := Hp.nil (Hp.fns0 H) FM.enc 3 34
  generalize hF : pf (fuelOf l) = F at *
  repeat' ((conv => whnf); first | (((with_reducible show Gd ..); first | (with_reducible first | refine Gd.t ?_ | refine Gd.f ?_ | (first | apply Gd.dec | apply Gd.beq | apply Gd.bne) <;> intro _ | refine Gd.not ?_) | refine Gd.t ?_ | refine Gd.f ?_ | apply Gd.var <;> intro _) <;> try (exfalso; omega)) | with_reducible refine Sq.mk ?_ | ((with_reducible show Ld1 ..); first | refine Ld1.h H ?_ | refine Ld1.rF ?_ | refine Ld1.r ?_) | ((with_reducible show Ld ..); first | refine Ld.h H ?_ | refine Ld.r ?_) | ((with_reducible show Ix ..); first | refine Ix.h ?_ | refine Ix.ha ?_) | (refine St.h H ?_; clear H; intro _ H))
  refine Lp.g0 T.ok (σ := Res (List Fnc) × Nat × Option Addr × Nat × List FM × RS) (fun q => [(5, .pointer (some ⟨p5, 0, none⟩)), (6, .pointer (some ⟨p6, 0, none⟩)), (2, .pointer (some ⟨p2, 0, none⟩)), (3, .pointer (some ⟨p3, 0, none⟩))])
    (fun q w' => R = q.1.bind (fun L ts => loopG F q.2.1 L ts) ∧ AtR q.1 q.2.2.2.2.2 ∧ Vl q.1 (fun a => q.2.2.2.2.1.map FM.e = a) ∧ q.2.1 ≤ 20001 ∧ (q.2.2.2.2.1 = [] ∨ (q.2.2.2.2.2.sp = none → q.2.1 + q.2.2.2.2.1.length ≤ 20002)) ∧ q.2.2.2.2.1.length ≤ 20003 ∧ Hp nw wb w' [qu FM.enc 3 34 q.2.2.1 q.2.2.2.1 q.2.2.2.2.1, fns q.2.2.2.2.1, bk p6 24 [.slice q.2.2.1 q.2.2.2.2.1.length q.2.2.2.1], rq ws A cw p5 q.2.2.2.2.2]) (fun q _ => (if q.2.2.2.2.1 = [] then 100000 else 0) + blkM q.1 q.2.1 q.2.2.2.2.2.sp)
    ((chk ws).map (fun _ => []), 0, none, 0, [], ⟨ws, none⟩) rfl ⟨rfl, rfl, rfl, rfl, trivial⟩ ⟨hRp, hat.map _, Vl.map (g := fun _ => ([] : List Fnc)) (fun _ _ _ => rfl), by simp, .inl rfl, by simp, H⟩ ?_
  clear H hRp hat
  rintro ⟨Rc, n, B, c, fs, s⟩ w5 ⟨hRp, ha, hv, hn0, hn1, hfl, H⟩
  simp only at hRp ha hv hn0 hn1 hfl H ⊢
  repeat' ((conv => whnf); first | (((with_reducible show Gd ..); first | (with_reducible first | refine Gd.t ?_ | refine Gd.f ?_ | (first | apply Gd.dec | apply Gd.beq | apply Gd.bne) <;> intro _ | refine Gd.not ?_) | refine Gd.t ?_ | refine Gd.f ?_ | apply Gd.var <;> intro _) <;> try (exfalso; omega)) | with_reducible refine Sq.mk ?_ | ((with_reducible show Ld1 ..); first | refine Ld1.h H ?_ | refine Ld1.rF ?_ | refine Ld1.r ?_) | ((with_reducible show Ld ..); first | refine Ld.h H ?_ | refine Ld.r ?_) | ((with_reducible show Ix ..); first | refine Ix.h ?_ | refine Ix.ha ?_) | (refine St.h H ?_; clear H; intro _ H))
  (((conv => whnf); refine Cl.mk (fine_r X s _ (H.atC 3 rfl)) ?_); rintro _ _ ⟨rfl, hx⟩; replace H := H.ext hx; clear hx)
  obtain ⟨ts, sp⟩ := s
  cases sp with
  | some x =>
    obtain ⟨e, p⟩ := x
    have hRe : R = .err e p := by
      rw [hRp]
      cases Rc with
      | out => exact absurd hRp hne
      | err e' p' =>
        rcases ha.at_ with h | ⟨h, _⟩
        · simp only [Option.some.injEq, Prod.mk.injEq] at h
          rw [h.1, h.2]; rfl
        · cases h
      | ok a ts1 =>
        have := ha.gd.1
        cases this
    repeat' ((conv => whnf); first | (((with_reducible show Gd ..); first | (with_reducible first | refine Gd.t ?_ | refine Gd.f ?_ | (first | apply Gd.dec | apply Gd.beq | apply Gd.bne) <;> intro _ | refine Gd.not ?_) | refine Gd.t ?_ | refine Gd.f ?_ | apply Gd.var <;> intro _) <;> try (exfalso; omega)) | with_reducible refine Sq.mk ?_ | ((with_reducible show Ld1 ..); first | refine Ld1.h H ?_ | refine Ld1.rF ?_ | refine Ld1.r ?_) | ((with_reducible show Ld ..); first | refine Ld.h H ?_ | refine Ld.r ?_) | ((with_reducible show Ix ..); first | refine Ix.h ?_ | refine Ix.ha ?_) | (refine St.h H ?_; clear H; intro _ H))
    (((conv => whnf); refine Cl.mk (fine_r X ⟨ts, some (e, p)⟩ _ (H.atC 3 rfl)) ?_); rintro _ _ ⟨rfl, hx⟩; replace H := H.ext hx; clear hx)
    repeat' ((conv => whnf); first | (((with_reducible show Gd ..); first | (with_reducible first | refine Gd.t ?_ | refine Gd.f ?_ | (first | apply Gd.dec | apply Gd.beq | apply Gd.bne) <;> intro _ | refine Gd.not ?_) | refine Gd.t ?_ | refine Gd.f ?_ | apply Gd.var <;> intro _) <;> try (exfalso; omega)) | with_reducible refine Sq.mk ?_ | ((with_reducible show Ld1 ..); first | refine Ld1.h H ?_ | refine Ld1.rF ?_ | refine Ld1.r ?_) | ((with_reducible show Ld ..); first | refine Ld.h H ?_ | refine Ld.r ?_) | ((with_reducible show Ix ..); first | refine Ix.h ?_ | refine Ix.ha ?_) | (refine St.h H ?_; clear H; intro _ H))
    obtain ⟨kk, hk1, hk2, hb0⟩ := H.atC (c := rq ws A cw p5 ⟨ts, some (e, p)⟩) 3 rfl
    replace H := Hp.ofQ H hb0
    clear hb0
    replace H := Hp.fr0L H0 H (fun c hc => by simp only [List.mem_cons, List.not_mem_nil, or_false] at hc; rcases hc with rfl | rfl | rfl | rfl <;> exact .inl rfl)
    simp only [List.cons_append, List.nil_append] at H
    (conv => whnf)
    refine Dr.ch T.ok mixed [0, 1, 2, 3, 4] [5, 6] (by kernel_rfl) rfl rfl (fun w' => Blk w' p5 54 (qCs ws A cw kk ⟨ts, some (e, p)⟩)) (fun w1 eT _ => ?_)
    replace H := H.ext eT
    repeat' ((conv => whnf); first | refine QLd1.own (fun _ hw => hw) ?_ | refine QLd.own (fun _ hw => hw) ?_)
    (conv => whnf)
    refine ⟨H.blk 3 rfl, ?_⟩
    refine St.h H (fun w2 H => ?_)
    (conv => whnf)
    refine ⟨H.blk 3 rfl, ?_⟩
    repeat' ((conv => whnf); first | (((with_reducible show Gd ..); first | (with_reducible first | refine Gd.t ?_ | refine Gd.f ?_ | (first | apply Gd.dec | apply Gd.beq | apply Gd.bne) <;> intro _ | refine Gd.not ?_) | refine Gd.t ?_ | refine Gd.f ?_ | apply Gd.var <;> intro _) <;> try (exfalso; omega)) | with_reducible refine Sq.mk ?_ | ((with_reducible show Ld1 ..); first | refine Ld1.h H ?_ | refine Ld1.rF ?_ | refine Ld1.r ?_) | ((with_reducible show Ld ..); first | refine Ld.h H ?_ | refine Ld.r ?_) | ((with_reducible show Ix ..); first | refine Ix.h ?_ | refine Ix.ha ?_) | (refine St.h H ?_; clear H; intro _ H))
    exact .inr ⟨e, p, by rw [← hR, hRe], rfl, H.e⟩
  | none =>
    have hgo : (fs = [] ∨ isR k_end ⟨ts, none⟩ = false) → ∀ w', Hp nw wb w' [qu FM.enc 3 34 B c fs, fns fs, bk p6 24 [.slice B fs.length c], rq ws A cw p5 ⟨ts, none⟩] →
        Cl Tryz.prog 30 #[.pointer (some ⟨p5, 0, none⟩)] w' (fun v w'' => ∃ f s2 Rc2 n2, v = FM.v f ∧ R = Rc2.bind (fun L ts => loopG F n2 L ts) ∧ AtR Rc2 s2 ∧ Vl Rc2 (fun a => (fs ++ [f]).map FM.e = a) ∧ n2 ≤ 20001 ∧ (s2.sp = none → n2 + (fs.length + 1) ≤ 20002) ∧ fs.length + 1 ≤ 20003 ∧ blkM Rc2 n2 s2.sp < (if fs = [] then 100000 else 0) + blkM Rc n none ∧ Hp nw wb w'' [qu FM.enc 3 34 B c fs, bk p6 24 [.slice B fs.length c], rq ws A cw p5 s2, fns [f], fns fs]) (fun _ _ => False) := fun hc w' H => by
      have hfl2 : fs.length + 1 ≤ 20003 := by
        rcases hn1 with h | h
        · rw [h]; simp
        · have := h rfl; omega
      cases Rc with
      | out => exact absurd hRp hne
      | err e p =>
        refine Cl.mkX (functionD Y ⟨ts, none⟩ _ H.e (H.atC 3 rfl) ha.toErr) (fun v w'' q => ?_) (fun _ _ h => h)
        obtain ⟨f, rfl, H'⟩ := q
        replace H := H.updn (c := rq ws A cw p5 ⟨ts, none⟩) (Hp.swap H') rfl (.inl rfl) (.inl rfl)
        refine ⟨f, ⟨ts, some (e, p)⟩, .err e p, 0, rfl, hRp, ⟨ha.ends, .inl rfl⟩, Vl.err, by omega, (fun h => by cases h), hfl2, ?_, H.sel [1, 2, 2, 0, 0] rfl⟩
        simp only [blkM]
        split <;> omega
      | ok L ts1 =>
        obtain ⟨hs, hg⟩ := ha.gd
        obtain rfl : ts = ts1 := by cases hs; rfl
        have hLf : fs.map FM.e = L := hv L _ rfl
        have hLe : L = [] ↔ fs = [] := by rw [← hLf]; simp
        have hk : L = [] ∨ curK ts ≠ k_end := by
          rcases hc with h | h
          · exact .inl (hLe.2 h)
          · right
            rw [is_ok ha] at h
            simpa using h
        obtain ⟨g1, g2, g3⟩ := loopG_step hRp hne hk
        refine Cl.mkX (function_r Y C (.ok L ts : Res (List Fnc)) ⟨ts, none⟩ _ H.e (H.atC 3 rfl) ha g1) (fun v w'' q => ?_) (fun _ _ h => h)
        obtain ⟨f, s2, rfl, ha2, hv2, H'⟩ := q
        replace H := H.updn (c := rq ws A cw p5 ⟨ts, none⟩) (Hp.swap H') rfl (.inl rfl) (.inl rfl)
        have hsm := RdQ.small X (H.atC (c := rq ws A cw p5 s2) 4 rfl)
        have hb := blkM_le (((.ok L ts : Res (List Fnc)).and fun _ ts => functionP F ts).map (fun p => p.1 ++ [p.2])) (if L = [] then s2.ts.length + 1 else n - 1) s2.sp
        refine ⟨f, s2, ((.ok L ts : Res (List Fnc)).and fun _ ts => functionP F ts).map (fun p => p.1 ++ [p.2]), if L = [] then s2.ts.length + 1 else n - 1, rfl, g3 s2 ha2, ha2.map _, Vl.map (Vl.mono2 (Vl.fst hv) hv2 fun a h1 h2 => by rw [List.map_append, h1]; simp only [List.map_cons, List.map_nil]; rw [h2]), ?_, fun _ => ?_, hfl2, ?_, H.sel [1, 2, 2, 0, 0] rfl⟩
        · split <;> omega
        · split
          · rename_i h
            rw [hLe.1 h]; simp only [List.length_nil]; omega
          · rename_i h
            have := (hn1.resolve_left fun e => h (hLe.2 e)) rfl
            have := g2 h
            omega
        · refine Nat.lt_of_le_of_lt hb ?_
          simp only [blkM]
          by_cases h : fs = []
          · rw [if_pos h, if_pos (hLe.2 h)]; omega
          · rw [if_neg h, if_neg (fun e => h (hLe.1 e))]
            have := g2 (fun e => h (hLe.1 e))
            omega
    repeat' ((conv => whnf); first | (((with_reducible show Gd ..); first | (with_reducible first | refine Gd.t ?_ | refine Gd.f ?_ | (first | apply Gd.dec | apply Gd.beq | apply Gd.bne) <;> intro _ | refine Gd.not ?_) | refine Gd.t ?_ | refine Gd.f ?_ | apply Gd.var <;> intro _) <;> try (exfalso; omega)) | with_reducible refine Sq.mk ?_ | ((with_reducible show Ld1 ..); first | refine Ld1.h H ?_ | refine Ld1.rF ?_ | refine Ld1.r ?_) | ((with_reducible show Ld ..); first | refine Ld.h H ?_ | refine Ld.r ?_) | ((with_reducible show Ix ..); first | refine Ix.h ?_ | refine Ix.ha ?_) | (refine St.h H ?_; clear H; intro _ H))
    · have hfe : fs = [] := List.eq_nil_of_length_eq_zero (by omega)
      ((conv => whnf); refine Cl.mk (hgo (.inl hfe) _ H) ?_)
      rintro _ w6 ⟨f, s2, Rc2, n2, rfl, g1, g2, g3, g4, g5, g6, g7, H⟩
      (obtain ⟨nm1, P1, cp1, ps1, B1, cb1, b1⟩ := f; ((conv => whnf); refine Al.hp H ?_; clear H; intro p7 _ H _); (repeat' ((conv => whnf); first | (((with_reducible show Gd ..); first | (with_reducible first | refine Gd.t ?_ | refine Gd.f ?_ | (first | apply Gd.dec | apply Gd.beq | apply Gd.bne) <;> intro _ | refine Gd.not ?_) | refine Gd.t ?_ | refine Gd.f ?_ | apply Gd.var <;> intro _) <;> try (exfalso; omega)) | with_reducible refine Sq.mk ?_ | ((with_reducible show Ld1 ..); first | refine Ld1.h H ?_ | refine Ld1.rF ?_ | refine Ld1.r ?_) | ((with_reducible show Ld ..); first | refine Ld.h H ?_ | refine Ld.r ?_) | ((with_reducible show Ix ..); first | refine Ix.h ?_ | refine Ix.ha ?_) | (refine St.h H ?_; clear H; intro _ H))); refine Sm.lith (cs := FM.enc ⟨nm1, P1, cp1, ps1, B1, cb1, b1⟩) H T.ok (fun p8 w8 H _ => ?_); refine Sm.ap1 (enc := FM.enc) ⟨nm1, P1, cp1, ps1, B1, cb1, b1⟩ H T.ok ?_ ?_ (fun A' c' w9 H => ?_); (focus (show (fs.length + 1) * 64 ≤ _; omega)); (focus omega); simp only [List.cons_append, List.nil_append] at H; (repeat' ((conv => whnf); first | (((with_reducible show Gd ..); first | (with_reducible first | refine Gd.t ?_ | refine Gd.f ?_ | (first | apply Gd.dec | apply Gd.beq | apply Gd.bne) <;> intro _ | refine Gd.not ?_) | refine Gd.t ?_ | refine Gd.f ?_ | apply Gd.var <;> intro _) <;> try (exfalso; omega)) | with_reducible refine Sq.mk ?_ | ((with_reducible show Ld1 ..); first | refine Ld1.h H ?_ | refine Ld1.rF ?_ | refine Ld1.r ?_) | ((with_reducible show Ld ..); first | refine Ld.h H ?_ | refine Ld.r ?_) | ((with_reducible show Ix ..); first | refine Ix.h ?_ | refine Ix.ha ?_) | (refine St.h H ?_; clear H; intro _ H))); have hl1 : (fs ++ [(⟨nm1, P1, cp1, ps1, B1, cb1, b1⟩ : FM)]).length = fs.length + 1 := (by simp); refine ⟨(Rc2, n2, A', c', fs ++ [⟨nm1, P1, cp1, ps1, B1, cb1, b1⟩], s2), ⟨rfl, rfl, rfl, rfl, trivial⟩, rfl, ⟨g1, g2, g3, g4, .inr (by simp only [hl1]; exact g5), (by simp only [hl1]; exact g6), ?_⟩, (by show (if fs ++ [(⟨nm1, P1, cp1, ps1, B1, cb1, b1⟩ : FM)] = [] then 100000 else 0) + blkM Rc2 n2 s2.sp < _; rw [if_neg (by simp)]; exact Nat.lt_of_le_of_lt (Nat.le_of_eq (Nat.zero_add _)) g7)⟩; simp only [hl1]; exact Hp.swap (Hp.fnsS (H.sel [4, 4, 1, 1, 1] rfl)))
    · have hfe : ¬ fs = [] := fun h => by
        have : ((fs.length : Int)) ≠ 0 := by assumption
        rw [h] at this
        exact this rfl
      (((conv => whnf); refine Cl.mk (is_r X k_end ⟨ts, none⟩ _ (Hp.e H) (H.atC 3 rfl) (ends_ne ha.ends)) ?_); rintro _ _ ⟨rfl, hx⟩; replace H := H.ext hx; clear hx)
      by_cases hke : isR k_end ⟨ts, none⟩ = true
      case neg =>
        rw [Bool.eq_false_iff.2 hke]
        repeat' ((conv => whnf); first | (((with_reducible show Gd ..); first | (with_reducible first | refine Gd.t ?_ | refine Gd.f ?_ | (first | apply Gd.dec | apply Gd.beq | apply Gd.bne) <;> intro _ | refine Gd.not ?_) | refine Gd.t ?_ | refine Gd.f ?_ | apply Gd.var <;> intro _) <;> try (exfalso; omega)) | with_reducible refine Sq.mk ?_ | ((with_reducible show Ld1 ..); first | refine Ld1.h H ?_ | refine Ld1.rF ?_ | refine Ld1.r ?_) | ((with_reducible show Ld ..); first | refine Ld.h H ?_ | refine Ld.r ?_) | ((with_reducible show Ix ..); first | refine Ix.h ?_ | refine Ix.ha ?_) | (refine St.h H ?_; clear H; intro _ H))
        ((conv => whnf); refine Cl.mk (hgo (.inr (Bool.eq_false_iff.2 hke)) _ H) ?_)
        rintro _ w6 ⟨f, s2, Rc2, n2, rfl, g1, g2, g3, g4, g5, g6, g7, H⟩
        (obtain ⟨nm1, P1, cp1, ps1, B1, cb1, b1⟩ := f; ((conv => whnf); refine Al.hp H ?_; clear H; intro p7 _ H _); (repeat' ((conv => whnf); first | (((with_reducible show Gd ..); first | (with_reducible first | refine Gd.t ?_ | refine Gd.f ?_ | (first | apply Gd.dec | apply Gd.beq | apply Gd.bne) <;> intro _ | refine Gd.not ?_) | refine Gd.t ?_ | refine Gd.f ?_ | apply Gd.var <;> intro _) <;> try (exfalso; omega)) | with_reducible refine Sq.mk ?_ | ((with_reducible show Ld1 ..); first | refine Ld1.h H ?_ | refine Ld1.rF ?_ | refine Ld1.r ?_) | ((with_reducible show Ld ..); first | refine Ld.h H ?_ | refine Ld.r ?_) | ((with_reducible show Ix ..); first | refine Ix.h ?_ | refine Ix.ha ?_) | (refine St.h H ?_; clear H; intro _ H))); refine Sm.lith (cs := FM.enc ⟨nm1, P1, cp1, ps1, B1, cb1, b1⟩) H T.ok (fun p8 w8 H _ => ?_); refine Sm.ap1 (enc := FM.enc) ⟨nm1, P1, cp1, ps1, B1, cb1, b1⟩ H T.ok ?_ ?_ (fun A' c' w9 H => ?_); (focus (show (fs.length + 1) * 64 ≤ _; omega)); (focus omega); simp only [List.cons_append, List.nil_append] at H; (repeat' ((conv => whnf); first | (((with_reducible show Gd ..); first | (with_reducible first | refine Gd.t ?_ | refine Gd.f ?_ | (first | apply Gd.dec | apply Gd.beq | apply Gd.bne) <;> intro _ | refine Gd.not ?_) | refine Gd.t ?_ | refine Gd.f ?_ | apply Gd.var <;> intro _) <;> try (exfalso; omega)) | with_reducible refine Sq.mk ?_ | ((with_reducible show Ld1 ..); first | refine Ld1.h H ?_ | refine Ld1.rF ?_ | refine Ld1.r ?_) | ((with_reducible show Ld ..); first | refine Ld.h H ?_ | refine Ld.r ?_) | ((with_reducible show Ix ..); first | refine Ix.h ?_ | refine Ix.ha ?_) | (refine St.h H ?_; clear H; intro _ H))); have hl1 : (fs ++ [(⟨nm1, P1, cp1, ps1, B1, cb1, b1⟩ : FM)]).length = fs.length + 1 := (by simp); refine ⟨(Rc2, n2, A', c', fs ++ [⟨nm1, P1, cp1, ps1, B1, cb1, b1⟩], s2), ⟨rfl, rfl, rfl, rfl, trivial⟩, rfl, ⟨g1, g2, g3, g4, .inr (by simp only [hl1]; exact g5), (by simp only [hl1]; exact g6), ?_⟩, (by show (if fs ++ [(⟨nm1, P1, cp1, ps1, B1, cb1, b1⟩ : FM)] = [] then 100000 else 0) + blkM Rc2 n2 s2.sp < _; rw [if_neg (by simp)]; exact Nat.lt_of_le_of_lt (Nat.le_of_eq (Nat.zero_add _)) g7)⟩; simp only [hl1]; exact Hp.swap (Hp.fnsS (H.sel [4, 4, 1, 1, 1] rfl)))
      rw [hke]
      have hRe : R = .ok (fs.map FM.e) ts := by
        rw [hRp]
        cases Rc with
        | out => exact absurd hRp hne
        | err e p => rw [is_err ha (by decide) (by decide)] at hke; cases hke
        | ok L ts1 =>
          obtain ⟨hs, hg⟩ := ha.gd
          obtain rfl : ts = ts1 := by cases hs; rfl
          rw [is_ok ha] at hke
          have hk : curK ts = k_end := by simpa using hke
          have hLf : fs.map FM.e = L := hv L _ rfl
          rw [hLf]
          cases L with
          | nil => exact absurd (List.map_eq_nil_iff.1 hLf) hfe
          | cons x L =>
            replace hRp : R = loopF F n (x :: L) ts := hRp
            show loopF F n (x :: L) ts = _
            cases n with
            | zero => exact absurd hRp hne
            | succ n => rw [loopF_s, if_pos hk]
      repeat' ((conv => whnf); first | (((with_reducible show Gd ..); first | (with_reducible first | refine Gd.t ?_ | refine Gd.f ?_ | (first | apply Gd.dec | apply Gd.beq | apply Gd.bne) <;> intro _ | refine Gd.not ?_) | refine Gd.t ?_ | refine Gd.f ?_ | apply Gd.var <;> intro _) <;> try (exfalso; omega)) | with_reducible refine Sq.mk ?_ | ((with_reducible show Ld1 ..); first | refine Ld1.h H ?_ | refine Ld1.rF ?_ | refine Ld1.r ?_) | ((with_reducible show Ld ..); first | refine Ld.h H ?_ | refine Ld.r ?_) | ((with_reducible show Ix ..); first | refine Ix.h ?_ | refine Ix.ha ?_) | (refine St.h H ?_; clear H; intro _ H))
      (((conv => whnf); refine Cl.mk (fine_r X ⟨ts, none⟩ _ (H.atC 3 rfl)) ?_); rintro _ _ ⟨rfl, hx⟩; replace H := H.ext hx; clear hx)
      repeat' ((conv => whnf); first | (((with_reducible show Gd ..); first | (with_reducible first | refine Gd.t ?_ | refine Gd.f ?_ | (first | apply Gd.dec | apply Gd.beq | apply Gd.bne) <;> intro _ | refine Gd.not ?_) | refine Gd.t ?_ | refine Gd.f ?_ | apply Gd.var <;> intro _) <;> try (exfalso; omega)) | with_reducible refine Sq.mk ?_ | ((with_reducible show Ld1 ..); first | refine Ld1.h H ?_ | refine Ld1.rF ?_ | refine Ld1.r ?_) | ((with_reducible show Ld ..); first | refine Ld.h H ?_ | refine Ld.r ?_) | ((with_reducible show Ix ..); first | refine Ix.h ?_ | refine Ix.ha ?_) | (refine St.h H ?_; clear H; intro _ H))
      replace H := Hp.fr0L H0 H (fun c hc => by simp only [List.mem_cons, List.not_mem_nil, or_false] at hc; rcases hc with rfl | rfl | rfl | rfl <;> exact .inl rfl)
      simp only [List.cons_append, List.nil_append] at H
      repeat' ((conv => whnf); first | (((with_reducible show Gd ..); first | (with_reducible first | refine Gd.t ?_ | refine Gd.f ?_ | (first | apply Gd.dec | apply Gd.beq | apply Gd.bne) <;> intro _ | refine Gd.not ?_) | refine Gd.t ?_ | refine Gd.f ?_ | apply Gd.var <;> intro _) <;> try (exfalso; omega)) | with_reducible refine Sq.mk ?_ | ((with_reducible show Ld1 ..); first | refine Ld1.h H ?_ | refine Ld1.rF ?_ | refine Ld1.r ?_) | ((with_reducible show Ld ..); first | refine Ld.h H ?_ | refine Ld.r ?_) | ((with_reducible show Ix ..); first | refine Ix.h ?_ | refine Ix.ha ?_) | (refine St.h H ?_; clear H; intro _ H))
      exact .inl ⟨fs, ts, B, c, by rw [← hR, hRe], rfl, by omega, H.sel [0, 0] rfl⟩
end Go.Proofs.YtfnjodpehomgfaaGreatDoor
namespace Go.Proofs.YtfnjodpehomgfaaGreatDoor
open Go Go.Sh Go.Tx
attribute [local irreducible] Blk Ext RdS
mutual
def sameE : Ex → Ex → Bool
  | .mk k o n a b l, .mk k2 o2 n2 a2 b2 l2 => k == k2 && o == o2 && n == n2 && a == a2 && b == b2 && sameL l l2
def sameL : List Ex → List Ex → Bool
  | [], [] => true
  | x :: r, y :: s => sameE x y && sameL r s
  | [], _ :: _ => false
  | _ :: _, [] => false
end
theorem sameL_len : ∀ {l m : List Ex}, sameL l m = true → l.length = m.length
  | [], [], _ => rfl
  | x :: r, y :: s, h => by
    simp only [sameL, Bool.and_eq_true] at h
    simp [sameL_len h.2]
  | [], _ :: _, h => by simp [sameL] at h
  | _ :: _, [], h => by simp [sameL] at h
theorem sameL_ne {l m : List Ex} (h : l.length ≠ m.length) : sameL l m = false := by
  cases hx : sameL l m with
  | false => rfl
  | true => exact absurd (sameL_len hx) h
mutual
def ET.sz : ET → Nat
  | .mk _ _ _ _ _ _ _ ks => ET.szs ks + 1
def ET.szs : List ET → Nat
  | [] => 0
  | x :: r => ET.sz x + ET.szs r
end
theorem ET.sz_mem {x : ET} : ∀ {l : List ET}, x ∈ l → ET.sz x ≤ ET.szs l
  | [], h => by simp at h
  | y :: r, h => by
    simp only [ET.szs]
    rcases List.mem_cons.1 h with rfl | h
    · omega
    · have := ET.sz_mem h; omega
theorem ET.oks_mem {w : World} {x : ET} : ∀ {l : List ET}, x ∈ l → ET.Oks w l → ET.Ok w x
  | [], h, _ => by simp at h
  | y :: r, h, hk => by
    rcases List.mem_cons.1 h with rfl | h
    · exact hk.1
    · exact ET.oks_mem h hk.2
theorem ET.es_drop : ∀ (l : List ET) (i : Nat), ET.es (l.drop i) = (ET.es l).drop i
  | l, 0 => by simp
  | [], i + 1 => by simp [ET.es]
  | x :: r, i + 1 => by simp [ET.es, ET.es_drop r i]
theorem ET.Ok.ext {w w' : World} {t : ET} (h : ET.Ok w t) (e : Ext w w') : ET.Ok w' t := ET.Ok.loc e.size h fun b hb => by
  have e2 := e
  unfold Ext at e2
  exact Go.RowKit.Below.block e2 b (ET.Ok.lt h b hb)
set_option maxHeartbeats 2000000 in
theorem sameExpr_c : ∀ (n : Nat) (x y : ET) (w : World), ET.sz x ≤ n → ET.Ok w x → ET.Ok w y → Cl Tryz.prog 63 #[x.v, y.v] w (fun v w' => v = .bool (sameE x.e y.e) ∧ Ext w w') (fun _ _ => False)
  | 0, x, y, w, hn, _, _ => by cases x; simp [ET.sz] at hn
  | n + 1, .mk k1 o1 n1 a1 b1 A1 c1 l1, .mk k2 o2 n2 a2 b2 A2 c2 l2, w, hn, hx, hy => by
    refine calls_ex (args := [.agg #[.int .i64 k1, .int .i64 o1, .int .i64 n1, .string (bs a1), .string (bs b1), .slice A1 l1.length c1], .agg #[.int .i64 k2, .int .i64 o2, .int .i64 n2, .string (bs a2), .string (bs b2), .slice A2 l2.length c2]]) T.ok Tryz.func63 rfl rfl rfl rfl ?_
    have H := Hp.begin nw w
    refine Sq.mk ?_
    ((conv => whnf); refine Al.hp H ?_; clear H; intro p2 _ H _)
    ((conv => whnf); refine Al.hp H ?_; clear H; intro p3 _ H _)
    repeat' ((conv => whnf); first | (((with_reducible show Gd ..); first | (with_reducible first | refine Gd.t ?_ | refine Gd.f ?_ | (first | apply Gd.dec | apply Gd.beq | apply Gd.bne) <;> intro _ | refine Gd.not ?_) | refine Gd.t ?_ | refine Gd.f ?_ | apply Gd.var <;> intro _) <;> try (exfalso; omega)) | with_reducible refine Sq.mk ?_ | ((with_reducible show Ld1 ..); first | refine Ld1.h H ?_ | refine Ld1.rF ?_ | refine Ld1.r ?_) | ((with_reducible show Ld ..); first | refine Ld.h H ?_ | refine Ld.r ?_) | ((with_reducible show Ix ..); first | refine Ix.h ?_ | refine Ix.ha ?_) | (refine Al.hp H ?_; clear H; intro _ _ H _) | (refine St.h H ?_; clear H; intro _ H))
    · rename_i h
      repeat' ((conv => whnf); first | (((with_reducible show Gd ..); first | (with_reducible first | refine Gd.t ?_ | refine Gd.f ?_ | (first | apply Gd.dec | apply Gd.beq | apply Gd.bne) <;> intro _ | refine Gd.not ?_) | refine Gd.t ?_ | refine Gd.f ?_ | apply Gd.var <;> intro _) <;> try (exfalso; omega)) | with_reducible refine Sq.mk ?_ | ((with_reducible show Ld1 ..); first | refine Ld1.h H ?_ | refine Ld1.rF ?_ | refine Ld1.r ?_) | ((with_reducible show Ld ..); first | refine Ld.h H ?_ | refine Ld.r ?_) | ((with_reducible show Ix ..); first | refine Ix.h ?_ | refine Ix.ha ?_) | (refine Al.hp H ?_; clear H; intro _ _ H _) | (refine St.h H ?_; clear H; intro _ H))
      exact ⟨b_eq (by simp [ET.e, sameE, h]), H.e⟩
    · rename_i h
      repeat' ((conv => whnf); first | (((with_reducible show Gd ..); first | (with_reducible first | refine Gd.t ?_ | refine Gd.f ?_ | (first | apply Gd.dec | apply Gd.beq | apply Gd.bne) <;> intro _ | refine Gd.not ?_) | refine Gd.t ?_ | refine Gd.f ?_ | apply Gd.var <;> intro _) <;> try (exfalso; omega)) | with_reducible refine Sq.mk ?_ | ((with_reducible show Ld1 ..); first | refine Ld1.h H ?_ | refine Ld1.rF ?_ | refine Ld1.r ?_) | ((with_reducible show Ld ..); first | refine Ld.h H ?_ | refine Ld.r ?_) | ((with_reducible show Ix ..); first | refine Ix.h ?_ | refine Ix.ha ?_) | (refine Al.hp H ?_; clear H; intro _ _ H _) | (refine St.h H ?_; clear H; intro _ H))
      exact ⟨b_eq (by simp [ET.e, sameE, h]), H.e⟩
    · rename_i h
      repeat' ((conv => whnf); first | (((with_reducible show Gd ..); first | (with_reducible first | refine Gd.t ?_ | refine Gd.f ?_ | (first | apply Gd.dec | apply Gd.beq | apply Gd.bne) <;> intro _ | refine Gd.not ?_) | refine Gd.t ?_ | refine Gd.f ?_ | apply Gd.var <;> intro _) <;> try (exfalso; omega)) | with_reducible refine Sq.mk ?_ | ((with_reducible show Ld1 ..); first | refine Ld1.h H ?_ | refine Ld1.rF ?_ | refine Ld1.r ?_) | ((with_reducible show Ld ..); first | refine Ld.h H ?_ | refine Ld.r ?_) | ((with_reducible show Ix ..); first | refine Ix.h ?_ | refine Ix.ha ?_) | (refine Al.hp H ?_; clear H; intro _ _ H _) | (refine St.h H ?_; clear H; intro _ H))
      exact ⟨b_eq (by simp [ET.e, sameE, h]), H.e⟩
    · rename_i h
      repeat' ((conv => whnf); first | (((with_reducible show Gd ..); first | (with_reducible first | refine Gd.t ?_ | refine Gd.f ?_ | (first | apply Gd.dec | apply Gd.beq | apply Gd.bne) <;> intro _ | refine Gd.not ?_) | refine Gd.t ?_ | refine Gd.f ?_ | apply Gd.var <;> intro _) <;> try (exfalso; omega)) | with_reducible refine Sq.mk ?_ | ((with_reducible show Ld1 ..); first | refine Ld1.h H ?_ | refine Ld1.rF ?_ | refine Ld1.r ?_) | ((with_reducible show Ld ..); first | refine Ld.h H ?_ | refine Ld.r ?_) | ((with_reducible show Ix ..); first | refine Ix.h ?_ | refine Ix.ha ?_) | (refine Al.hp H ?_; clear H; intro _ _ H _) | (refine St.h H ?_; clear H; intro _ H))
      exact ⟨b_eq (by simp only [ET.e, sameE]; rw [sameL_ne (by rw [ET.es_len, ET.es_len]; omega)]; simp), H.e⟩
    · rename_i h1 h2 h3 h4 h5 h6
      rw [bs_eq] at h4 h5
      have h4 := of_decide_eq_true h4
      have h5 := of_decide_eq_true h5
      have hl : l1.length = l2.length := by omega
      have hE : sameE (ET.e (.mk k1 o1 n1 a1 b1 A1 c1 l1)) (ET.e (.mk k2 o2 n2 a2 b2 A2 c2 l2)) = sameL (ET.es l1) (ET.es l2) := by simp [ET.e, sameE, h1, h2, h3, h4, h5]
      rw [hE]
      clear h1 h2 h3 h4 h5 h6 hE
      have hq1 := hx.1.rd
      have hq2 := hy.1.rd
      have hlb : l1.length ≤ 2000000 := hx.2.2
      repeat' ((conv => whnf); first | (((with_reducible show Gd ..); first | (with_reducible first | refine Gd.t ?_ | refine Gd.f ?_ | (first | apply Gd.dec | apply Gd.beq | apply Gd.bne) <;> intro _ | refine Gd.not ?_) | refine Gd.t ?_ | refine Gd.f ?_ | apply Gd.var <;> intro _) <;> try (exfalso; omega)) | with_reducible refine Sq.mk ?_ | ((with_reducible show Ld1 ..); first | refine Ld1.h H ?_ | refine Ld1.rF ?_ | refine Ld1.r ?_) | ((with_reducible show Ld ..); first | refine Ld.h H ?_ | refine Ld.r ?_) | ((with_reducible show Ix ..); first | refine Ix.h ?_ | refine Ix.ha ?_) | (refine Al.hp H ?_; clear H; intro _ _ H _) | (refine St.h H ?_; clear H; intro _ H))
      refine Lp.g0 T.ok (σ := Nat) (fun i => [(5, .int .i64 (i : Int)), (2, .pointer (some ⟨p2, 0, none⟩)), (3, .pointer (some ⟨p3, 0, none⟩))])
        (fun i w' => i ≤ l1.length ∧ sameL (ET.es l1) (ET.es l2) = sameL ((ET.es l1).drop i) ((ET.es l2).drop i) ∧ Hp nw w w' [bk p3 74 [.int .i64 k2, .int .i64 o2, .int .i64 n2, .string (bs a2), .string (bs b2), .slice A2 l2.length c2], bk p2 74 [.int .i64 k1, .int .i64 o1, .int .i64 n1, .string (bs a1), .string (bs b1), .slice A1 l1.length c1]]) (fun i _ => l1.length - i) 0 rfl ⟨rfl, rfl, rfl, trivial⟩ ⟨Nat.zero_le _, rfl, H⟩ ?_
      clear H
      rintro i w5 ⟨hi, hs, H⟩
      by_cases hlt : i < l1.length
      · obtain ⟨u, hu⟩ : ∃ u, l1[i]? = some u := ⟨_, List.getElem?_eq_getElem hlt⟩
        obtain ⟨v, hv⟩ : ∃ v, l2[i]? = some v := ⟨_, List.getElem?_eq_getElem (show i < l2.length by omega)⟩
        have hr1 := RdS.from H.e hq1
        have hr2 := RdS.from H.e hq2
        have hlt2 : i < l2.length := by omega
        have hd1 : (ET.es l1).drop i = ET.e u :: (ET.es l1).drop (i + 1) := by
          obtain ⟨g1, g2⟩ := List.getElem?_eq_some_iff.1 hu
          rw [← ET.es_drop, List.drop_eq_getElem_cons g1, g2, ET.es, ET.es_drop]
        have hd2 : (ET.es l2).drop i = ET.e v :: (ET.es l2).drop (i + 1) := by
          obtain ⟨g1, g2⟩ := List.getElem?_eq_some_iff.1 hv
          rw [← ET.es_drop, List.drop_eq_getElem_cons g1, g2, ET.es, ET.es_drop]
        rw [hd1, hd2, sameL] at hs
        repeat' ((conv => whnf); first | (((with_reducible show Gd ..); first | (with_reducible first | refine Gd.t ?_ | refine Gd.f ?_ | (first | apply Gd.dec | apply Gd.beq | apply Gd.bne) <;> intro _ | refine Gd.not ?_) | refine Gd.t ?_ | refine Gd.f ?_ | apply Gd.var <;> intro _) <;> try (exfalso; omega)) | with_reducible refine Sq.mk ?_ | ((with_reducible show Ld1 ..); first | refine Ld1.h H ?_ | refine Ld1.rF ?_ | refine Ld1.r ?_) | ((with_reducible show Ld ..); first | refine Ld.h H ?_ | refine Ld.r ?_) | ((with_reducible show Ix ..); first | refine Ix.h ?_ | refine Ix.ha ?_) | (refine Al.hp H ?_; clear H; intro _ _ H _) | (refine St.h H ?_; clear H; intro _ H))
        have hzn : ET.sz u ≤ n := by
          have := ET.sz_mem (List.mem_of_getElem? hu)
          simp only [ET.sz] at hn
          omega
        ((conv => whnf); refine Dr.tail T.ok mixed 10 (by kernel_rfl) (fun W wT hW eT _ => ?_); (repeat' ((conv => whnf); first | (((with_reducible show Gd ..); first | (with_reducible first | refine Gd.t ?_ | refine Gd.f ?_ | (first | apply Gd.dec | apply Gd.beq | apply Gd.bne) <;> intro _ | refine Gd.not ?_) | refine Gd.t ?_ | refine Gd.f ?_ | apply Gd.var <;> intro _) <;> try (exfalso; omega)) | ((with_reducible show QLd1 ..); first | refine QLd1.h hW H ?_ | refine QLd1.rF hW ?_ | refine QLd1.r hW ?_) | ((with_reducible show QLd ..); first | refine QLd.h hW H ?_ | refine QLd.r hW ?_) | ((with_reducible show Ix ..); first | refine Ix.h ?_ | refine Ix.ha ?_))); replace H := H.ext eT; clear hW eT)
        (((conv => whnf); refine Cl.mk (sameExpr_c n u v _ hzn ((ET.oks_mem (List.mem_of_getElem? hu) hx.2.1).ext H.e) ((ET.oks_mem (List.mem_of_getElem? hv) hy.2.1).ext H.e)) ?_); rintro _ _ ⟨rfl, hx⟩; replace H := H.ext hx; clear hx)
        cases hb : sameE u.e v.e with
        | true =>
          rw [hb, Bool.true_and] at hs
          repeat' ((conv => whnf); first | (((with_reducible show Gd ..); first | (with_reducible first | refine Gd.t ?_ | refine Gd.f ?_ | (first | apply Gd.dec | apply Gd.beq | apply Gd.bne) <;> intro _ | refine Gd.not ?_) | refine Gd.t ?_ | refine Gd.f ?_ | apply Gd.var <;> intro _) <;> try (exfalso; omega)) | with_reducible refine Sq.mk ?_ | ((with_reducible show Ld1 ..); first | refine Ld1.h H ?_ | refine Ld1.rF ?_ | refine Ld1.r ?_) | ((with_reducible show Ld ..); first | refine Ld.h H ?_ | refine Ld.r ?_) | ((with_reducible show Ix ..); first | refine Ix.h ?_ | refine Ix.ha ?_) | (refine Al.hp H ?_; clear H; intro _ _ H _) | (refine St.h H ?_; clear H; intro _ H))
          exact ⟨i + 1, ⟨at_int (m := ((i + 1 : Nat) : Int)) rfl (w64 (by simp) (by omega) (by omega)), rfl, rfl, trivial⟩, rfl, ⟨by omega, hs, H⟩, by omega⟩
        | false =>
          rw [hb, Bool.false_and] at hs
          repeat' ((conv => whnf); first | (((with_reducible show Gd ..); first | (with_reducible first | refine Gd.t ?_ | refine Gd.f ?_ | (first | apply Gd.dec | apply Gd.beq | apply Gd.bne) <;> intro _ | refine Gd.not ?_) | refine Gd.t ?_ | refine Gd.f ?_ | apply Gd.var <;> intro _) <;> try (exfalso; omega)) | with_reducible refine Sq.mk ?_ | ((with_reducible show Ld1 ..); first | refine Ld1.h H ?_ | refine Ld1.rF ?_ | refine Ld1.r ?_) | ((with_reducible show Ld ..); first | refine Ld.h H ?_ | refine Ld.r ?_) | ((with_reducible show Ix ..); first | refine Ix.h ?_ | refine Ix.ha ?_) | (refine Al.hp H ?_; clear H; intro _ _ H _) | (refine St.h H ?_; clear H; intro _ H))
          exact ⟨b_eq hs.symm, H.e⟩
      · have h1 : (ET.es l1).drop i = [] := List.drop_of_length_le (by rw [ET.es_len]; omega)
        have h2 : (ET.es l2).drop i = [] := List.drop_of_length_le (by rw [ET.es_len]; omega)
        rw [h1, h2] at hs
        repeat' ((conv => whnf); first | (((with_reducible show Gd ..); first | (with_reducible first | refine Gd.t ?_ | refine Gd.f ?_ | (first | apply Gd.dec | apply Gd.beq | apply Gd.bne) <;> intro _ | refine Gd.not ?_) | refine Gd.t ?_ | refine Gd.f ?_ | apply Gd.var <;> intro _) <;> try (exfalso; omega)) | with_reducible refine Sq.mk ?_ | ((with_reducible show Ld1 ..); first | refine Ld1.h H ?_ | refine Ld1.rF ?_ | refine Ld1.r ?_) | ((with_reducible show Ld ..); first | refine Ld.h H ?_ | refine Ld.r ?_) | ((with_reducible show Ix ..); first | refine Ix.h ?_ | refine Ix.ha ?_) | (refine Al.hp H ?_; clear H; intro _ _ H _) | (refine St.h H ?_; clear H; intro _ H))
        all_goals first | (exfalso; omega) | skip
        exact ⟨b_eq hs.symm, H.e⟩
    · rename_i h
      rw [bs_eq] at h
      have h := of_decide_eq_false h
      repeat' ((conv => whnf); first | (((with_reducible show Gd ..); first | (with_reducible first | refine Gd.t ?_ | refine Gd.f ?_ | (first | apply Gd.dec | apply Gd.beq | apply Gd.bne) <;> intro _ | refine Gd.not ?_) | refine Gd.t ?_ | refine Gd.f ?_ | apply Gd.var <;> intro _) <;> try (exfalso; omega)) | with_reducible refine Sq.mk ?_ | ((with_reducible show Ld1 ..); first | refine Ld1.h H ?_ | refine Ld1.rF ?_ | refine Ld1.r ?_) | ((with_reducible show Ld ..); first | refine Ld.h H ?_ | refine Ld.r ?_) | ((with_reducible show Ix ..); first | refine Ix.h ?_ | refine Ix.ha ?_) | (refine Al.hp H ?_; clear H; intro _ _ H _) | (refine St.h H ?_; clear H; intro _ H))
      exact ⟨b_eq (by simp [ET.e, sameE, h]), H.e⟩
    · rename_i h
      rw [bs_eq] at h
      have h := of_decide_eq_false h
      repeat' ((conv => whnf); first | (((with_reducible show Gd ..); first | (with_reducible first | refine Gd.t ?_ | refine Gd.f ?_ | (first | apply Gd.dec | apply Gd.beq | apply Gd.bne) <;> intro _ | refine Gd.not ?_) | refine Gd.t ?_ | refine Gd.f ?_ | apply Gd.var <;> intro _) <;> try (exfalso; omega)) | with_reducible refine Sq.mk ?_ | ((with_reducible show Ld1 ..); first | refine Ld1.h H ?_ | refine Ld1.rF ?_ | refine Ld1.r ?_) | ((with_reducible show Ld ..); first | refine Ld.h H ?_ | refine Ld.r ?_) | ((with_reducible show Ix ..); first | refine Ix.h ?_ | refine Ix.ha ?_) | (refine Al.hp H ?_; clear H; intro _ _ H _) | (refine St.h H ?_; clear H; intro _ H))
      exact ⟨b_eq (by simp [ET.e, sameE, h]), H.e⟩
end Go.Proofs.YtfnjodpehomgfaaGreatDoor
namespace Go.Proofs.YtfnjodpehomgfaaGreatDoor
open Go Go.Sh Go.Tx
theorem QLd.rsF {α : Type} {enc : α → List Value} {sz i o n : Nat} {W : World → Prop} {Rl : World → World → Prop} {w : World} {A : Option Addr} {l : List α} {x : α} {k : List Value → Prop} (hW : QW W w Rl) (h : RdS enc sz w A l) (hx : l[i]? = some x) (hn : (((enc x).drop o).take n).length = n) (hk : k (((enc x).drop o).take n)) : QLd W (pAdd ((gA A).add (i * sz)) o) n k := by
  refine ⟨_, fun w' hw' => ⟨hn, fun j v hv => ?_⟩, hk⟩
  obtain ⟨vs, h1, h2, h3⟩ := Rd.at_ (RdS.from (hW.1 w' hw') h) i x hx
  unfold Fl at h2
  subst h2
  have hj : j < n := by
    have := (List.getElem?_eq_some_iff.1 hv).1
    omega
  rw [List.getElem?_take_of_lt hj, List.getElem?_drop] at hv
  have := h3 (o + j) v hv
  rw [pAdd_add, add_add]
  rw [Nat.add_assoc]
  exact this
attribute [local irreducible] Blk Ext RdS
mutual
def sameT : Go.Tx.St → Go.Tx.St → Bool
  | .mk k a e b f, .mk k2 a2 e2 b2 f2 => k == k2 && a == a2 && sameE e e2 && sameU b b2 && sameU f f2
def sameU : List Go.Tx.St → List Go.Tx.St → Bool
  | [], [] => true
  | x :: r, y :: s => sameT x y && sameU r s
  | [], _ :: _ => false
  | _ :: _, [] => false
end
theorem sameU_len : ∀ {l m : List Go.Tx.St}, sameU l m = true → l.length = m.length
  | [], [], _ => rfl
  | x :: r, y :: s, h => by
    simp only [sameU, Bool.and_eq_true] at h
    simp [sameU_len h.2]
  | [], _ :: _, h => by simp [sameU] at h
  | _ :: _, [], h => by simp [sameU] at h
theorem sameU_ne {l m : List Go.Tx.St} (h : l.length ≠ m.length) : sameU l m = false := by
  cases hx : sameU l m with
  | false => rfl
  | true => exact absurd (sameU_len hx) h
mutual
def SM.sz : SM → Nat
  | .mk _ _ _ _ _ b _ _ f => SM.szs b + SM.szs f + 1
def SM.szs : List SM → Nat
  | [] => 0
  | x :: r => SM.sz x + SM.szs r
end
theorem SM.sz_mem {x : SM} : ∀ {l : List SM}, x ∈ l → SM.sz x ≤ SM.szs l
  | [], h => by simp at h
  | y :: r, h => by
    simp only [SM.szs]
    rcases List.mem_cons.1 h with rfl | h
    · omega
    · have := SM.sz_mem h; omega
theorem SM.oks_mem {w : World} {x : SM} : ∀ {l : List SM}, x ∈ l → SM.Oks w l → SM.Ok w x
  | [], h, _ => by simp at h
  | y :: r, h, hk => by
    rcases List.mem_cons.1 h with rfl | h
    · exact hk.1
    · exact SM.oks_mem h hk.2
theorem SM.es_drop : ∀ (l : List SM) (i : Nat), SM.es (l.drop i) = (SM.es l).drop i
  | l, 0 => by simp
  | [], i + 1 => by simp [SM.es]
  | x :: r, i + 1 => by simp [SM.es, SM.es_drop r i]
theorem SM.Oks.ext {w w' : World} {l : List SM} (h : SM.Oks w l) (e : Ext w w') : SM.Oks w' l := SM.Oks.loc e.size h fun b hb => by
  have e2 := e
  unfold Ext at e2
  exact Go.RowKit.Below.block e2 b (SM.Oks.lt h b hb)
theorem ET.Oks.ext {w w' : World} {l : List ET} (h : ET.Oks w l) (e : Ext w w') : ET.Oks w' l := ET.Oks.loc e.size h fun b hb => by
  have e2 := e
  unfold Ext at e2
  exact Go.RowKit.Below.block e2 b (ET.Oks.lt h b hb)
set_option maxHeartbeats 8000000 in
theorem sameStmts_c : ∀ (n : Nat) (l m : List SM) (A B : Option Addr) (ca cb : Nat) (w : World), SM.szs l < n → RdS SM.enc 10 w A l → SM.Oks w l → RdS SM.enc 10 w B m → SM.Oks w m → l.length ≤ 2000000 →
    Cl Tryz.prog 35 #[.slice A l.length ca, .slice B m.length cb] w (fun v w' => v = .bool (sameU (SM.es l) (SM.es m)) ∧ Ext w w') (fun _ _ => False)
  | 0, l, m, A, B, ca, cb, w, hn, _, _, _, _, _ => by omega
  | n + 1, l, m, A, B, ca, cb, w, hn, hrl, hol, hrm, hom, hlb => by
    refine calls_ex (args := [.slice A l.length ca, .slice B m.length cb]) T.ok Tryz.func35 rfl rfl rfl rfl ?_
    have H := Hp.begin nw w
    by_cases hlen : l.length = m.length
    case neg =>
      repeat' ((conv => whnf); first | (((with_reducible show Gd ..); first | (with_reducible first | refine Gd.t ?_ | refine Gd.f ?_ | (first | apply Gd.dec | apply Gd.beq | apply Gd.bne) <;> intro _ | refine Gd.not ?_) | refine Gd.t ?_ | refine Gd.f ?_ | apply Gd.var <;> intro _) <;> try (exfalso; omega)) | with_reducible refine Sq.mk ?_ | ((with_reducible show Ld1 ..); first | refine Ld1.h H ?_ | refine Ld1.rF ?_ | refine Ld1.r ?_) | ((with_reducible show Ld ..); first | refine Ld.h H ?_ | refine Ld.r ?_) | ((with_reducible show Ix ..); first | refine Ix.h ?_ | refine Ix.ha ?_) | (refine Al.hp H ?_; clear H; intro _ _ H _) | (refine St.h H ?_; clear H; intro _ H))
      all_goals first | (exfalso; omega) | skip
      exact ⟨b_eq (sameU_ne (by rw [SM.es_len, SM.es_len]; exact hlen)).symm, H.e⟩
    repeat' ((conv => whnf); first | (((with_reducible show Gd ..); first | (with_reducible first | refine Gd.t ?_ | refine Gd.f ?_ | (first | apply Gd.dec | apply Gd.beq | apply Gd.bne) <;> intro _ | refine Gd.not ?_) | refine Gd.t ?_ | refine Gd.f ?_ | apply Gd.var <;> intro _) <;> try (exfalso; omega)) | with_reducible refine Sq.mk ?_ | ((with_reducible show Ld1 ..); first | refine Ld1.h H ?_ | refine Ld1.rF ?_ | refine Ld1.r ?_) | ((with_reducible show Ld ..); first | refine Ld.h H ?_ | refine Ld.r ?_) | ((with_reducible show Ix ..); first | refine Ix.h ?_ | refine Ix.ha ?_) | (refine Al.hp H ?_; clear H; intro _ _ H _) | (refine St.h H ?_; clear H; intro _ H))
    all_goals first | (exfalso; omega) | skip
    refine Lp.g0 T.ok (σ := Nat) (fun i => [(5, .int .i64 (i : Int)), (0, .slice A l.length ca), (1, .slice B m.length cb)])
      (fun i w' => i ≤ l.length ∧ sameU (SM.es l) (SM.es m) = sameU ((SM.es l).drop i) ((SM.es m).drop i) ∧ Hp nw w w' []) (fun i _ => l.length - i) 0 rfl ⟨rfl, rfl, rfl, trivial⟩ ⟨Nat.zero_le _, rfl, H⟩ ?_
    clear H
    rintro i w5 ⟨hi, hs, H⟩
    by_cases hlt : i < l.length
    case neg =>
      have h1 : (SM.es l).drop i = [] := List.drop_of_length_le (by rw [SM.es_len]; omega)
      have h2 : (SM.es m).drop i = [] := List.drop_of_length_le (by rw [SM.es_len]; omega)
      rw [h1, h2] at hs
      repeat' ((conv => whnf); first | (((with_reducible show Gd ..); first | (with_reducible first | refine Gd.t ?_ | refine Gd.f ?_ | (first | apply Gd.dec | apply Gd.beq | apply Gd.bne) <;> intro _ | refine Gd.not ?_) | refine Gd.t ?_ | refine Gd.f ?_ | apply Gd.var <;> intro _) <;> try (exfalso; omega)) | with_reducible refine Sq.mk ?_ | ((with_reducible show Ld1 ..); first | refine Ld1.h H ?_ | refine Ld1.rF ?_ | refine Ld1.r ?_) | ((with_reducible show Ld ..); first | refine Ld.h H ?_ | refine Ld.r ?_) | ((with_reducible show Ix ..); first | refine Ix.h ?_ | refine Ix.ha ?_) | (refine Al.hp H ?_; clear H; intro _ _ H _) | (refine St.h H ?_; clear H; intro _ H))
      all_goals first | (exfalso; omega) | skip
      exact ⟨b_eq hs.symm, H.e⟩
    obtain ⟨u, hu⟩ : ∃ u, l[i]? = some u := ⟨_, List.getElem?_eq_getElem hlt⟩
    obtain ⟨v, hv⟩ : ∃ v, m[i]? = some v := ⟨_, List.getElem?_eq_getElem (show i < m.length by omega)⟩
    have hlt2 : i < m.length := by omega
    have hd1 : (SM.es l).drop i = SM.e u :: (SM.es l).drop (i + 1) := by
      obtain ⟨g1, g2⟩ := List.getElem?_eq_some_iff.1 hu
      rw [← SM.es_drop, List.drop_eq_getElem_cons g1, g2, SM.es, SM.es_drop]
    have hd2 : (SM.es m).drop i = SM.e v :: (SM.es m).drop (i + 1) := by
      obtain ⟨g1, g2⟩ := List.getElem?_eq_some_iff.1 hv
      rw [← SM.es_drop, List.drop_eq_getElem_cons g1, g2, SM.es, SM.es_drop]
    rw [hd1, hd2, sameU] at hs
    have hzn := SM.sz_mem (List.mem_of_getElem? hu)
    have hou := SM.oks_mem (List.mem_of_getElem? hu) (hol.ext H.e)
    have hov := SM.oks_mem (List.mem_of_getElem? hv) (hom.ext H.e)
    have hr1 := RdS.from H.e hrl
    have hr2 := RdS.from H.e hrm
    obtain ⟨k1, a1, ⟨kd1, o1, n1, nm1, cb1, A1, c1, l1⟩, B1, cB1, b1, E1, cE1, f1⟩ := u
    obtain ⟨k2, a2, ⟨kd2, o2, n2, nm2, cb2, A2, c2, l2⟩, B2, cB2, b2, E2, cE2, f2⟩ := v
    repeat' ((conv => whnf); first | (((with_reducible show Gd ..); first | (with_reducible first | refine Gd.t ?_ | refine Gd.f ?_ | (first | apply Gd.dec | apply Gd.beq | apply Gd.bne) <;> intro _ | refine Gd.not ?_) | refine Gd.t ?_ | refine Gd.f ?_ | apply Gd.var <;> intro _) <;> try (exfalso; omega)) | with_reducible refine Sq.mk ?_ | ((with_reducible show Ld1 ..); first | refine Ld1.h H ?_ | refine Ld1.rF ?_ | refine Ld1.r ?_) | ((with_reducible show Ld ..); first | refine Ld.h H ?_ | refine Ld.r ?_) | ((with_reducible show Ix ..); first | refine Ix.h ?_ | refine Ix.ha ?_) | (refine Al.hp H ?_; clear H; intro _ _ H _) | (refine St.h H ?_; clear H; intro _ H))
    ((conv => whnf); refine Dr.quiet T.ok mixed (by kernel_rfl) (fun W hW => ?_))
    repeat' (first | ((conv => whnf); first | (((with_reducible show Gd ..); first | (with_reducible first | refine Gd.t ?_ | refine Gd.f ?_ | (first | apply Gd.dec | apply Gd.beq | apply Gd.bne) <;> intro _ | refine Gd.not ?_) | refine Gd.t ?_ | refine Gd.f ?_ | apply Gd.var <;> intro _) <;> try (exfalso; omega)) | ((with_reducible show QLd1 ..); first | refine QLd1.h hW H ?_ | refine QLd1.rF hW ?_ | refine QLd1.r hW ?_) | ((with_reducible show QLd ..); first | refine QLd.h hW H ?_ | refine QLd.r hW ?_) | ((with_reducible show Ix ..); first | refine Ix.h ?_ | refine Ix.ha ?_)) | ((conv => whnf); refine QLd.rsF (o := 2) (n := 6) hW hr1 hu rfl ?_) | ((conv => whnf); refine QLd.rsF (o := 2) (n := 6) hW hr2 hv rfl ?_) | ((conv => whnf); refine QCl.mk hW (fun _ ee => Cl.mk (sameExpr_c _ (.mk kd1 o1 n1 nm1 cb1 A1 c1 l1) (.mk kd2 o2 n2 nm2 cb2 A2 c2 l2) _ (Nat.le_refl _) (hou.1.ext ee) (hov.1.ext ee)) (fun _ _ h => h)) ?_))
    · rename_i hkk
      (intro _ eT; replace H := H.ext eT; clear hW eT)
      repeat' ((conv => whnf); first | (((with_reducible show Gd ..); first | (with_reducible first | refine Gd.t ?_ | refine Gd.f ?_ | (first | apply Gd.dec | apply Gd.beq | apply Gd.bne) <;> intro _ | refine Gd.not ?_) | refine Gd.t ?_ | refine Gd.f ?_ | apply Gd.var <;> intro _) <;> try (exfalso; omega)) | with_reducible refine Sq.mk ?_ | ((with_reducible show Ld1 ..); first | refine Ld1.h H ?_ | refine Ld1.rF ?_ | refine Ld1.r ?_) | ((with_reducible show Ld ..); first | refine Ld.h H ?_ | refine Ld.r ?_) | ((with_reducible show Ix ..); first | refine Ix.h ?_ | refine Ix.ha ?_) | (refine Al.hp H ?_; clear H; intro _ _ H _) | (refine St.h H ?_; clear H; intro _ H))
      refine ⟨b_eq ?_, H.e⟩
      rw [hs]
      simp [SM.e, sameT, hkk]
    · rename_i hkk haa
      rw [bs_eq] at haa
      have haa := of_decide_eq_true haa
      have hT : sameT (SM.e (.mk k1 a1 (.mk kd1 o1 n1 nm1 cb1 A1 c1 l1) B1 cB1 b1 E1 cE1 f1)) (SM.e (.mk k2 a2 (.mk kd2 o2 n2 nm2 cb2 A2 c2 l2) B2 cB2 b2 E2 cE2 f2)) = (sameE (ET.e (.mk kd1 o1 n1 nm1 cb1 A1 c1 l1)) (ET.e (.mk kd2 o2 n2 nm2 cb2 A2 c2 l2)) && sameU (SM.es b1) (SM.es b2) && sameU (SM.es f1) (SM.es f2)) := by
        simp [SM.e, sameT, hkk, haa]
      rw [hT] at hs
      (intro _ eT; replace H := H.ext eT; clear hW eT)
      cases hse : sameE (ET.e (.mk kd1 o1 n1 nm1 cb1 A1 c1 l1)) (ET.e (.mk kd2 o2 n2 nm2 cb2 A2 c2 l2)) with
      | false =>
        rw [hse] at hs
        repeat' ((conv => whnf); first | (((with_reducible show Gd ..); first | (with_reducible first | refine Gd.t ?_ | refine Gd.f ?_ | (first | apply Gd.dec | apply Gd.beq | apply Gd.bne) <;> intro _ | refine Gd.not ?_) | refine Gd.t ?_ | refine Gd.f ?_ | apply Gd.var <;> intro _) <;> try (exfalso; omega)) | with_reducible refine Sq.mk ?_ | ((with_reducible show Ld1 ..); first | refine Ld1.h H ?_ | refine Ld1.rF ?_ | refine Ld1.r ?_) | ((with_reducible show Ld ..); first | refine Ld.h H ?_ | refine Ld.r ?_) | ((with_reducible show Ix ..); first | refine Ix.h ?_ | refine Ix.ha ?_) | (refine Al.hp H ?_; clear H; intro _ _ H _) | (refine St.h H ?_; clear H; intro _ H))
        exact ⟨b_eq (by rw [hs]; simp), H.e⟩
      | true =>
        rw [hse, Bool.true_and] at hs
        repeat' ((conv => whnf); first | (((with_reducible show Gd ..); first | (with_reducible first | refine Gd.t ?_ | refine Gd.f ?_ | (first | apply Gd.dec | apply Gd.beq | apply Gd.bne) <;> intro _ | refine Gd.not ?_) | refine Gd.t ?_ | refine Gd.f ?_ | apply Gd.var <;> intro _) <;> try (exfalso; omega)) | with_reducible refine Sq.mk ?_ | ((with_reducible show Ld1 ..); first | refine Ld1.h H ?_ | refine Ld1.rF ?_ | refine Ld1.r ?_) | ((with_reducible show Ld ..); first | refine Ld.h H ?_ | refine Ld.r ?_) | ((with_reducible show Ix ..); first | refine Ix.h ?_ | refine Ix.ha ?_) | (refine Al.hp H ?_; clear H; intro _ _ H _) | (refine St.h H ?_; clear H; intro _ H))
        have hr1 := RdS.from H.e hrl
        have hr2 := RdS.from H.e hrm
        have hou := SM.oks_mem (List.mem_of_getElem? hu) (hol.ext H.e)
        have hov := SM.oks_mem (List.mem_of_getElem? hv) (hom.ext H.e)
        obtain ⟨_, q1, p1, q2, p2, g1, g2⟩ := hou
        obtain ⟨_, q3, p3, q4, p4, g3, g4⟩ := hov
        have q1 := q1.rd
        have q2 := q2.rd
        have q3 := q3.rd
        have q4 := q4.rd
        simp only [SM.sz] at hzn
        ((conv => whnf); refine Dr.quiet T.ok mixed (by kernel_rfl) (fun W hW => ?_))
        cases hb : sameU (SM.es b1) (SM.es b2) with
        | false =>
          rw [hb] at hs
          repeat' (first | ((conv => whnf); first | (((with_reducible show Gd ..); first | (with_reducible first | refine Gd.t ?_ | refine Gd.f ?_ | (first | apply Gd.dec | apply Gd.beq | apply Gd.bne) <;> intro _ | refine Gd.not ?_) | refine Gd.t ?_ | refine Gd.f ?_ | apply Gd.var <;> intro _) <;> try (exfalso; omega)) | ((with_reducible show QLd1 ..); first | refine QLd1.h hW H ?_ | refine QLd1.rF hW ?_ | refine QLd1.r hW ?_) | ((with_reducible show QLd ..); first | refine QLd.h hW H ?_ | refine QLd.r hW ?_) | ((with_reducible show Ix ..); first | refine Ix.h ?_ | refine Ix.ha ?_)) | (((conv => whnf); refine QCl.mk hW (fun _ ee => Cl.mk (sameStmts_c n b1 b2 B1 B2 cB1 cB2 _ (by omega) (RdS.from ee q1) (p1.ext ee) (RdS.from ee q3) (p3.ext ee) g1) (fun _ _ h => h)) ?_); rw [hb]))
          (intro _ eT; replace H := H.ext eT; clear hW eT)
          repeat' ((conv => whnf); first | (((with_reducible show Gd ..); first | (with_reducible first | refine Gd.t ?_ | refine Gd.f ?_ | (first | apply Gd.dec | apply Gd.beq | apply Gd.bne) <;> intro _ | refine Gd.not ?_) | refine Gd.t ?_ | refine Gd.f ?_ | apply Gd.var <;> intro _) <;> try (exfalso; omega)) | with_reducible refine Sq.mk ?_ | ((with_reducible show Ld1 ..); first | refine Ld1.h H ?_ | refine Ld1.rF ?_ | refine Ld1.r ?_) | ((with_reducible show Ld ..); first | refine Ld.h H ?_ | refine Ld.r ?_) | ((with_reducible show Ix ..); first | refine Ix.h ?_ | refine Ix.ha ?_) | (refine Al.hp H ?_; clear H; intro _ _ H _) | (refine St.h H ?_; clear H; intro _ H))
          exact ⟨b_eq (by rw [hs]; simp), H.e⟩
        | true =>
          rw [hb, Bool.true_and] at hs
          repeat' (first | ((conv => whnf); first | (((with_reducible show Gd ..); first | (with_reducible first | refine Gd.t ?_ | refine Gd.f ?_ | (first | apply Gd.dec | apply Gd.beq | apply Gd.bne) <;> intro _ | refine Gd.not ?_) | refine Gd.t ?_ | refine Gd.f ?_ | apply Gd.var <;> intro _) <;> try (exfalso; omega)) | ((with_reducible show QLd1 ..); first | refine QLd1.h hW H ?_ | refine QLd1.rF hW ?_ | refine QLd1.r hW ?_) | ((with_reducible show QLd ..); first | refine QLd.h hW H ?_ | refine QLd.r hW ?_) | ((with_reducible show Ix ..); first | refine Ix.h ?_ | refine Ix.ha ?_)) | (((conv => whnf); refine QCl.mk hW (fun _ ee => Cl.mk (sameStmts_c n b1 b2 B1 B2 cB1 cB2 _ (by omega) (RdS.from ee q1) (p1.ext ee) (RdS.from ee q3) (p3.ext ee) g1) (fun _ _ h => h)) ?_); rw [hb]) | ((conv => whnf); refine QCl.mk hW (fun _ ee => Cl.mk (sameStmts_c n f1 f2 E1 E2 cE1 cE2 _ (by omega) (RdS.from ee q2) (p2.ext ee) (RdS.from ee q4) (p4.ext ee) g2) (fun _ _ h => h)) ?_))
          (intro _ eT; replace H := H.ext eT; clear hW eT)
          repeat' ((conv => whnf); first | (((with_reducible show Gd ..); first | (with_reducible first | refine Gd.t ?_ | refine Gd.f ?_ | (first | apply Gd.dec | apply Gd.beq | apply Gd.bne) <;> intro _ | refine Gd.not ?_) | refine Gd.t ?_ | refine Gd.f ?_ | apply Gd.var <;> intro _) <;> try (exfalso; omega)) | with_reducible refine Sq.mk ?_ | ((with_reducible show Ld1 ..); first | refine Ld1.h H ?_ | refine Ld1.rF ?_ | refine Ld1.r ?_) | ((with_reducible show Ld ..); first | refine Ld.h H ?_ | refine Ld.r ?_) | ((with_reducible show Ix ..); first | refine Ix.h ?_ | refine Ix.ha ?_) | (refine Al.hp H ?_; clear H; intro _ _ H _) | (refine St.h H ?_; clear H; intro _ H))
          · rename_i hf
            rw [hf, Bool.true_and] at hs
            repeat' ((conv => whnf); first | (((with_reducible show Gd ..); first | (with_reducible first | refine Gd.t ?_ | refine Gd.f ?_ | (first | apply Gd.dec | apply Gd.beq | apply Gd.bne) <;> intro _ | refine Gd.not ?_) | refine Gd.t ?_ | refine Gd.f ?_ | apply Gd.var <;> intro _) <;> try (exfalso; omega)) | with_reducible refine Sq.mk ?_ | ((with_reducible show Ld1 ..); first | refine Ld1.h H ?_ | refine Ld1.rF ?_ | refine Ld1.r ?_) | ((with_reducible show Ld ..); first | refine Ld.h H ?_ | refine Ld.r ?_) | ((with_reducible show Ix ..); first | refine Ix.h ?_ | refine Ix.ha ?_) | (refine Al.hp H ?_; clear H; intro _ _ H _) | (refine St.h H ?_; clear H; intro _ H))
            exact ⟨i + 1, ⟨at_int (m := ((i + 1 : Nat) : Int)) rfl (w64 (by simp) (by omega) (by omega)), rfl, rfl, trivial⟩, rfl, ⟨by omega, hs, H⟩, by omega⟩
          · rename_i hf
            rw [hf, Bool.false_and] at hs
            repeat' ((conv => whnf); first | (((with_reducible show Gd ..); first | (with_reducible first | refine Gd.t ?_ | refine Gd.f ?_ | (first | apply Gd.dec | apply Gd.beq | apply Gd.bne) <;> intro _ | refine Gd.not ?_) | refine Gd.t ?_ | refine Gd.f ?_ | apply Gd.var <;> intro _) <;> try (exfalso; omega)) | with_reducible refine Sq.mk ?_ | ((with_reducible show Ld1 ..); first | refine Ld1.h H ?_ | refine Ld1.rF ?_ | refine Ld1.r ?_) | ((with_reducible show Ld ..); first | refine Ld.h H ?_ | refine Ld.r ?_) | ((with_reducible show Ix ..); first | refine Ix.h ?_ | refine Ix.ha ?_) | (refine Al.hp H ?_; clear H; intro _ _ H _) | (refine St.h H ?_; clear H; intro _ H))
            exact ⟨b_eq hs.symm, H.e⟩
    · rename_i hkk haa
      rw [bs_eq] at haa
      have haa := of_decide_eq_false haa
      (intro _ eT; replace H := H.ext eT; clear hW eT)
      repeat' ((conv => whnf); first | (((with_reducible show Gd ..); first | (with_reducible first | refine Gd.t ?_ | refine Gd.f ?_ | (first | apply Gd.dec | apply Gd.beq | apply Gd.bne) <;> intro _ | refine Gd.not ?_) | refine Gd.t ?_ | refine Gd.f ?_ | apply Gd.var <;> intro _) <;> try (exfalso; omega)) | with_reducible refine Sq.mk ?_ | ((with_reducible show Ld1 ..); first | refine Ld1.h H ?_ | refine Ld1.rF ?_ | refine Ld1.r ?_) | ((with_reducible show Ld ..); first | refine Ld.h H ?_ | refine Ld.r ?_) | ((with_reducible show Ix ..); first | refine Ix.h ?_ | refine Ix.ha ?_) | (refine Al.hp H ?_; clear H; intro _ _ H _) | (refine St.h H ?_; clear H; intro _ H))
      refine ⟨b_eq ?_, H.e⟩
      rw [hs]
      simp [SM.e, sameT, haa]
def sameF (f g : Fnc) : Bool := f.name == g.name && f.params == g.params && sameU f.body g.body
def sameP : List Fnc → List Fnc → Bool
  | [], [] => true
  | x :: r, y :: s => sameF x y && sameP r s
  | [], _ :: _ => false
  | _ :: _, [] => false
theorem sameP_len : ∀ {l m : List Fnc}, sameP l m = true → l.length = m.length
  | [], [], _ => rfl
  | x :: r, y :: s, h => by
    simp only [sameP, Bool.and_eq_true] at h
    simp [sameP_len h.2]
  | [], _ :: _, h => by simp [sameP] at h
  | _ :: _, [], h => by simp [sameP] at h
theorem sameP_ne {l m : List Fnc} (h : l.length ≠ m.length) : sameP l m = false := by
  cases hx : sameP l m with
  | false => rfl
  | true => exact absurd (sameP_len hx) h
theorem FM.oks_mem {w : World} {x : FM} : ∀ {l : List FM}, x ∈ l → FM.Oks w l → FM.Ok w x
  | [], h, _ => by simp at h
  | y :: r, h, hk => by
    rcases List.mem_cons.1 h with rfl | h
    · exact hk.1
    · exact FM.oks_mem h hk.2
theorem FM.Oks.ext {w w' : World} {l : List FM} (h : FM.Oks w l) (e : Ext w w') : FM.Oks w' l := FM.Oks.loc e.size h fun b hb => by
  have e2 := e
  unfold Ext at e2
  exact Go.RowKit.Below.block e2 b (FM.Oks.lt h b hb)
set_option maxHeartbeats 8000000 in
theorem same_c (l m : List FM) (A B : Option Addr) (ca cb : Nat) (w : World) (hrl : RdS FM.enc 3 w A l) (hol : FM.Oks w l) (hrm : RdS FM.enc 3 w B m) (hom : FM.Oks w m) (hlb : l.length ≤ 2000000) :
    Cl Tryz.prog 13 #[.agg #[.slice A l.length ca], .agg #[.slice B m.length cb]] w (fun v w' => v = .bool (sameP (l.map FM.e) (m.map FM.e)) ∧ Ext w w') (fun _ _ => False) := by
  refine calls_ex (args := [.agg #[.slice A l.length ca], .agg #[.slice B m.length cb]]) T.ok Tryz.func13 rfl rfl rfl rfl ?_
  have H := Hp.begin nw w
  refine Sq.mk ?_
  ((conv => whnf); refine Al.hp H ?_; clear H; intro p2 _ H _)
  ((conv => whnf); refine Al.hp H ?_; clear H; intro p3 _ H _)
  by_cases hlen : l.length = m.length
  case neg =>
    repeat' ((conv => whnf); first | (((with_reducible show Gd ..); first | (with_reducible first | refine Gd.t ?_ | refine Gd.f ?_ | (first | apply Gd.dec | apply Gd.beq | apply Gd.bne) <;> intro _ | refine Gd.not ?_) | refine Gd.t ?_ | refine Gd.f ?_ | apply Gd.var <;> intro _) <;> try (exfalso; omega)) | with_reducible refine Sq.mk ?_ | ((with_reducible show Ld1 ..); first | refine Ld1.h H ?_ | refine Ld1.rF ?_ | refine Ld1.r ?_) | ((with_reducible show Ld ..); first | refine Ld.h H ?_ | refine Ld.r ?_) | ((with_reducible show Ix ..); first | refine Ix.h ?_ | refine Ix.ha ?_) | (refine Al.hp H ?_; clear H; intro _ _ H _) | (refine St.h H ?_; clear H; intro _ H))
    all_goals first | (exfalso; omega) | skip
    exact ⟨b_eq (sameP_ne (by rw [List.length_map, List.length_map]; exact hlen)).symm, H.e⟩
  repeat' ((conv => whnf); first | (((with_reducible show Gd ..); first | (with_reducible first | refine Gd.t ?_ | refine Gd.f ?_ | (first | apply Gd.dec | apply Gd.beq | apply Gd.bne) <;> intro _ | refine Gd.not ?_) | refine Gd.t ?_ | refine Gd.f ?_ | apply Gd.var <;> intro _) <;> try (exfalso; omega)) | with_reducible refine Sq.mk ?_ | ((with_reducible show Ld1 ..); first | refine Ld1.h H ?_ | refine Ld1.rF ?_ | refine Ld1.r ?_) | ((with_reducible show Ld ..); first | refine Ld.h H ?_ | refine Ld.r ?_) | ((with_reducible show Ix ..); first | refine Ix.h ?_ | refine Ix.ha ?_) | (refine Al.hp H ?_; clear H; intro _ _ H _) | (refine St.h H ?_; clear H; intro _ H))
  all_goals first | (exfalso; omega) | skip
  refine Lp.g0 T.ok (σ := Nat) (fun i => [(5, .int .i64 (i : Int)), (2, .pointer (some ⟨p2, 0, none⟩)), (3, .pointer (some ⟨p3, 0, none⟩))])
    (fun i w' => i ≤ l.length ∧ sameP (l.map FM.e) (m.map FM.e) = sameP ((l.map FM.e).drop i) ((m.map FM.e).drop i) ∧ Hp nw w w' [bk p3 24 [.slice B m.length cb], bk p2 24 [.slice A l.length ca]]) (fun i _ => l.length - i) 0 rfl ⟨rfl, rfl, rfl, trivial⟩ ⟨Nat.zero_le _, rfl, H⟩ ?_
  clear H
  rintro i w5 ⟨hi, hs, H⟩
  by_cases hlt : i < l.length
  case neg =>
    have h1 : (l.map FM.e).drop i = [] := List.drop_of_length_le (by rw [List.length_map]; omega)
    have h2 : (m.map FM.e).drop i = [] := List.drop_of_length_le (by rw [List.length_map]; omega)
    rw [h1, h2] at hs
    repeat' ((conv => whnf); first | (((with_reducible show Gd ..); first | (with_reducible first | refine Gd.t ?_ | refine Gd.f ?_ | (first | apply Gd.dec | apply Gd.beq | apply Gd.bne) <;> intro _ | refine Gd.not ?_) | refine Gd.t ?_ | refine Gd.f ?_ | apply Gd.var <;> intro _) <;> try (exfalso; omega)) | with_reducible refine Sq.mk ?_ | ((with_reducible show Ld1 ..); first | refine Ld1.h H ?_ | refine Ld1.rF ?_ | refine Ld1.r ?_) | ((with_reducible show Ld ..); first | refine Ld.h H ?_ | refine Ld.r ?_) | ((with_reducible show Ix ..); first | refine Ix.h ?_ | refine Ix.ha ?_) | (refine Al.hp H ?_; clear H; intro _ _ H _) | (refine St.h H ?_; clear H; intro _ H))
    all_goals first | (exfalso; omega) | skip
    exact ⟨b_eq hs.symm, H.e⟩
  obtain ⟨u, hu⟩ : ∃ u, l[i]? = some u := ⟨_, List.getElem?_eq_getElem hlt⟩
  obtain ⟨v, hv⟩ : ∃ v, m[i]? = some v := ⟨_, List.getElem?_eq_getElem (show i < m.length by omega)⟩
  have hlt2 : i < m.length := by omega
  have hd1 : (l.map FM.e).drop i = FM.e u :: (l.map FM.e).drop (i + 1) := by
    obtain ⟨g1, g2⟩ := List.getElem?_eq_some_iff.1 hu
    rw [← List.map_drop, List.drop_eq_getElem_cons g1, g2, List.map_cons, List.map_drop]
  have hd2 : (m.map FM.e).drop i = FM.e v :: (m.map FM.e).drop (i + 1) := by
    obtain ⟨g1, g2⟩ := List.getElem?_eq_some_iff.1 hv
    rw [← List.map_drop, List.drop_eq_getElem_cons g1, g2, List.map_cons, List.map_drop]
  rw [hd1, hd2, sameP] at hs
  have hou := FM.oks_mem (List.mem_of_getElem? hu) hol
  have hov := FM.oks_mem (List.mem_of_getElem? hv) hom
  have hr1 := RdS.from H.e hrl
  have hr2 := RdS.from H.e hrm
  obtain ⟨a1, P1, c1, ps1, B1, cB1, b1⟩ := u
  obtain ⟨a2, P2, c2, ps2, B2, cB2, b2⟩ := v
  obtain ⟨q1, q2, o1, g1, g2⟩ := hou
  obtain ⟨q3, q4, o2, g3, g4⟩ := hov
  simp only at q1 q2 q3 q4 o1 o2 g1 g2 g3 g4
  have q1 := q1.rd
  have q2 := q2.rd
  have q3 := q3.rd
  have q4 := q4.rd
  repeat' ((conv => whnf); first | (((with_reducible show Gd ..); first | (with_reducible first | refine Gd.t ?_ | refine Gd.f ?_ | (first | apply Gd.dec | apply Gd.beq | apply Gd.bne) <;> intro _ | refine Gd.not ?_) | refine Gd.t ?_ | refine Gd.f ?_ | apply Gd.var <;> intro _) <;> try (exfalso; omega)) | with_reducible refine Sq.mk ?_ | ((with_reducible show Ld1 ..); first | refine Ld1.h H ?_ | refine Ld1.rF ?_ | refine Ld1.r ?_) | ((with_reducible show Ld ..); first | refine Ld.h H ?_ | refine Ld.r ?_) | ((with_reducible show Ix ..); first | refine Ix.h ?_ | refine Ix.ha ?_) | (refine St.h H ?_; clear H; intro _ H))
  all_goals first | (exfalso; omega) | skip
  ((conv => whnf); refine Al.hp H ?_; clear H; intro p6 _ H _)
  repeat' ((conv => whnf); first | (((with_reducible show Gd ..); first | (with_reducible first | refine Gd.t ?_ | refine Gd.f ?_ | (first | apply Gd.dec | apply Gd.beq | apply Gd.bne) <;> intro _ | refine Gd.not ?_) | refine Gd.t ?_ | refine Gd.f ?_ | apply Gd.var <;> intro _) <;> try (exfalso; omega)) | with_reducible refine Sq.mk ?_ | ((with_reducible show Ld1 ..); first | refine Ld1.h H ?_ | refine Ld1.rF ?_ | refine Ld1.r ?_) | ((with_reducible show Ld ..); first | refine Ld.h H ?_ | refine Ld.r ?_) | ((with_reducible show Ix ..); first | refine Ix.h ?_ | refine Ix.ha ?_) | (refine St.h H ?_; clear H; intro _ H))
  ((conv => whnf); refine Al.hp H ?_; clear H; intro p7 _ H _)
  repeat' ((conv => whnf); first | (((with_reducible show Gd ..); first | (with_reducible first | refine Gd.t ?_ | refine Gd.f ?_ | (first | apply Gd.dec | apply Gd.beq | apply Gd.bne) <;> intro _ | refine Gd.not ?_) | refine Gd.t ?_ | refine Gd.f ?_ | apply Gd.var <;> intro _) <;> try (exfalso; omega)) | with_reducible refine Sq.mk ?_ | ((with_reducible show Ld1 ..); first | refine Ld1.h H ?_ | refine Ld1.rF ?_ | refine Ld1.r ?_) | ((with_reducible show Ld ..); first | refine Ld.h H ?_ | refine Ld.r ?_) | ((with_reducible show Ix ..); first | refine Ix.h ?_ | refine Ix.ha ?_) | (refine St.h H ?_; clear H; intro _ H))
  · rename_i hnn hll
    rw [bs_eq] at hnn
    have hll : ¬ ps1.length = ps2.length := fun h => hll (by show (ps1.length : Int) = (ps2.length : Int); rw [h])
    repeat' ((conv => whnf); first | (((with_reducible show Gd ..); first | (with_reducible first | refine Gd.t ?_ | refine Gd.f ?_ | (first | apply Gd.dec | apply Gd.beq | apply Gd.bne) <;> intro _ | refine Gd.not ?_) | refine Gd.t ?_ | refine Gd.f ?_ | apply Gd.var <;> intro _) <;> try (exfalso; omega)) | with_reducible refine Sq.mk ?_ | ((with_reducible show Ld1 ..); first | refine Ld1.h H ?_ | refine Ld1.rF ?_ | refine Ld1.r ?_) | ((with_reducible show Ld ..); first | refine Ld.h H ?_ | refine Ld.r ?_) | ((with_reducible show Ix ..); first | refine Ix.h ?_ | refine Ix.ha ?_) | (refine St.h H ?_; clear H; intro _ H))
    refine ⟨b_eq ?_, H.e⟩
    rw [hs]
    have : ¬ ps1 = ps2 := fun h => hll (by rw [h])
    simp [FM.e, sameF, this]
  · rename_i hnn hll
    rw [bs_eq] at hnn
    have hnn : a1 = a2 := of_decide_eq_true hnn
    have hll : ps1.length = ps2.length := Int.ofNat.inj hll
    subst hnn
    have hfix : ∀ w', Hp nw w w' [bk p7 34 [.string (bs a1), .slice P2 ps2.length c2, .slice B2 b2.length cB2], bk p6 34 [.string (bs a1), .slice P1 ps1.length c1, .slice B1 b1.length cB1], bk p3 24 [.slice B m.length cb], bk p2 24 [.slice A l.length ca]] → Hp nw w w' [bk p7 34 [.string (bs a1), .slice P2 ps2.length c2, .slice B2 b2.length cB2], bk p6 34 [.string (bs a1), .slice P1 ps1.length c1, .slice B1 b1.length cB1], bk p3 24 [.slice B m.length cb], bk p2 24 [.slice A l.length ca]] := fun _ h => h
    replace H := hfix _ H
    clear hfix hr1 hr2
    repeat' ((conv => whnf); first | (((with_reducible show Gd ..); first | (with_reducible first | refine Gd.t ?_ | refine Gd.f ?_ | (first | apply Gd.dec | apply Gd.beq | apply Gd.bne) <;> intro _ | refine Gd.not ?_) | refine Gd.t ?_ | refine Gd.f ?_ | apply Gd.var <;> intro _) <;> try (exfalso; omega)) | with_reducible refine Sq.mk ?_ | ((with_reducible show Ld1 ..); first | refine Ld1.h H ?_ | refine Ld1.rF ?_ | refine Ld1.r ?_) | ((with_reducible show Ld ..); first | refine Ld.h H ?_ | refine Ld.r ?_) | ((with_reducible show Ix ..); first | refine Ix.h ?_ | refine Ix.ha ?_) | (refine St.h H ?_; clear H; intro _ H))
    refine Lp.g0 T.ok (σ := Nat) (fun j => [(8, .int .i64 (j : Int)), (5, .int .i64 (i : Int)), (6, .pointer (some ⟨p6, 0, none⟩)), (7, .pointer (some ⟨p7, 0, none⟩)), (2, .pointer (some ⟨p2, 0, none⟩)), (3, .pointer (some ⟨p3, 0, none⟩))])
      (fun j w' => j ≤ ps1.length ∧ ps1.take j = ps2.take j ∧ Hp nw w w' [bk p7 34 [.string (bs a1), .slice P2 ps2.length c2, .slice B2 b2.length cB2], bk p6 34 [.string (bs a1), .slice P1 ps1.length c1, .slice B1 b1.length cB1], bk p3 24 [.slice B m.length cb], bk p2 24 [.slice A l.length ca]]) (fun j _ => ps1.length - j) 0 rfl ⟨rfl, rfl, rfl, rfl, rfl, rfl, trivial⟩ ⟨Nat.zero_le _, rfl, H⟩ ?_
    clear H
    rintro j w7 ⟨hj, ht, H⟩
    by_cases hjl : j < ps1.length
    · obtain ⟨x, hx⟩ : ∃ x, ps1[j]? = some x := ⟨_, List.getElem?_eq_getElem hjl⟩
      obtain ⟨y, hy⟩ : ∃ y, ps2[j]? = some y := ⟨_, List.getElem?_eq_getElem (show j < ps2.length by omega)⟩
      have hjl2 : j < ps2.length := by omega
      have hq1 := RdS.from H.e q1
      have hq2 := RdS.from H.e q3
      obtain ⟨gx1, gx2⟩ := List.getElem?_eq_some_iff.1 hx
      obtain ⟨gy1, gy2⟩ := List.getElem?_eq_some_iff.1 hy
      repeat' ((conv => whnf); first | (((with_reducible show Gd ..); first | (with_reducible first | refine Gd.t ?_ | refine Gd.f ?_ | (first | apply Gd.dec | apply Gd.beq | apply Gd.bne) <;> intro _ | refine Gd.not ?_) | refine Gd.t ?_ | refine Gd.f ?_ | apply Gd.var <;> intro _) <;> try (exfalso; omega)) | with_reducible refine Sq.mk ?_ | ((with_reducible show Ld1 ..); first | refine Ld1.h H ?_ | refine Ld1.rF ?_ | refine Ld1.r ?_) | ((with_reducible show Ld ..); first | refine Ld.h H ?_ | refine Ld.r ?_) | ((with_reducible show Ix ..); first | refine Ix.h ?_ | refine Ix.ha ?_) | (refine St.h H ?_; clear H; intro _ H))
      ((conv => whnf); refine Dr.quiet T.ok mixed (by kernel_rfl) (fun W hW => ?_))
      repeat' ((conv => whnf); first | (((with_reducible show Gd ..); first | (with_reducible first | refine Gd.t ?_ | refine Gd.f ?_ | (first | apply Gd.dec | apply Gd.beq | apply Gd.bne) <;> intro _ | refine Gd.not ?_) | refine Gd.t ?_ | refine Gd.f ?_ | apply Gd.var <;> intro _) <;> try (exfalso; omega)) | ((with_reducible show QLd1 ..); first | refine QLd1.h hW H ?_ | refine QLd1.rF hW ?_ | refine QLd1.r hW ?_) | ((with_reducible show QLd ..); first | refine QLd.h hW H ?_ | refine QLd.r hW ?_) | ((with_reducible show Ix ..); first | refine Ix.h ?_ | refine Ix.ha ?_))
      (intro _ eT; replace H := H.ext eT; clear hW eT)
      repeat' ((conv => whnf); first | (((with_reducible show Gd ..); first | (with_reducible first | refine Gd.t ?_ | refine Gd.f ?_ | (first | apply Gd.dec | apply Gd.beq | apply Gd.bne) <;> intro _ | refine Gd.not ?_) | refine Gd.t ?_ | refine Gd.f ?_ | apply Gd.var <;> intro _) <;> try (exfalso; omega)) | with_reducible refine Sq.mk ?_ | ((with_reducible show Ld1 ..); first | refine Ld1.h H ?_ | refine Ld1.rF ?_ | refine Ld1.r ?_) | ((with_reducible show Ld ..); first | refine Ld.h H ?_ | refine Ld.r ?_) | ((with_reducible show Ix ..); first | refine Ix.h ?_ | refine Ix.ha ?_) | (refine St.h H ?_; clear H; intro _ H))
      all_goals first | (exfalso; omega) | skip
      · rename_i hb
        rw [bs_eq] at hb
        have hb := of_decide_eq_true hb
        refine ⟨j + 1, ⟨at_int (m := ((j + 1 : Nat) : Int)) rfl (w64 (by simp) (by omega) (by omega)), rfl, rfl, rfl, rfl, rfl, trivial⟩, rfl, ⟨by omega, ?_, H⟩, by omega⟩
        rw [List.take_succ_eq_append_getElem gx1, List.take_succ_eq_append_getElem gy1, gx2, gy2, ht, hb]
      · rename_i hb
        rw [bs_eq] at hb
        have hb := of_decide_eq_false hb
        refine ⟨b_eq ?_, H.e⟩
        rw [hs]
        have : ¬ ps1 = ps2 := fun h => by
          subst h
          rw [hx] at hy
          exact hb (Option.some.inj hy)
        simp [FM.e, sameF, this]
    · have hpp : ps1 = ps2 := by
        have h1 : ps1.take j = ps1 := List.take_of_length_le (by omega)
        have h2 : ps2.take j = ps2 := List.take_of_length_le (by omega)
        rw [← h1, ht, h2]
      subst hpp
      repeat' ((conv => whnf); first | (((with_reducible show Gd ..); first | (with_reducible first | refine Gd.t ?_ | refine Gd.f ?_ | (first | apply Gd.dec | apply Gd.beq | apply Gd.bne) <;> intro _ | refine Gd.not ?_) | refine Gd.t ?_ | refine Gd.f ?_ | apply Gd.var <;> intro _) <;> try (exfalso; omega)) | with_reducible refine Sq.mk ?_ | ((with_reducible show Ld1 ..); first | refine Ld1.h H ?_ | refine Ld1.rF ?_ | refine Ld1.r ?_) | ((with_reducible show Ld ..); first | refine Ld.h H ?_ | refine Ld.r ?_) | ((with_reducible show Ix ..); first | refine Ix.h ?_ | refine Ix.ha ?_) | (refine St.h H ?_; clear H; intro _ H))
      all_goals first | (exfalso; omega) | skip
      have hT : sameF (FM.e ⟨a1, P1, c1, ps1, B1, cB1, b1⟩) (FM.e ⟨a1, P2, c2, ps1, B2, cB2, b2⟩) = sameU (SM.es b1) (SM.es b2) := by simp [FM.e, sameF]
      rw [hT] at hs
      (((conv => whnf); refine Cl.mk (sameStmts_c _ b1 b2 B1 B2 cB1 cB2 _ (Nat.lt_succ_self _) (RdS.from H.e q2) (o1.ext H.e) (RdS.from H.e q4) (o2.ext H.e) g2) ?_); rintro _ _ ⟨rfl, hx⟩; replace H := H.ext hx; clear hx)
      cases hb : sameU (SM.es b1) (SM.es b2) with
      | true =>
        rw [hb, Bool.true_and] at hs
        repeat' ((conv => whnf); first | (((with_reducible show Gd ..); first | (with_reducible first | refine Gd.t ?_ | refine Gd.f ?_ | (first | apply Gd.dec | apply Gd.beq | apply Gd.bne) <;> intro _ | refine Gd.not ?_) | refine Gd.t ?_ | refine Gd.f ?_ | apply Gd.var <;> intro _) <;> try (exfalso; omega)) | with_reducible refine Sq.mk ?_ | ((with_reducible show Ld1 ..); first | refine Ld1.h H ?_ | refine Ld1.rF ?_ | refine Ld1.r ?_) | ((with_reducible show Ld ..); first | refine Ld.h H ?_ | refine Ld.r ?_) | ((with_reducible show Ix ..); first | refine Ix.h ?_ | refine Ix.ha ?_) | (refine St.h H ?_; clear H; intro _ H))
        exact ⟨i + 1, ⟨at_int (m := ((i + 1 : Nat) : Int)) rfl (w64 (by simp) (by omega) (by omega)), rfl, rfl, trivial⟩, rfl, ⟨by omega, hs, H.sel [2, 2] rfl⟩, by omega⟩
      | false =>
        rw [hb, Bool.false_and] at hs
        repeat' ((conv => whnf); first | (((with_reducible show Gd ..); first | (with_reducible first | refine Gd.t ?_ | refine Gd.f ?_ | (first | apply Gd.dec | apply Gd.beq | apply Gd.bne) <;> intro _ | refine Gd.not ?_) | refine Gd.t ?_ | refine Gd.f ?_ | apply Gd.var <;> intro _) <;> try (exfalso; omega)) | with_reducible refine Sq.mk ?_ | ((with_reducible show Ld1 ..); first | refine Ld1.h H ?_ | refine Ld1.rF ?_ | refine Ld1.r ?_) | ((with_reducible show Ld ..); first | refine Ld.h H ?_ | refine Ld.r ?_) | ((with_reducible show Ix ..); first | refine Ix.h ?_ | refine Ix.ha ?_) | (refine St.h H ?_; clear H; intro _ H))
        exact ⟨b_eq hs.symm, H.e⟩
  · rename_i hnn
    rw [bs_eq] at hnn
    have hnn : ¬ a1 = a2 := of_decide_eq_false hnn
    repeat' ((conv => whnf); first | (((with_reducible show Gd ..); first | (with_reducible first | refine Gd.t ?_ | refine Gd.f ?_ | (first | apply Gd.dec | apply Gd.beq | apply Gd.bne) <;> intro _ | refine Gd.not ?_) | refine Gd.t ?_ | refine Gd.f ?_ | apply Gd.var <;> intro _) <;> try (exfalso; omega)) | with_reducible refine Sq.mk ?_ | ((with_reducible show Ld1 ..); first | refine Ld1.h H ?_ | refine Ld1.rF ?_ | refine Ld1.r ?_) | ((with_reducible show Ld ..); first | refine Ld.h H ?_ | refine Ld.r ?_) | ((with_reducible show Ix ..); first | refine Ix.h ?_ | refine Ix.ha ?_) | (refine St.h H ?_; clear H; intro _ H))
    refine ⟨b_eq ?_, H.e⟩
    rw [hs]
    simp [FM.e, sameF, hnn]
end Go.Proofs.YtfnjodpehomgfaaGreatDoor
namespace Go.Proofs.YtfnjodpehomgfaaGreatDoor
open Go Go.Sh Go.Tx
attribute [local irreducible] Blk Ext RdS
theorem Ld1.rsFF {α : Type} {enc : α → List Value} {sz i o1 o2 : Nat} {w : World} {A : Option Addr} {l : List α} {x : α} {v : Value} {k : Value → Prop} (h : RdS enc sz w A l) (hx : l[i]? = some x) (hv : (enc x)[o1 + o2]? = some v) (hk : k v) : Ld1 w (pAdd (pAdd ((gA A).add (i * sz)) o1) o2) k := by
  have := Ld1.rsF (o := o1 + o2) h hx hv hk
  rw [pAdd_eq] at this
  rw [pAdd_eq, pAdd_eq, add_add]
  exact this
section
variable {S : Nat → Prop} {w0 w : World} {Γ : List Ck}
theorem Hp.trsC {x : ET} {r : List ET} (H : Hp S w0 w (trs (x :: r) :: Γ)) : Hp S w0 w (trs [x] :: trs r :: Γ) := by
  refine Hp.split2 H rfl (fun k hk => ?_) (fun h => ?_)
  · rcases hk with (hk | hk) | hk
    · exact .inl hk
    · exact hk.elim
    · exact .inr hk
  · obtain ⟨⟨h1, h2⟩, h3, h4, h5⟩ := h.holds
    refine ⟨trs_ok ⟨h1, trivial⟩ ⟨h3, trivial, fun b hb => hb.2.elim⟩, trs_ok h2 h4, fun k hk => ?_⟩
    rcases hk.1 with h | h
    · exact h5 k ⟨h, hk.2⟩
    · exact h
theorem Hp.stsC {x : SM} {r : List SM} (H : Hp S w0 w (sts (x :: r) :: Γ)) : Hp S w0 w (sts [x] :: sts r :: Γ) := by
  refine Hp.split2 H rfl (fun k hk => ?_) (fun h => ?_)
  · rcases hk with (hk | hk) | hk
    · exact .inl hk
    · exact hk.elim
    · exact .inr hk
  · obtain ⟨⟨h1, h2⟩, h3, h4, h5⟩ := h.holds
    refine ⟨sts_ok ⟨h1, trivial⟩ ⟨h3, trivial, fun b hb => hb.2.elim⟩, sts_ok h2 h4, fun k hk => ?_⟩
    rcases hk.1 with h | h
    · exact h5 k ⟨h, hk.2⟩
    · exact h
theorem Hp.fnsC {x : FM} {r : List FM} (H : Hp S w0 w (fns (x :: r) :: Γ)) : Hp S w0 w (fns [x] :: fns r :: Γ) := by
  refine Hp.split2 H rfl (fun k hk => ?_) (fun h => ?_)
  · rcases hk with (hk | hk) | hk
    · exact .inl hk
    · exact hk.elim
    · exact .inr hk
  · obtain ⟨⟨h1, h2⟩, h3, h4, h5⟩ := h.holds
    refine ⟨fns_ok ⟨h1, trivial⟩ ⟨h3, trivial, fun b hb => hb.2.elim⟩, fns_ok h2 h4, fun k hk => ?_⟩
    rcases hk.1 with h | h
    · exact h5 k ⟨h, hk.2⟩
    · exact h
theorem Hp.trsU {A : Option Addr} {c : Nat} {l : List ET} {kd o n : Int} {nm cb : Bs} (H : Hp S w0 w (trs [.mk kd o n nm cb A c l] :: Γ)) : Hp S w0 w (qu ET.enc 6 74 A c l :: trs l :: Γ) := by
  refine Hp.split2 H rfl (fun k hk => ?_) (fun h => ?_)
  · exact .inl hk
  · obtain ⟨⟨⟨h1, h2, h6⟩, _⟩, ⟨h3, h4⟩, _⟩ := h.holds
    exact ⟨qu_ok h1, trs_ok h2 h4, fun k hk => h3 k hk⟩
theorem Hp.stlU {A : Option Addr} {c : Nat} {l : List SM} (H : Hp S w0 w (stl A c l :: Γ)) : Hp S w0 w (qu SM.enc 10 76 A c l :: sts l :: Γ) := by
  refine Hp.split2 H rfl (fun k hk => hk) (fun h => ?_)
  obtain ⟨h1, h2, h3, h4, h5⟩ := h.holds
  exact ⟨qu_ok h1, sts_ok h2 h3, fun k hk => h4 k hk⟩
theorem Hp.stsU {e : ET} {B E : Option Addr} {cb ce : Nat} {b f : List SM} {kd : Int} {nm : Bs} (H : Hp S w0 w (sts [.mk kd nm e B cb b E ce f] :: Γ)) : Hp S w0 w (trs [e] :: stl B cb b :: stl E ce f :: Γ) := by
  have H1 : Hp S w0 w ((⟨fun k => ET.fp e k ∨ obk B = some k ∨ SM.fps b k, fun w => ET.Ok w e ∧ ET.Sep e ∧ (stl B cb b).P w ∧ ∀ k, ¬ (ET.fp e k ∧ (obk B = some k ∨ SM.fps b k)), true, false⟩ : Ck) :: stl E ce f :: Γ) := by
    refine Hp.split2 H rfl (fun k hk => ?_) (fun h => ?_)
    · rcases hk with (hk | hk | hk) | hk | hk
      · exact .inl (.inl hk)
      · exact .inl (.inr (.inl hk))
      · exact .inl (.inr (.inr (.inl hk)))
      · exact .inl (.inr (.inr (.inr (.inl hk))))
      · exact .inl (.inr (.inr (.inr (.inr hk))))
    · obtain ⟨⟨⟨h1, h2, h3, h4, h5, h6, h7⟩, _⟩, ⟨s1, s2, s3, s4⟩, _⟩ := h.holds
      have hb : (stl B cb b).Ok w := stl_ok h2 h3 s2 (fun k hk => (s4 k).2.1 ⟨hk.1, .inl hk.2⟩) h6
      have hf : (stl E ce f).Ok w := stl_ok h4 h5 s3 (fun k hk => (s4 k).2.2.2 hk) h7
      refine ⟨⟨⟨h1, s1, hb.holds, fun k hk => (s4 k).1 ⟨hk.1, ?_⟩⟩, fun k hk => ?_, fun w' hs hbk => ?_⟩, hf, fun k hk => ?_⟩
      · rcases hk.2 with h | h
        · exact .inl h
        · exact .inr (.inl h)
      · rcases hk with hk | hk
        · exact ET.Ok.lt h1 k hk
        · exact hb.lt k hk
      · exact ⟨ET.Ok.loc hs h1 fun k hk => hbk k (.inl hk), s1, hb.loc w' hs fun k hk => hbk k (.inr hk), fun k hk => (s4 k).1 ⟨hk.1, by rcases hk.2 with h | h; exact .inl h; exact .inr (.inl h)⟩⟩
      · rcases hk with ⟨hk1 | hk1 | hk1, hk2 | hk2⟩
        · exact (s4 k).1 ⟨hk1, .inr (.inr (.inl hk2))⟩
        · exact (s4 k).1 ⟨hk1, .inr (.inr (.inr hk2))⟩
        · exact (s4 k).2.1 ⟨hk1, .inr (.inl hk2)⟩
        · exact (s4 k).2.1 ⟨hk1, .inr (.inr hk2)⟩
        · exact (s4 k).2.2.1 ⟨hk1, .inl hk2⟩
        · exact (s4 k).2.2.1 ⟨hk1, .inr hk2⟩
  refine Hp.split2 H1 rfl (fun k hk => ?_) (fun h => ?_)
  · rcases hk with (hk | hk) | hk
    · exact .inl hk
    · exact hk.elim
    · exact .inr hk
  · obtain ⟨h1, h2, h3, h4⟩ := h.holds
    obtain ⟨q1, q2, q3, q4, q5⟩ := h3
    refine ⟨trs_ok ⟨h1, trivial⟩ ⟨h2, trivial, fun b hb => hb.2.elim⟩, stl_ok q1 q2 q3 q4 q5, fun k hk => ?_⟩
    rcases hk.1 with h | h
    · exact h4 k ⟨h, hk.2⟩
    · exact h
theorem Hp.fnsU {P B : Option Addr} {cp cb : Nat} {ps : List Bs} {b : List SM} {nm : Bs} (H : Hp S w0 w (fns [⟨nm, P, cp, ps, B, cb, b⟩] :: Γ)) : Hp S w0 w (qu strE 1 9 P cp ps :: stl B cb b :: Γ) := by
  refine Hp.split2 H rfl (fun k hk => ?_) (fun h => ?_)
  · exact .inl hk
  · obtain ⟨⟨⟨h1, h2, h3, h4, h5⟩, _⟩, ⟨s1, s2, s3⟩, _⟩ := h.holds
    exact ⟨qu_ok h1, stl_ok h2 h3 s1 s3 h5, fun k hk => s2 k hk⟩
end
theorem set_app {α : Type} {z : α} {l r : List α} {x : α} {i : Nat} (h : l.drop i = x :: r) : (List.replicate i z ++ l.drop i).set i z = List.replicate (i + 1) z ++ l.drop (i + 1) := by
  have h2 : l.drop (i + 1) = r := by rw [← List.drop_drop, h]; rfl
  rw [h, h2, List.set_append_right _ _ (by simp), List.length_replicate, Nat.sub_self, List.set_cons_zero, List.replicate_succ', List.append_assoc]; rfl
def zE : ET := .mk 77 0 0 [] [] none 0 []
set_option maxHeartbeats 4000000 in
theorem spoilKids_c : ∀ (n : Nat) (kd o nn : Int) (nm cb : Bs) (A : Option Addr) (c : Nat) (l : List ET) (w : World), ET.szs l < n → ET.Ok w (.mk kd o nn nm cb A c l) → ET.Sep (.mk kd o nn nm cb A c l) →
    Cl Tryz.prog 36 #[.slice A l.length c] w (fun _ w' => Hp (ET.fp (.mk kd o nn nm cb A c l)) w w' []) (fun _ _ => False)
  | 0, _, _, _, _, _, _, _, l, w, hn, _, _ => by omega
  | n + 1, kd, o, nn, nm, cb, A, c, l, w, hn, hO, hS => by
    have hlb := hO.2.2
    refine calls_ex (args := [.slice A l.length c]) T.ok Tryz.func36 rfl rfl rfl rfl ?_
    have H := Hp.start (S := ET.fp (.mk kd o nn nm cb A c l)) (trs_ok (l := [.mk kd o nn nm cb A c l]) ⟨hO, trivial⟩ ⟨hS, trivial, fun b hb => hb.2.elim⟩) (fun k hk => by rcases hk with hk | hk; exact hk; exact hk.elim)
    replace H := Hp.trsU H
    repeat' ((conv => whnf); first | (((with_reducible show Gd ..); first | (with_reducible first | refine Gd.t ?_ | refine Gd.f ?_ | (first | apply Gd.dec | apply Gd.beq | apply Gd.bne) <;> intro _ | refine Gd.not ?_) | refine Gd.t ?_ | refine Gd.f ?_ | apply Gd.var <;> intro _) <;> try (exfalso; omega)) | with_reducible refine Sq.mk ?_ | ((with_reducible show Ld1 ..); first | refine Ld1.h H ?_ | refine Ld1.rF ?_ | refine Ld1.r ?_) | ((with_reducible show Ld ..); first | refine Ld.h H ?_ | refine Ld.r ?_) | ((with_reducible show Ix ..); first | refine Ix.h ?_ | refine Ix.ha ?_) | (refine St.h H ?_; clear H; intro _ H))
    refine Lp.g0 T.ok (σ := Nat) (fun i => [(2, .int .i64 (i : Int)), (0, .slice A l.length c)])
      (fun i w' => i ≤ l.length ∧ Hp (ET.fp (.mk kd o nn nm cb A c l)) w w' [qu ET.enc 6 74 A c (List.replicate i zE ++ l.drop i), trs (l.drop i)]) (fun i _ => l.length - i) 0 rfl ⟨rfl, rfl, trivial⟩ ⟨Nat.zero_le _, H⟩ ?_
    clear H
    rintro i w5 ⟨hi, H⟩
    have hlenl : (List.replicate i zE ++ l.drop i).length = l.length := by rw [List.length_append, List.length_replicate, List.length_drop]; omega
    by_cases hlt : i < l.length
    case neg =>
      repeat' ((conv => whnf); first | (((with_reducible show Gd ..); first | (with_reducible first | refine Gd.t ?_ | refine Gd.f ?_ | (first | apply Gd.dec | apply Gd.beq | apply Gd.bne) <;> intro _ | refine Gd.not ?_) | refine Gd.t ?_ | refine Gd.f ?_ | apply Gd.var <;> intro _) <;> try (exfalso; omega)) | with_reducible refine Sq.mk ?_ | ((with_reducible show Ld1 ..); first | refine Ld1.h H ?_ | refine Ld1.rF ?_ | refine Ld1.r ?_) | ((with_reducible show Ld ..); first | refine Ld.h H ?_ | refine Ld.r ?_) | ((with_reducible show Ix ..); first | refine Ix.h ?_ | refine Ix.ha ?_) | (refine St.h H ?_; clear H; intro _ H))
      all_goals first | (exfalso; omega) | skip
      exact H.non
    obtain ⟨u, r, hur⟩ : ∃ u r, l.drop i = u :: r := ⟨_, _, List.drop_eq_getElem_cons hlt⟩
    have hu : (List.replicate i zE ++ l.drop i)[i]? = some u := by rw [hur, List.getElem?_append_right (by simp), List.length_replicate, Nat.sub_self]; rfl
    have hul : l[i]? = some u := by rw [← List.head?_drop, hur]; rfl
    have hset := set_app (z := zE) hur
    have hdr : r = l.drop (i + 1) := by rw [← List.drop_drop, hur]; rfl
    have hzn := ET.sz_mem (List.mem_of_getElem? hul)
    rw [hur] at H
    replace H := Hp.trsC (Hp.swap H)
    obtain ⟨k1, o1, n1, a1, b1, A1, c1, l1⟩ := u
    have hrr := H.rdq 2 rfl
    have hilt : i < (List.replicate i zE ++ ET.mk k1 o1 n1 a1 b1 A1 c1 l1 :: r).length := by rw [← hur, hlenl]; exact hlt
    rw [hur] at hu hlenl hset
    rw [← hlenl]
    repeat' ((conv => whnf); first | (((with_reducible show Gd ..); first | (with_reducible first | refine Gd.t ?_ | refine Gd.f ?_ | (first | apply Gd.dec | apply Gd.beq | apply Gd.bne) <;> intro _ | refine Gd.not ?_) | refine Gd.t ?_ | refine Gd.f ?_ | apply Gd.var <;> intro _) <;> try (exfalso; omega)) | with_reducible refine Sq.mk ?_ | ((with_reducible show Ld1 ..); first | refine Ld1.h H ?_ | refine Ld1.rF ?_ | refine Ld1.r ?_) | ((with_reducible show Ld ..); first | refine Ld.h H ?_ | refine Ld.r ?_) | ((with_reducible show Ix ..); first | refine Ix.h ?_ | refine Ix.ha ?_) | (refine St.h H ?_; clear H; intro _ H))
    all_goals first | (exfalso; omega) | skip
    simp only [ET.sz] at hzn
    have hou := (H.atC (c := trs [.mk k1 o1 n1 a1 b1 A1 c1 l1]) 0 rfl)
    ((conv => whnf); refine Cl.mk (spoilKids_c n k1 o1 n1 a1 b1 A1 c1 l1 _ (by omega) hou.1.1 hou.2.1) ?_)
    rintro _ w6 H'
    replace H := Hp.frame (Γ1 := [trs [.mk k1 o1 n1 a1 b1 A1 c1 l1]]) H (fun c hc => by rw [List.mem_singleton.1 hc]) (fun k hk => ⟨_, List.mem_singleton.2 rfl, .inl hk⟩) H' (fun c hc => by simp at hc)
    clear H' hou
    simp only [List.nil_append] at H
    repeat' ((conv => whnf); first | (((with_reducible show Gd ..); first | (with_reducible first | refine Gd.t ?_ | refine Gd.f ?_ | (first | apply Gd.dec | apply Gd.beq | apply Gd.bne) <;> intro _ | refine Gd.not ?_) | refine Gd.t ?_ | refine Gd.f ?_ | apply Gd.var <;> intro _) <;> try (exfalso; omega)) | with_reducible refine Sq.mk ?_ | ((with_reducible show Ld1 ..); first | refine Ld1.h H ?_ | refine Ld1.rF ?_ | refine Ld1.r ?_) | ((with_reducible show Ld ..); first | refine Ld.h H ?_ | refine Ld.r ?_) | ((with_reducible show Ix ..); first | refine Ix.h ?_ | refine Ix.ha ?_) | (refine St.h H ?_; clear H; intro _ H))
    (conv => whnf)
    refine St.elq (enc := ET.enc) (x := zE) (l := List.replicate i zE ++ ET.mk k1 o1 n1 a1 b1 A1 c1 l1 :: r) H rfl hilt rfl (fun w7 H => ?_)
    rw [hset] at H
    repeat' ((conv => whnf); first | (((with_reducible show Gd ..); first | (with_reducible first | refine Gd.t ?_ | refine Gd.f ?_ | (first | apply Gd.dec | apply Gd.beq | apply Gd.bne) <;> intro _ | refine Gd.not ?_) | refine Gd.t ?_ | refine Gd.f ?_ | apply Gd.var <;> intro _) <;> try (exfalso; omega)) | with_reducible refine Sq.mk ?_ | ((with_reducible show Ld1 ..); first | refine Ld1.h H ?_ | refine Ld1.rF ?_ | refine Ld1.r ?_) | ((with_reducible show Ld ..); first | refine Ld.h H ?_ | refine Ld.r ?_) | ((with_reducible show Ix ..); first | refine Ix.h ?_ | refine Ix.ha ?_) | (refine St.h H ?_; clear H; intro _ H))
    rw [hdr] at H
    exact ⟨i + 1, ⟨at_int rfl (w64 (by simp) (by omega) (by omega)), at_val rfl (by rw [hlenl]), trivial⟩, rfl, ⟨by omega, H.sel [1, 0] rfl⟩, by omega⟩
def zS : SM := .mk 77 [] (.mk 0 0 0 [] [] none 0 []) none 0 [] none 0 []
abbrev stF (A : Option Addr) (l : List SM) : Nat → Prop := fun k => obk A = some k ∨ SM.fps l k
set_option maxHeartbeats 4000000 in
theorem spoil_c : ∀ (n : Nat) (A : Option Addr) (c : Nat) (l : List SM) (w : World), SM.szs l < n → (stl A c l).Ok w →
    Cl Tryz.prog 14 #[.slice A l.length c] w (fun _ w' => Hp (stF A l) w w' []) (fun _ _ => False)
  | 0, _, _, l, w, hn, _ => by omega
  | n + 1, A, c, l, w, hn, hO => by
    have hlb := hO.holds.2.2.2.2
    refine calls_ex (args := [.slice A l.length c]) T.ok Tryz.func14 rfl rfl rfl rfl ?_
    have H := Hp.start (S := stF A l) hO (fun k hk => hk)
    replace H := Hp.stlU H
    repeat' ((conv => whnf); first | (((with_reducible show Gd ..); first | (with_reducible first | refine Gd.t ?_ | refine Gd.f ?_ | (first | apply Gd.dec | apply Gd.beq | apply Gd.bne) <;> intro _ | refine Gd.not ?_) | refine Gd.t ?_ | refine Gd.f ?_ | apply Gd.var <;> intro _) <;> try (exfalso; omega)) | with_reducible refine Sq.mk ?_ | ((with_reducible show Ld1 ..); first | refine Ld1.h H ?_ | refine Ld1.rF ?_ | refine Ld1.r ?_) | ((with_reducible show Ld ..); first | refine Ld.h H ?_ | refine Ld.r ?_) | ((with_reducible show Ix ..); first | refine Ix.h ?_ | refine Ix.ha ?_) | (refine St.h H ?_; clear H; intro _ H))
    refine Lp.g0 T.ok (σ := Nat) (fun i => [(2, .int .i64 (i : Int)), (0, .slice A l.length c)])
      (fun i w' => i ≤ l.length ∧ Hp (stF A l) w w' [qu SM.enc 10 76 A c (List.replicate i zS ++ l.drop i), sts (l.drop i)]) (fun i _ => l.length - i) 0 rfl ⟨rfl, rfl, trivial⟩ ⟨Nat.zero_le _, H⟩ ?_
    clear H
    rintro i w5 ⟨hi, H⟩
    have hlenl : (List.replicate i zS ++ l.drop i).length = l.length := by rw [List.length_append, List.length_replicate, List.length_drop]; omega
    by_cases hlt : i < l.length
    case neg =>
      repeat' ((conv => whnf); first | (((with_reducible show Gd ..); first | (with_reducible first | refine Gd.t ?_ | refine Gd.f ?_ | (first | apply Gd.dec | apply Gd.beq | apply Gd.bne) <;> intro _ | refine Gd.not ?_) | refine Gd.t ?_ | refine Gd.f ?_ | apply Gd.var <;> intro _) <;> try (exfalso; omega)) | with_reducible refine Sq.mk ?_ | ((with_reducible show Ld1 ..); first | refine Ld1.h H ?_ | refine Ld1.rF ?_ | refine Ld1.r ?_) | ((with_reducible show Ld ..); first | refine Ld.h H ?_ | refine Ld.r ?_) | ((with_reducible show Ix ..); first | refine Ix.h ?_ | refine Ix.ha ?_) | (refine St.h H ?_; clear H; intro _ H))
      all_goals first | (exfalso; omega) | skip
      exact H.non
    obtain ⟨u, r, hur⟩ : ∃ u r, l.drop i = u :: r := ⟨_, _, List.drop_eq_getElem_cons hlt⟩
    have hu : (List.replicate i zS ++ l.drop i)[i]? = some u := by rw [hur, List.getElem?_append_right (by simp), List.length_replicate, Nat.sub_self]; rfl
    have hul : l[i]? = some u := by rw [← List.head?_drop, hur]; rfl
    have hset := set_app (z := zS) hur
    have hdr : r = l.drop (i + 1) := by rw [← List.drop_drop, hur]; rfl
    have hzn := SM.sz_mem (List.mem_of_getElem? hul)
    rw [hur] at H
    obtain ⟨kd, nm, ⟨k1, o1, n1, a1, b1, A1, c1, l1⟩, B, cb, b, E, ce, f⟩ := u
    replace H := Hp.stsU (Hp.stsC (Hp.swap H))
    have hilt : i < (List.replicate i zS ++ SM.mk kd nm (.mk k1 o1 n1 a1 b1 A1 c1 l1) B cb b E ce f :: r).length := by rw [← hur, hlenl]; exact hlt
    rw [hur] at hu hlenl hset
    rw [← hlenl]
    simp only [SM.sz] at hzn
    have hrr := H.rdq 4 rfl
    repeat' ((conv => whnf); first | (((with_reducible show Gd ..); first | (with_reducible first | refine Gd.t ?_ | refine Gd.f ?_ | (first | apply Gd.dec | apply Gd.beq | apply Gd.bne) <;> intro _ | refine Gd.not ?_) | refine Gd.t ?_ | refine Gd.f ?_ | apply Gd.var <;> intro _) <;> try (exfalso; omega)) | with_reducible refine Sq.mk ?_ | ((with_reducible show Ld1 ..); first | refine Ld1.h H ?_ | refine Ld1.rF ?_ | refine Ld1.r ?_) | ((with_reducible show Ld ..); first | refine Ld.h H ?_ | refine Ld.r ?_) | ((with_reducible show Ix ..); first | refine Ix.h ?_ | refine Ix.ha ?_) | (refine St.h H ?_; clear H; intro _ H))
    all_goals first | (exfalso; omega) | skip
    (conv => whnf)
    refine Ld1.rsFF (o1 := 2) (o2 := 5) hrr hu rfl ?_
    repeat' ((conv => whnf); first | (((with_reducible show Gd ..); first | (with_reducible first | refine Gd.t ?_ | refine Gd.f ?_ | (first | apply Gd.dec | apply Gd.beq | apply Gd.bne) <;> intro _ | refine Gd.not ?_) | refine Gd.t ?_ | refine Gd.f ?_ | apply Gd.var <;> intro _) <;> try (exfalso; omega)) | with_reducible refine Sq.mk ?_ | ((with_reducible show Ld1 ..); first | refine Ld1.h H ?_ | refine Ld1.rF ?_ | refine Ld1.r ?_) | ((with_reducible show Ld ..); first | refine Ld.h H ?_ | refine Ld.r ?_) | ((with_reducible show Ix ..); first | refine Ix.h ?_ | refine Ix.ha ?_) | (refine St.h H ?_; clear H; intro _ H))
    have hou := (H.atC (c := trs [.mk k1 o1 n1 a1 b1 A1 c1 l1]) 0 rfl)
    ((conv => whnf); refine Cl.mk (spoilKids_c _ k1 o1 n1 a1 b1 A1 c1 l1 _ (Nat.lt_succ_self _) hou.1.1 hou.2.1) ?_)
    rintro _ w6 H'
    replace H := Hp.frame (Γ1 := [trs [.mk k1 o1 n1 a1 b1 A1 c1 l1]]) H (fun c hc => by rw [List.mem_singleton.1 hc]) (fun k hk => ⟨_, List.mem_singleton.2 rfl, .inl hk⟩) H' (fun c hc => by simp at hc)
    clear H' hou hrr
    simp only [List.nil_append] at H
    have hrr := H.rdq 3 rfl
    repeat' ((conv => whnf); first | (((with_reducible show Gd ..); first | (with_reducible first | refine Gd.t ?_ | refine Gd.f ?_ | (first | apply Gd.dec | apply Gd.beq | apply Gd.bne) <;> intro _ | refine Gd.not ?_) | refine Gd.t ?_ | refine Gd.f ?_ | apply Gd.var <;> intro _) <;> try (exfalso; omega)) | with_reducible refine Sq.mk ?_ | ((with_reducible show Ld1 ..); first | refine Ld1.h H ?_ | refine Ld1.rF ?_ | refine Ld1.r ?_) | ((with_reducible show Ld ..); first | refine Ld.h H ?_ | refine Ld.r ?_) | ((with_reducible show Ix ..); first | refine Ix.h ?_ | refine Ix.ha ?_) | (refine St.h H ?_; clear H; intro _ H))
    ((conv => whnf); refine Cl.mk (spoil_c n B cb b _ (by omega) (H.ok _ (by simp))) ?_)
    rintro _ w7 H'
    replace H := Hp.frame (Γ1 := [stl B cb b]) H (fun c hc => by rw [List.mem_singleton.1 hc]) (fun k hk => ⟨_, List.mem_singleton.2 rfl, hk⟩) H' (fun c hc => by simp at hc)
    clear H' hrr
    simp only [List.nil_append] at H
    have hrr := H.rdq 2 rfl
    repeat' ((conv => whnf); first | (((with_reducible show Gd ..); first | (with_reducible first | refine Gd.t ?_ | refine Gd.f ?_ | (first | apply Gd.dec | apply Gd.beq | apply Gd.bne) <;> intro _ | refine Gd.not ?_) | refine Gd.t ?_ | refine Gd.f ?_ | apply Gd.var <;> intro _) <;> try (exfalso; omega)) | with_reducible refine Sq.mk ?_ | ((with_reducible show Ld1 ..); first | refine Ld1.h H ?_ | refine Ld1.rF ?_ | refine Ld1.r ?_) | ((with_reducible show Ld ..); first | refine Ld.h H ?_ | refine Ld.r ?_) | ((with_reducible show Ix ..); first | refine Ix.h ?_ | refine Ix.ha ?_) | (refine St.h H ?_; clear H; intro _ H))
    ((conv => whnf); refine Cl.mk (spoil_c n E ce f _ (by omega) (H.ok _ (by simp))) ?_)
    rintro _ w8 H'
    replace H := Hp.frame (Γ1 := [stl E ce f]) H (fun c hc => by rw [List.mem_singleton.1 hc]) (fun k hk => ⟨_, List.mem_singleton.2 rfl, hk⟩) H' (fun c hc => by simp at hc)
    clear H' hrr
    simp only [List.nil_append] at H
    repeat' ((conv => whnf); first | (((with_reducible show Gd ..); first | (with_reducible first | refine Gd.t ?_ | refine Gd.f ?_ | (first | apply Gd.dec | apply Gd.beq | apply Gd.bne) <;> intro _ | refine Gd.not ?_) | refine Gd.t ?_ | refine Gd.f ?_ | apply Gd.var <;> intro _) <;> try (exfalso; omega)) | with_reducible refine Sq.mk ?_ | ((with_reducible show Ld1 ..); first | refine Ld1.h H ?_ | refine Ld1.rF ?_ | refine Ld1.r ?_) | ((with_reducible show Ld ..); first | refine Ld.h H ?_ | refine Ld.r ?_) | ((with_reducible show Ix ..); first | refine Ix.h ?_ | refine Ix.ha ?_) | (refine St.h H ?_; clear H; intro _ H))
    (conv => whnf)
    refine St.elq (enc := SM.enc) (x := zS) (l := List.replicate i zS ++ SM.mk kd nm (.mk k1 o1 n1 a1 b1 A1 c1 l1) B cb b E ce f :: r) H rfl hilt rfl (fun w7 H => ?_)
    rw [hset] at H
    repeat' ((conv => whnf); first | (((with_reducible show Gd ..); first | (with_reducible first | refine Gd.t ?_ | refine Gd.f ?_ | (first | apply Gd.dec | apply Gd.beq | apply Gd.bne) <;> intro _ | refine Gd.not ?_) | refine Gd.t ?_ | refine Gd.f ?_ | apply Gd.var <;> intro _) <;> try (exfalso; omega)) | with_reducible refine Sq.mk ?_ | ((with_reducible show Ld1 ..); first | refine Ld1.h H ?_ | refine Ld1.rF ?_ | refine Ld1.r ?_) | ((with_reducible show Ld ..); first | refine Ld.h H ?_ | refine Ld.r ?_) | ((with_reducible show Ix ..); first | refine Ix.h ?_ | refine Ix.ha ?_) | (refine St.h H ?_; clear H; intro _ H))
    rw [hdr] at H
    exact ⟨i + 1, ⟨at_int rfl (w64 (by simp) (by omega) (by omega)), at_val rfl (by rw [hlenl]), trivial⟩, rfl, ⟨by omega, H.sel [1, 0] rfl⟩, by omega⟩
end Go.Proofs.YtfnjodpehomgfaaGreatDoor
namespace Go.Proofs.YtfnjodpehomgfaaGreatDoor
open Go Go.Sh Go.Tx
attribute [local irreducible] Blk Ext RdS
mutual
theorem sameE_refl : ∀ x : Ex, sameE x x = true
  | .mk _ _ _ _ _ l => by simp [sameE, sameL_refl l]
theorem sameL_refl : ∀ l : List Ex, sameL l l = true
  | [] => rfl
  | x :: r => by simp [sameL, sameE_refl x, sameL_refl r]
end
mutual
theorem sameT_refl : ∀ x : Go.Tx.St, sameT x x = true
  | .mk _ _ e b f => by simp [sameT, sameE_refl e, sameU_refl b, sameU_refl f]
theorem sameU_refl : ∀ l : List Go.Tx.St, sameU l l = true
  | [] => rfl
  | x :: r => by simp [sameU, sameT_refl x, sameU_refl r]
end
theorem sameP_refl : ∀ l : List Fnc, sameP l l = true
  | [] => rfl
  | x :: r => by simp [sameP, sameF, sameU_refl x.body, sameP_refl r]
def srcOf (R : Res (List Fnc)) : List Fnc := match R with | .ok l _ => l | _ => []
def errOf (R : Res (List Fnc)) : Int := match R with | .err e _ => e | _ => 0
def plcOf (R : Res (List Fnc)) : Nat := match R with | .err _ p => p | _ => 0
def OkQ (R : Res (List Fnc)) (w : World) (v : Value) (w' : World) : Prop :=
  ∃ m A c, m.map FM.e = srcOf R ∧ v = .tuple #[.agg #[.slice A m.length c], .agg #[.int .i64 (errOf R), .int .i64 (plcOf R : Int)]] ∧ m.length ≤ 2000000 ∧ Hp nw w w' [qu FM.enc 3 34 A c m, fns m]
theorem okq {l : Bs} {w w' : World} {v : Value} (h : OkP l w v w') : OkQ (PR l) w v w' := by
  rcases h with ⟨m, ts, A, c, h1, h2, h3, h4⟩ | ⟨e, p, h1, h2, h3⟩
  · exact ⟨m, A, c, by rw [h1]; rfl, by rw [h1]; exact h2, h3, h4⟩
  · refine ⟨[], none, 0, by rw [h1]; rfl, by rw [h1]; exact h2, by simp, Hp.nil (Hp.fns0 ((Hp.begin nw w).ext h3)) FM.enc 3 34⟩
def chgB : Bs := [99, 104, 97, 110, 103, 101, 100]
def zF : FM := ⟨[99, 104, 97, 110, 103, 101, 100], none, 0, [], none, 0, []⟩
set_option maxHeartbeats 8000000 in
theorem textParse_c (l : Bs) (w : World) (hG : Rg w) :
    Cl Tryz.prog 3 #[.string (bs l)] w (fun u w' => u = .bool true ∧ Ext w w') (fun _ _ => False) := by
  refine calls_ex (args := [.string (bs l)]) T.ok Tryz.func3 rfl rfl rfl rfl ?_
  have H := Hp.begin nw w
  repeat' ((conv => whnf); first | (((with_reducible show Gd ..); first | (with_reducible first | refine Gd.t ?_ | refine Gd.f ?_ | (first | apply Gd.dec | apply Gd.beq | apply Gd.bne) <;> intro _ | refine Gd.not ?_) | refine Gd.t ?_ | refine Gd.f ?_ | apply Gd.var <;> intro _) <;> try (exfalso; omega)) | with_reducible refine Sq.mk ?_ | ((with_reducible show Ld1 ..); first | refine Ld1.h H ?_ | refine Ld1.rF ?_ | refine Ld1.r ?_) | ((with_reducible show Ld ..); first | refine Ld.h H ?_ | refine Ld.r ?_) | ((with_reducible show Ix ..); first | refine Ix.h ?_ | refine Ix.ha ?_) | (refine St.h H ?_; clear H; intro _ H))
  ((conv => whnf); refine Cl.mk (ParseR_r l _) ?_)
  intro v1 w1 q1
  obtain ⟨m1, A1, c1, e1, rfl, l1, H'⟩ := okq q1
  clear q1
  replace H := H.fr0L H' (fun c hc => by simp only [List.mem_cons, List.not_mem_nil, or_false] at hc; rcases hc with rfl | rfl <;> exact .inl rfl)
  clear H'
  repeat' ((conv => whnf); first | (((with_reducible show Gd ..); first | (with_reducible first | refine Gd.t ?_ | refine Gd.f ?_ | (first | apply Gd.dec | apply Gd.beq | apply Gd.bne) <;> intro _ | refine Gd.not ?_) | refine Gd.t ?_ | refine Gd.f ?_ | apply Gd.var <;> intro _) <;> try (exfalso; omega)) | with_reducible refine Sq.mk ?_ | ((with_reducible show Ld1 ..); first | refine Ld1.h H ?_ | refine Ld1.rF ?_ | refine Ld1.r ?_) | ((with_reducible show Ld ..); first | refine Ld.h H ?_ | refine Ld.r ?_) | ((with_reducible show Ix ..); first | refine Ix.h ?_ | refine Ix.ha ?_) | (refine St.h H ?_; clear H; intro _ H))
  ((conv => whnf); refine Al.hp H ?_; clear H; intro p3 _ H _)
  ((conv => whnf); refine Al.hp H ?_; clear H; intro p4 _ H _)
  repeat' ((conv => whnf); first | (((with_reducible show Gd ..); first | (with_reducible first | refine Gd.t ?_ | refine Gd.f ?_ | (first | apply Gd.dec | apply Gd.beq | apply Gd.bne) <;> intro _ | refine Gd.not ?_) | refine Gd.t ?_ | refine Gd.f ?_ | apply Gd.var <;> intro _) <;> try (exfalso; omega)) | with_reducible refine Sq.mk ?_ | ((with_reducible show Ld1 ..); first | refine Ld1.h H ?_ | refine Ld1.rF ?_ | refine Ld1.r ?_) | ((with_reducible show Ld ..); first | refine Ld.h H ?_ | refine Ld.r ?_) | ((with_reducible show Ix ..); first | refine Ix.h ?_ | refine Ix.ha ?_) | (refine St.h H ?_; clear H; intro _ H))
  ((conv => whnf); refine Cl.mk (Parse_c l _ (hG.ext H.e)) ?_)
  intro v2 w2 q2
  obtain ⟨m2, A2, c2, e2, rfl, l2, H'⟩ := okq q2
  clear q2
  replace H := H.fr0L H' (fun c hc => by simp only [List.mem_cons, List.not_mem_nil, or_false] at hc; rcases hc with rfl | rfl <;> exact .inl rfl)
  clear H'
  repeat' ((conv => whnf); first | (((with_reducible show Gd ..); first | (with_reducible first | refine Gd.t ?_ | refine Gd.f ?_ | (first | apply Gd.dec | apply Gd.beq | apply Gd.bne) <;> intro _ | refine Gd.not ?_) | refine Gd.t ?_ | refine Gd.f ?_ | apply Gd.var <;> intro _) <;> try (exfalso; omega)) | with_reducible refine Sq.mk ?_ | ((with_reducible show Ld1 ..); first | refine Ld1.h H ?_ | refine Ld1.rF ?_ | refine Ld1.r ?_) | ((with_reducible show Ld ..); first | refine Ld.h H ?_ | refine Ld.r ?_) | ((with_reducible show Ix ..); first | refine Ix.h ?_ | refine Ix.ha ?_) | (refine St.h H ?_; clear H; intro _ H))
  ((conv => whnf); refine Al.hp H ?_; clear H; intro p5 _ H _)
  ((conv => whnf); refine Al.hp H ?_; clear H; intro p6 _ H _)
  repeat' ((conv => whnf); first | (((with_reducible show Gd ..); first | (with_reducible first | refine Gd.t ?_ | refine Gd.f ?_ | (first | apply Gd.dec | apply Gd.beq | apply Gd.bne) <;> intro _ | refine Gd.not ?_) | refine Gd.t ?_ | refine Gd.f ?_ | apply Gd.var <;> intro _) <;> try (exfalso; omega)) | with_reducible refine Sq.mk ?_ | ((with_reducible show Ld1 ..); first | refine Ld1.h H ?_ | refine Ld1.rF ?_ | refine Ld1.r ?_) | ((with_reducible show Ld ..); first | refine Ld.h H ?_ | refine Ld.r ?_) | ((with_reducible show Ix ..); first | refine Ix.h ?_ | refine Ix.ha ?_) | (refine St.h H ?_; clear H; intro _ H))
  ((conv => whnf); refine Cl.mk (Parse_c l _ (hG.ext H.e)) ?_)
  intro v3 w3 q3
  obtain ⟨m3, A3, c3, e3, rfl, l3, H'⟩ := okq q3
  clear q3
  replace H := H.fr0L H' (fun c hc => by simp only [List.mem_cons, List.not_mem_nil, or_false] at hc; rcases hc with rfl | rfl <;> exact .inl rfl)
  clear H'
  simp only [List.cons_append, List.nil_append] at H
  repeat' ((conv => whnf); first | (((with_reducible show Gd ..); first | (with_reducible first | refine Gd.t ?_ | refine Gd.f ?_ | (first | apply Gd.dec | apply Gd.beq | apply Gd.bne) <;> intro _ | refine Gd.not ?_) | refine Gd.t ?_ | refine Gd.f ?_ | apply Gd.var <;> intro _) <;> try (exfalso; omega)) | with_reducible refine Sq.mk ?_ | ((with_reducible show Ld1 ..); first | refine Ld1.h H ?_ | refine Ld1.rF ?_ | refine Ld1.r ?_) | ((with_reducible show Ld ..); first | refine Ld.h H ?_ | refine Ld.r ?_) | ((with_reducible show Ix ..); first | refine Ix.h ?_ | refine Ix.ha ?_) | (refine St.h H ?_; clear H; intro _ H))
  ((conv => whnf); refine Al.hp H ?_; clear H; intro p7 _ H _)
  ((conv => whnf); refine Al.hp H ?_; clear H; intro p8 _ H _)
  repeat' ((conv => whnf); first | (((with_reducible show Gd ..); first | (with_reducible first | refine Gd.t ?_ | refine Gd.f ?_ | (first | apply Gd.dec | apply Gd.beq | apply Gd.bne) <;> intro _ | refine Gd.not ?_) | refine Gd.t ?_ | refine Gd.f ?_ | apply Gd.var <;> intro _) <;> try (exfalso; omega)) | with_reducible refine Sq.mk ?_ | ((with_reducible show Ld1 ..); first | refine Ld1.h H ?_ | refine Ld1.rF ?_ | refine Ld1.r ?_) | ((with_reducible show Ld ..); first | refine Ld.h H ?_ | refine Ld.r ?_) | ((with_reducible show Ix ..); first | refine Ix.h ?_ | refine Ix.ha ?_) | (refine St.h H ?_; clear H; intro _ H))
  all_goals first | (exfalso; exact absurd (by assumption : (_ && _) = false) (by simp)) | skip
  have hs21 : sameP (m2.map FM.e) (m1.map FM.e) = true := by rw [e2, e1]; exact sameP_refl _
  have hs31 : sameP (m3.map FM.e) (m1.map FM.e) = true := by rw [e3, e1]; exact sameP_refl _
  have hfix : ∀ w', Hp nw w w' [bk p8 27 [.int .i64 (errOf (PR l)), .int .i64 (plcOf (PR l) : Int)], bk p7 24 [.slice A3 m3.length c3], qu FM.enc 3 34 A3 c3 m3, fns m3, bk p6 27 [.int .i64 (errOf (PR l)), .int .i64 (plcOf (PR l) : Int)], bk p5 24 [.slice A2 m2.length c2], qu FM.enc 3 34 A2 c2 m2, fns m2, bk p4 27 [.int .i64 (errOf (PR l)), .int .i64 (plcOf (PR l) : Int)], bk p3 24 [.slice A1 m1.length c1], qu FM.enc 3 34 A1 c1 m1, fns m1] → Hp nw w w' [qu FM.enc 3 34 A2 c2 m2, fns m2, bk p5 24 [.slice A2 m2.length c2], bk p7 24 [.slice A3 m3.length c3], qu FM.enc 3 34 A3 c3 m3, fns m3, bk p3 24 [.slice A1 m1.length c1], qu FM.enc 3 34 A1 c1 m1, fns m1] := fun _ h => h.sel [6, 6, 5, 1, 1, 1, 3, 3, 3] rfl
  replace H := hfix _ H
  clear hfix
  (((conv => whnf); refine Cl.mk (same_c m2 m1 A2 A1 c2 c1 _ (H.rdq 0 rfl) (H.atC (c := fns m2) 1 rfl).1 (H.rdq 7 rfl) (H.atC (c := fns m1) 8 rfl).1 l2) ?_); rintro _ _ ⟨rfl, hx⟩; replace H := H.ext hx; clear hx)
  rw [hs21]
  repeat' ((conv => whnf); first | (((with_reducible show Gd ..); first | (with_reducible first | refine Gd.t ?_ | refine Gd.f ?_ | (first | apply Gd.dec | apply Gd.beq | apply Gd.bne) <;> intro _ | refine Gd.not ?_) | refine Gd.t ?_ | refine Gd.f ?_ | apply Gd.var <;> intro _) <;> try (exfalso; omega)) | with_reducible refine Sq.mk ?_ | ((with_reducible show Ld1 ..); first | refine Ld1.h H ?_ | refine Ld1.rF ?_ | refine Ld1.r ?_) | ((with_reducible show Ld ..); first | refine Ld.h H ?_ | refine Ld.r ?_) | ((with_reducible show Ix ..); first | refine Ix.h ?_ | refine Ix.ha ?_) | (refine St.h H ?_; clear H; intro _ H))
  refine Lp.g0 T.ok (σ := Nat) (fun i => [(9, .int .i64 (i : Int)), (5, .pointer (some ⟨p5, 0, none⟩)), (7, .pointer (some ⟨p7, 0, none⟩)), (3, .pointer (some ⟨p3, 0, none⟩))])
    (fun i w' => i ≤ m2.length ∧ Hp nw w w' [qu FM.enc 3 34 A2 c2 (List.replicate i zF ++ m2.drop i), fns (m2.drop i), bk p5 24 [.slice A2 m2.length c2], bk p7 24 [.slice A3 m3.length c3], qu FM.enc 3 34 A3 c3 m3, fns m3, bk p3 24 [.slice A1 m1.length c1], qu FM.enc 3 34 A1 c1 m1, fns m1]) (fun i _ => m2.length - i) 0 rfl ⟨rfl, rfl, rfl, rfl, trivial⟩ ⟨Nat.zero_le _, H⟩ ?_
  clear H
  rintro i w5 ⟨hi, H⟩
  have hlenl : (List.replicate i zF ++ m2.drop i).length = m2.length := by rw [List.length_append, List.length_replicate, List.length_drop]; omega
  by_cases hlt : i < m2.length
  case neg =>
    repeat' ((conv => whnf); first | (((with_reducible show Gd ..); first | (with_reducible first | refine Gd.t ?_ | refine Gd.f ?_ | (first | apply Gd.dec | apply Gd.beq | apply Gd.bne) <;> intro _ | refine Gd.not ?_) | refine Gd.t ?_ | refine Gd.f ?_ | apply Gd.var <;> intro _) <;> try (exfalso; omega)) | with_reducible refine Sq.mk ?_ | ((with_reducible show Ld1 ..); first | refine Ld1.h H ?_ | refine Ld1.rF ?_ | refine Ld1.r ?_) | ((with_reducible show Ld ..); first | refine Ld.h H ?_ | refine Ld.r ?_) | ((with_reducible show Ix ..); first | refine Ix.h ?_ | refine Ix.ha ?_) | (refine St.h H ?_; clear H; intro _ H))
    all_goals first | (exfalso; omega) | skip
    (((conv => whnf); refine Cl.mk (same_c m3 m1 A3 A1 c3 c1 _ (H.rdq 4 rfl) (H.atC (c := fns m3) 5 rfl).1 (H.rdq 7 rfl) (H.atC (c := fns m1) 8 rfl).1 l3) ?_); rintro _ _ ⟨rfl, hx⟩; replace H := H.ext hx; clear hx)
    rw [hs31]
    repeat' ((conv => whnf); first | (((with_reducible show Gd ..); first | (with_reducible first | refine Gd.t ?_ | refine Gd.f ?_ | (first | apply Gd.dec | apply Gd.beq | apply Gd.bne) <;> intro _ | refine Gd.not ?_) | refine Gd.t ?_ | refine Gd.f ?_ | apply Gd.var <;> intro _) <;> try (exfalso; omega)) | with_reducible refine Sq.mk ?_ | ((with_reducible show Ld1 ..); first | refine Ld1.h H ?_ | refine Ld1.rF ?_ | refine Ld1.r ?_) | ((with_reducible show Ld ..); first | refine Ld.h H ?_ | refine Ld.r ?_) | ((with_reducible show Ix ..); first | refine Ix.h ?_ | refine Ix.ha ?_) | (refine St.h H ?_; clear H; intro _ H))
    exact ⟨rfl, H.e⟩
  obtain ⟨u, r, hur⟩ : ∃ u r, m2.drop i = u :: r := ⟨_, _, List.drop_eq_getElem_cons hlt⟩
  have hu : (List.replicate i zF ++ m2.drop i)[i]? = some u := by rw [hur, List.getElem?_append_right (by simp), List.length_replicate, Nat.sub_self]; rfl
  have hul : m2[i]? = some u := by rw [← List.head?_drop, hur]; rfl
  have hset := set_app (z := zF) hur
  have hdr : r = m2.drop (i + 1) := by rw [← List.drop_drop, hur]; rfl
  rw [hur] at H
  obtain ⟨nm, P, cp, ps, B, cb, b⟩ := u
  have hpl : ps.length ≤ 2000000 := (H.atC (c := fns (⟨nm, P, cp, ps, B, cb, b⟩ :: r)) 1 rfl).1.1.2.2.2.1
  replace H := Hp.fnsU (Hp.fnsC (Hp.swap H))
  have hilt : i < (List.replicate i zF ++ (⟨nm, P, cp, ps, B, cb, b⟩ : FM) :: r).length := by rw [← hur, hlenl]; exact hlt
  rw [hur] at hu hlenl hset
  rw [← hlenl] at H
  repeat' ((conv => whnf); first | (((with_reducible show Gd ..); first | (with_reducible first | refine Gd.t ?_ | refine Gd.f ?_ | (first | apply Gd.dec | apply Gd.beq | apply Gd.bne) <;> intro _ | refine Gd.not ?_) | refine Gd.t ?_ | refine Gd.f ?_ | apply Gd.var <;> intro _) <;> try (exfalso; omega)) | with_reducible refine Sq.mk ?_ | ((with_reducible show Ld1 ..); first | refine Ld1.h H ?_ | refine Ld1.rF ?_ | refine Ld1.r ?_) | ((with_reducible show Ld ..); first | refine Ld.h H ?_ | refine Ld.r ?_) | ((with_reducible show Ix ..); first | refine Ix.h ?_ | refine Ix.ha ?_) | (refine St.h H ?_; clear H; intro _ H))
  all_goals first | (exfalso; omega) | skip
  generalize hL : List.replicate i zF ++ (⟨nm, P, cp, ps, B, cb, b⟩ : FM) :: r = L at hu hlenl hset H hilt
  repeat' ((conv => whnf); first | (((with_reducible show Gd ..); first | (with_reducible first | refine Gd.t ?_ | refine Gd.f ?_ | (first | apply Gd.dec | apply Gd.beq | apply Gd.bne) <;> intro _ | refine Gd.not ?_) | refine Gd.t ?_ | refine Gd.f ?_ | apply Gd.var <;> intro _) <;> try (exfalso; omega)) | with_reducible refine Sq.mk ?_ | ((with_reducible show Ld1 ..); first | refine Ld1.h H ?_ | refine Ld1.rF ?_ | refine Ld1.r ?_) | ((with_reducible show Ld ..); first | refine Ld.h H ?_ | refine Ld.r ?_) | ((with_reducible show Ix ..); first | refine Ix.h ?_ | refine Ix.ha ?_) | (refine St.h H ?_; clear H; intro _ H))
  refine Lp.g0 T.ok (σ := Nat) (fun j => [(10, .int .i64 (j : Int)), (9, .int .i64 (i : Int)), (5, .pointer (some ⟨p5, 0, none⟩)), (7, .pointer (some ⟨p7, 0, none⟩)), (3, .pointer (some ⟨p3, 0, none⟩))])
    (fun j w' => j ≤ ps.length ∧ Hp nw w w' [qu strE 1 9 P cp (List.replicate j chgB ++ ps.drop j), stl B cb b, fns r, qu FM.enc 3 34 A2 c2 L, bk p5 24 [.slice A2 L.length c2], bk p7 24 [.slice A3 m3.length c3], qu FM.enc 3 34 A3 c3 m3, fns m3, bk p3 24 [.slice A1 m1.length c1], qu FM.enc 3 34 A1 c1 m1, fns m1]) (fun j _ => ps.length - j) 0 rfl ⟨rfl, rfl, rfl, rfl, rfl, trivial⟩ ⟨Nat.zero_le _, H⟩ ?_
  clear H
  rintro j w6 ⟨hj, H⟩
  have hrF := H.rdq 3 rfl
  have hlenp : (List.replicate j chgB ++ ps.drop j).length = ps.length := by rw [List.length_append, List.length_replicate, List.length_drop]; omega
  by_cases hjl : j < ps.length
  · obtain ⟨x, rp, hxr⟩ : ∃ x rp, ps.drop j = x :: rp := ⟨_, _, List.drop_eq_getElem_cons hjl⟩
    have hsetp := set_app (z := chgB) hxr
    have hjl2 : j < (List.replicate j chgB ++ ps.drop j).length := by rw [hlenp]; exact hjl
    have hrS := H.rdq 0 rfl
    repeat' ((conv => whnf); first | (((with_reducible show Gd ..); first | (with_reducible first | refine Gd.t ?_ | refine Gd.f ?_ | (first | apply Gd.dec | apply Gd.beq | apply Gd.bne) <;> intro _ | refine Gd.not ?_) | refine Gd.t ?_ | refine Gd.f ?_ | apply Gd.var <;> intro _) <;> try (exfalso; omega)) | with_reducible refine Sq.mk ?_ | ((with_reducible show Ld1 ..); first | refine Ld1.h H ?_ | refine Ld1.rF ?_ | refine Ld1.r ?_) | ((with_reducible show Ld ..); first | refine Ld.h H ?_ | refine Ld.r ?_) | ((with_reducible show Ix ..); first | refine Ix.h ?_ | refine Ix.ha ?_) | (refine St.h H ?_; clear H; intro _ H))
    all_goals first | (exfalso; rename_i hx_; first | (have hx2_ : ¬ (j : Int) < (ps.length : Int) := hx_; omega) | (have hx2_ : (j : Int) < (ps.length : Int) := hx_; omega)) | skip
    (conv => whnf)
    refine St.elq (enc := strE) (x := chgB) (l := List.replicate j chgB ++ ps.drop j) H rfl hjl2 rfl (fun w7 H => ?_)
    rw [hsetp] at H
    repeat' ((conv => whnf); first | (((with_reducible show Gd ..); first | (with_reducible first | refine Gd.t ?_ | refine Gd.f ?_ | (first | apply Gd.dec | apply Gd.beq | apply Gd.bne) <;> intro _ | refine Gd.not ?_) | refine Gd.t ?_ | refine Gd.f ?_ | apply Gd.var <;> intro _) <;> try (exfalso; omega)) | with_reducible refine Sq.mk ?_ | ((with_reducible show Ld1 ..); first | refine Ld1.h H ?_ | refine Ld1.rF ?_ | refine Ld1.r ?_) | ((with_reducible show Ld ..); first | refine Ld.h H ?_ | refine Ld.r ?_) | ((with_reducible show Ix ..); first | refine Ix.h ?_ | refine Ix.ha ?_) | (refine St.h H ?_; clear H; intro _ H))
    exact ⟨j + 1, ⟨at_int (m := ((j + 1 : Nat) : Int)) rfl (w64 (by simp) (by omega) (by omega)), rfl, rfl, rfl, rfl, trivial⟩, rfl, ⟨by omega, H⟩, by omega⟩
  · repeat' ((conv => whnf); first | (((with_reducible show Gd ..); first | (with_reducible first | refine Gd.t ?_ | refine Gd.f ?_ | (first | apply Gd.dec | apply Gd.beq | apply Gd.bne) <;> intro _ | refine Gd.not ?_) | refine Gd.t ?_ | refine Gd.f ?_ | apply Gd.var <;> intro _) <;> try (exfalso; omega)) | with_reducible refine Sq.mk ?_ | ((with_reducible show Ld1 ..); first | refine Ld1.h H ?_ | refine Ld1.rF ?_ | refine Ld1.r ?_) | ((with_reducible show Ld ..); first | refine Ld.h H ?_ | refine Ld.r ?_) | ((with_reducible show Ix ..); first | refine Ix.h ?_ | refine Ix.ha ?_) | (refine St.h H ?_; clear H; intro _ H))
    all_goals first | (exfalso; rename_i hx_; first | (have hx2_ : ¬ (j : Int) < (ps.length : Int) := hx_; omega) | (have hx2_ : (j : Int) < (ps.length : Int) := hx_; omega)) | skip
    ((conv => whnf); refine Cl.mk (spoil_c _ B cb b _ (Nat.lt_succ_self _) (H.ok _ (by simp))) ?_)
    rintro _ w7 H'
    replace H := H.sel [1, 1, 1, 1, 1, 1, 1, 1, 1, 1] rfl
    replace H := Hp.frame (Γ1 := [stl B cb b]) H (fun c hc => by rw [List.mem_singleton.1 hc]) (fun k hk => ⟨_, List.mem_singleton.2 rfl, hk⟩) H' (fun c hc => by simp at hc)
    clear H' hrF
    simp only [List.nil_append] at H
    have hrF := H.rdq 1 rfl
    repeat' ((conv => whnf); first | (((with_reducible show Gd ..); first | (with_reducible first | refine Gd.t ?_ | refine Gd.f ?_ | (first | apply Gd.dec | apply Gd.beq | apply Gd.bne) <;> intro _ | refine Gd.not ?_) | refine Gd.t ?_ | refine Gd.f ?_ | apply Gd.var <;> intro _) <;> try (exfalso; omega)) | with_reducible refine Sq.mk ?_ | ((with_reducible show Ld1 ..); first | refine Ld1.h H ?_ | refine Ld1.rF ?_ | refine Ld1.r ?_) | ((with_reducible show Ld ..); first | refine Ld.h H ?_ | refine Ld.r ?_) | ((with_reducible show Ix ..); first | refine Ix.h ?_ | refine Ix.ha ?_) | (refine St.h H ?_; clear H; intro _ H))
    (conv => whnf)
    refine St.elq (enc := FM.enc) (x := zF) (l := L) H rfl hilt rfl (fun w8 H => ?_)
    rw [hset] at H
    repeat' ((conv => whnf); first | (((with_reducible show Gd ..); first | (with_reducible first | refine Gd.t ?_ | refine Gd.f ?_ | (first | apply Gd.dec | apply Gd.beq | apply Gd.bne) <;> intro _ | refine Gd.not ?_) | refine Gd.t ?_ | refine Gd.f ?_ | apply Gd.var <;> intro _) <;> try (exfalso; omega)) | with_reducible refine Sq.mk ?_ | ((with_reducible show Ld1 ..); first | refine Ld1.h H ?_ | refine Ld1.rF ?_ | refine Ld1.r ?_) | ((with_reducible show Ld ..); first | refine Ld.h H ?_ | refine Ld.r ?_) | ((with_reducible show Ix ..); first | refine Ix.h ?_ | refine Ix.ha ?_) | (refine St.h H ?_; clear H; intro _ H))
    rw [hdr, hlenl] at H
    exact ⟨i + 1, ⟨at_int (m := ((i + 1 : Nat) : Int)) rfl (w64 (by simp) (by omega) (by omega)), rfl, rfl, rfl, trivial⟩, rfl, ⟨by omega, Hp.swap H⟩, by omega⟩
end Go.Proofs.YtfnjodpehomgfaaGreatDoor
namespace Go.Proofs.YtfnjodpehomgfaaGreatDoor
open Go Go.Shelf
def itoa_ren : Go.Shelf.Ren := ⟨fun | 173 => 138 | 246 => 148 | 283 => 151 | 284 => 152 | 285 => 153 | 286 => 154 | 129 => 157 | 317 => 156 | 318 => 158 | 319 => 159 | 320 => 160 | 337 => 161 | 338 => 162 | n => n, fun | 2 => 2 | 3 => 3 | 9 => 9 | 4 => 4 | 171 => 191 | 0 => 0 | 53 => 170 | 37 => 88 | 5 => 5 | 173 => 194 | 212 => 198 | 51 => 167 | 20 => 20 | 213 => 199 | 46 => 154 | 232 => 202 | 233 => 203 | n => n, fun | 17 => 7 | 18 => 8 | 19 => 9 | n => n⟩
theorem itoa_lays : Go.Proofs.LaysM.n173 Tryz.prog itoa_ren := {
  mixed := by kernel_rfl,
  f129 := Tryz.func157.trans (congrArg some (by kernel_rfl)),
  f173 := Tryz.func138.trans (congrArg some (by kernel_rfl)),
  f246 := Tryz.func148.trans (congrArg some (by kernel_rfl)),
  f283 := Tryz.func151.trans (congrArg some (by kernel_rfl)),
  f284 := Tryz.func152.trans (congrArg some (by kernel_rfl)),
  f285 := Tryz.func153.trans (congrArg some (by kernel_rfl)),
  f286 := Tryz.func154.trans (congrArg some (by kernel_rfl)),
  f317 := Tryz.func156.trans (congrArg some (by kernel_rfl)),
  f318 := Tryz.func158.trans (congrArg some (by kernel_rfl)),
  f319 := Tryz.func159.trans (congrArg some (by kernel_rfl)),
  f320 := Tryz.func160.trans (congrArg some (by kernel_rfl)),
  f337 := Tryz.func161.trans (congrArg some (by kernel_rfl)),
  f338 := Tryz.func162.trans (congrArg some (by kernel_rfl)),
  t0 := Tryz.underlying0,
  a0 := Tryz.isAgg0,
  z0 := Tryz.sizeOf0,
  v0 := Tryz.zeroValue0,
  t2 := Tryz.underlying2,
  a2 := Tryz.isAgg2,
  z2 := Tryz.sizeOf2,
  v2 := Tryz.zeroValue2,
  t3 := Tryz.underlying3,
  a3 := Tryz.isAgg3,
  z3 := Tryz.sizeOf3,
  v3 := Tryz.zeroValue3,
  t4 := Tryz.underlying4,
  a4 := Tryz.isAgg4,
  z4 := Tryz.sizeOf4,
  v4 := Tryz.zeroValue4,
  t5 := Tryz.underlying5,
  a5 := Tryz.isAgg5,
  z5 := Tryz.sizeOf5,
  v5 := Tryz.zeroValue5,
  t9 := Tryz.underlying9,
  a9 := Tryz.isAgg9,
  z9 := Tryz.sizeOf9,
  v9 := Tryz.zeroValue9,
  t20 := Tryz.underlying20,
  a20 := Tryz.isAgg20,
  z20 := Tryz.sizeOf20,
  v20 := Tryz.zeroValue20,
  t37 := Tryz.underlying88,
  a37 := Tryz.isAgg88,
  z37 := Tryz.sizeOf88,
  v37 := Tryz.zeroValue88,
  t46 := Tryz.underlying154,
  a46 := Tryz.isAgg154,
  z46 := Tryz.sizeOf154,
  v46 := Tryz.zeroValue154,
  t51 := Tryz.underlying167,
  a51 := Tryz.isAgg167,
  z51 := Tryz.sizeOf167,
  v51 := Tryz.zeroValue167,
  t53 := Tryz.underlying170,
  a53 := Tryz.isAgg170,
  z53 := Tryz.sizeOf170,
  v53 := Tryz.zeroValue170,
  t171 := Tryz.underlying191,
  a171 := Tryz.isAgg191,
  z171 := Tryz.sizeOf191,
  v171 := Tryz.zeroValue191,
  t173 := Tryz.underlying194,
  a173 := Tryz.isAgg194,
  z173 := Tryz.sizeOf194,
  v173 := Tryz.zeroValue194,
  t212 := Tryz.underlying198,
  a212 := Tryz.isAgg198,
  z212 := Tryz.sizeOf198,
  v212 := Tryz.zeroValue198,
  t213 := Tryz.underlying199,
  a213 := Tryz.isAgg199,
  z213 := Tryz.sizeOf199,
  t232 := Tryz.underlying202,
  a232 := Tryz.isAgg202,
  z232 := Tryz.sizeOf202,
  v232 := Tryz.zeroValue202,
  t233 := Tryz.underlying203,
  a233 := Tryz.isAgg203,
  z233 := Tryz.sizeOf203,
  v233 := Tryz.zeroValue203,
  g17 := by kernel_rfl,
  g18 := by kernel_rfl,
  g19 := by kernel_rfl,
  i0 := by kernel_rfl,
  i2 := by kernel_rfl,
  i3 := by kernel_rfl,
  i4 := by kernel_rfl,
  i5 := by kernel_rfl,
  i9 := by kernel_rfl,
  i20 := by kernel_rfl,
  i37 := by kernel_rfl,
  i46 := by kernel_rfl,
  i51 := by kernel_rfl,
  i53 := by kernel_rfl,
  i171 := by kernel_rfl,
  i173 := by kernel_rfl,
  i212 := by kernel_rfl,
  i232 := by kernel_rfl,
  i233 := by kernel_rfl,
  m17 := by kernel_rfl,
  m18 := by kernel_rfl,
  m19 := by kernel_rfl }
end Go.Proofs.YtfnjodpehomgfaaGreatDoor
