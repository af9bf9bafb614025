/- own work: TyN, TyP, TyQ, TyV, TyW, TyS, TxD, TyT, ShQ, TyU, TxE, ShTr, TxF, TyY, PtA -/
import Derived.WalkKit
import Derived.LaidEql
import Derived.Stop.Asserts
import Derived.RowKitTokens
import Derived.Shelf.Strconv.Itoa4
import Derived.Lib.ItoaNum
import Derived.ReadAgain
import Derived.ChangeArms
import Derived.ChangeSame
import Derived.ChangeShapes
import Derived.Lib.LaidTab
import Derived.Test.YtfnjodpehomgfaaDoorRows
import Derived.OpenShut
import Derived.LaidLaws
import Derived.Test.YtfnjodpehomgfaaDoorCards
import Derived.Test.YtfnjodpehomgfaaDoorTie
import Derived.DataShut
import Derived.ProofKit
import Derived.LaidHandle
import Derived.Stop.LaidErr
import Derived.Deep.DeepHandedRow
import Derived.Deep.DeepWitnessRowRef
import Derived.Test.YtfnjodpehomgfaaDoorMT4
namespace Go.Proofs.YtfnjodpehomgfaaDoor
open Go Go.Sh Go.Tx
set_option linter.unusedVariables false
set_option linter.unusedSimpArgs false
set_option linter.unusedSectionVars false
attribute [local irreducible] Blk Ext RdS
/-- a function in memory -/
structure FM where
  name : Bs
  P : Option Addr
  cp : Nat
  params : List Bs
  B : Option Addr
  cb : Nat
  body : List SM
def FM.e (f : FM) : Fnc := ⟨f.name, f.params, SM.es f.body⟩
def FM.enc (f : FM) : List Value := [.string (bs f.name), .slice f.P f.params.length f.cp, .slice f.B f.body.length f.cb]
def FM.v (f : FM) : Value := .agg f.enc.toArray
def FM.fp (f : FM) (k : Nat) : Prop := obk f.P = some k ∨ obk f.B = some k ∨ SM.fps f.body k
def FM.Ok (w : World) (f : FM) : Prop := Que strE 1 9 w 0 f.P f.cp f.params ∧ Que SM.enc 10 49 w 0 f.B f.cb f.body ∧ SM.Oks w f.body ∧ f.params.length ≤ 2000000 ∧ f.body.length ≤ 2000000
def FM.Sep (f : FM) : Prop := SM.Seps f.body ∧ (∀ k, ¬ (obk f.P = some k ∧ (obk f.B = some k ∨ SM.fps f.body k))) ∧ ∀ k, ¬ (obk f.B = some k ∧ SM.fps f.body k)
def FM.fps : List FM → Nat → Prop
  | [], _ => False
  | x :: r, k => FM.fp x k ∨ FM.fps r k
def FM.Oks (w : World) : List FM → Prop
  | [] => True
  | x :: r => FM.Ok w x ∧ FM.Oks w r
def FM.Seps : List FM → Prop
  | [] => True
  | x :: r => FM.Sep x ∧ FM.Seps r ∧ ∀ b, ¬ (FM.fp x b ∧ FM.fps r b)
theorem FM.fps_app (b : Nat) : ∀ l m : List FM, FM.fps (l ++ m) b ↔ FM.fps l b ∨ FM.fps m b
  | [], m => by simp [FM.fps]
  | x :: r, m => by simp [FM.fps, FM.fps_app b r m, or_assoc]
theorem FM.oks_app (w : World) : ∀ l m : List FM, FM.Oks w (l ++ m) ↔ FM.Oks w l ∧ FM.Oks w m
  | [], m => by simp [FM.Oks]
  | x :: r, m => by simp [FM.Oks, FM.oks_app w r m, and_assoc]
theorem FM.seps_app : ∀ l m : List FM, FM.Seps l → FM.Seps m → (∀ b, ¬ (FM.fps l b ∧ FM.fps m b)) → FM.Seps (l ++ m)
  | [], m, _, h, _ => h
  | x :: r, m, hl, hm, hd => by
    obtain ⟨h1, h2, h3⟩ := hl
    refine ⟨h1, FM.seps_app r m h2 hm fun b hb => hd b ⟨.inr hb.1, hb.2⟩, fun b hb => ?_⟩
    rcases (FM.fps_app b r m).1 hb.2 with h | h
    · exact h3 b ⟨hb.1, h⟩
    · exact hd b ⟨.inl hb.1, h⟩
theorem FM.Ok.lt {w : World} {f : FM} (h : FM.Ok w f) (k : Nat) (hk : FM.fp f k) : k < w.heap.size := by
  rcases hk with hk | hk | hk
  · exact (qu_ok h.1).lt k hk
  · exact (qu_ok h.2.1).lt k hk
  · exact SM.Oks.lt h.2.2.1 k hk
theorem FM.Oks.lt {w : World} : ∀ {l : List FM}, FM.Oks w l → ∀ b, FM.fps l b → b < w.heap.size
  | [], _, b, hb => hb.elim
  | x :: r, h, b, hb => by
    rcases hb with hb | hb
    · exact FM.Ok.lt h.1 b hb
    · exact FM.Oks.lt h.2 b hb
theorem FM.Ok.loc {w w' : World} (hs : w.heap.size ≤ w'.heap.size) {f : FM} (h : FM.Ok w f) (hb : ∀ b, FM.fp f b → w'.heap[b]? = w.heap[b]?) : FM.Ok w' f :=
  ⟨(qu_ok h.1).loc w' hs fun k hk => hb k (.inl hk), (qu_ok h.2.1).loc w' hs fun k hk => hb k (.inr (.inl hk)), SM.Oks.loc hs h.2.2.1 fun k hk => hb k (.inr (.inr hk)), h.2.2.2⟩
theorem FM.Oks.loc {w w' : World} (hs : w.heap.size ≤ w'.heap.size) : ∀ {l : List FM}, FM.Oks w l → (∀ b, FM.fps l b → w'.heap[b]? = w.heap[b]?) → FM.Oks w' l
  | [], _, _ => trivial
  | x :: r, h, hb => ⟨FM.Ok.loc hs h.1 fun b hk => hb b (.inl hk), FM.Oks.loc hs h.2 fun b hk => hb b (.inr hk)⟩
/-- functions, as one piece -/
abbrev fns (l : List FM) : Ck := ⟨FM.fps l, fun w => FM.Oks w l ∧ FM.Seps l, true, false⟩
theorem fns_ok {l : List FM} {w : World} (h1 : FM.Oks w l) (h2 : FM.Seps l) : (fns l).Ok w :=
  ⟨⟨h1, h2⟩, FM.Oks.lt h1, fun w' hs hb => ⟨FM.Oks.loc hs h1 hb, h2⟩⟩
section
variable {S : Nat → Prop} {w0 w : World} {Γ : List Ck}
theorem Hp.fns0 (H : Hp S w0 w Γ) : Hp S w0 w (fns [] :: Γ) :=
  H.fr0 (Hp.one (Tch.refl _ _) (fns_ok trivial trivial) (fun k hk => hk.elim)) (.inl rfl)
theorem Hp.fnsS {l : List FM} {t : FM} (H : Hp S w0 w (fns [t] :: fns l :: Γ)) : Hp S w0 w (fns (l ++ [t]) :: Γ) := by
  refine Hp.join2 H rfl rfl (.inl rfl) (fun k hk => ?_) (fun hd h1 h2 => fns_ok ((FM.oks_app w l [t]).2 ⟨h2.holds.1, h1.holds.1⟩) (FM.seps_app _ _ h2.holds.2 h1.holds.2 fun b hb => hd b ⟨hb.2, hb.1⟩))
  rcases (FM.fps_app k l [t]).1 hk with h | h
  · exact .inr h
  · exact .inl h
theorem Hp.fnsN {P B : Option Addr} {cp cb : Nat} {ps : List Bs} {b : List SM} (nm : Bs) (H : Hp S w0 w (qu strE 1 9 P cp ps :: stl B cb b :: Γ)) (hlen : ps.length ≤ 2000000 := by first | (simp; done) | omega | assumption) : Hp S w0 w (fns [⟨nm, P, cp, ps, B, cb, b⟩] :: Γ) := by
  refine Hp.join2 H rfl rfl (.inl rfl) (fun k hk => ?_) (fun hd h1 h2 => fns_ok ⟨⟨h1.holds, h2.holds.1, h2.holds.2.1, hlen, h2.holds.2.2.2.2⟩, trivial⟩ ⟨⟨h2.holds.2.2.1, hd, h2.holds.2.2.2.1⟩, trivial, fun b hb => hb.2.elim⟩)
  rcases hk with (hk | hk | hk) | hk
  · exact .inl hk
  · exact .inr (.inl hk)
  · exact .inr (.inr hk)
  · exact hk.elim
end
theorem con_all {src : Bs} {pr : Nat} {wb : World} (X : Txt src pr wb) : ∀ f, Con src pr wb (pf f)
  | 0 => ⟨fun _ _ _ _ _ _ _ _ h => absurd rfl h, fun _ _ _ _ _ _ h => absurd rfl h, fun _ _ _ _ _ _ h => absurd rfl h, fun _ _ _ _ _ _ h => absurd rfl h, fun _ _ _ _ _ _ h => absurd rfl h⟩
  | f + 1 => ⟨expr_c X (con_all X f), unary_c X (con_all X f), primary_c X (con_all X f), block_c X (con_all X f), choice_c X (con_all X f)⟩
def OkF (src : Bs) (pr : Nat) (R : Res Fnc) (w : World) (v : Value) (w' : World) : Prop := ∃ f ts', R = .ok (FM.e f) ts' ∧ v = f.v ∧ Hp (· = pr) w w' [fns [f], rdr src pr ts']
theorem fm_v {v : Value} {nm : Bs} {P B : Option Addr} {cp cb : Nat} {ps : List Bs} {b : List SM} (h : v = .agg #[.string (bs nm), .slice P ps.length cp, .slice B b.length cb]) : v = FM.v ⟨nm, P, cp, ps, B, cb, b⟩ := h
section
variable {src : Bs} {pr : Nat} {wb : World} {F : PF} (X : Txt src pr wb) (C : Con src pr wb F)
include X C
set_option maxHeartbeats 4000000 in
theorem function_c (ts : List Tk) (w : World) (hwb : Ext wb w) (h : Rdr src pr ts w) (hne : functionP F ts ≠ .out) :
    Cl Tryd.prog 18 #[.pointer (some ⟨pr, 0, none⟩)] w (OkF src pr (functionP F ts) w) (PanX (functionP F ts) pr w) := by
  have HB := X.ok hwb
  have hsl := X.len
  obtain ⟨R, hR⟩ : ∃ R, R = functionP F ts := ⟨_, rfl⟩
  rw [← hR] at hne ⊢
  unfold functionP at hR
  refine calls_ex (args := [.pointer (some ⟨pr, 0, none⟩)]) T.ok Tryd.func18 rfl rfl rfl rfl ?_
  have H := Hp.start (S := (· = pr)) (rdr_ok h) (fun k hk => hk)
  clear h
  refine Sq.mk ?_
  ((conv => whnf); refine Al.hp H ?_; clear H; intro p2 _ H _)
  repeat' ((conv => whnf); first | ((with_reducible show Gd (bs _ == _) _ _); first | refine Gd.sY (by assumption) ?_ | refine Gd.sk (by assumption) ?_ | refine Gd.sN (by assumption) ?_) | ((conv => whnf); first | (((with_reducible show Gd _ _ _); first | with_reducible refine Gd.t ?_ | with_reducible refine Gd.f ?_ | with_reducible refine Gd.dec (fun _ => ?_) (fun _ => ?_) | with_reducible refine Gd.beq (fun _ => ?_) (fun _ => ?_) | with_reducible refine Gd.bne (fun _ => ?_) (fun _ => ?_) | with_reducible refine Gd.not ?_ | refine Gd.t ?_ | refine Gd.f ?_ | with_reducible refine Gd.var (fun _ => ?_) (fun _ => ?_)) <;> first | (exfalso; omega) | skip) | with_reducible refine Sq.mk ?_ | ((with_reducible show Ld1 _ _ _); first | refine Ld1.h H ?_ | refine Ld1.rF ?_ | refine Ld1.r ?_) | ((with_reducible show Ld _ _ _ _); first | refine Ld.h H ?_ | refine Ld.r ?_) | ((with_reducible show Ix _ _ _ _ _); (first | refine Ix.h ?_ | refine Ix.ha ?_)) | (refine Al.hp H ?_; clear H; intro _ _ H _) | (refine St.h H ?_; clear H; intro _ H)) | refine Sm.strix T.ok ?_)
  (((conv => whnf); refine Cl.mkX (take_c k_fn src pr (ts) wb _ (H.base2 HB) X.lo X.tb X.len (H.atC 1 rfl) (by decide)) ?_ ?_; rotate_left; (rintro ch w9 ⟨e9, p9, q9, h9, rfl, H'⟩; exact ⟨e9, p9, q9, (by rw [hR, h9]; rfl), rfl, Hp.pan H H' (.inl rfl)⟩)); rintro _ w8 ⟨t1, ts1, h1, rfl, H'⟩; replace H := H.upd (c := rdr src pr (ts)) H' rfl (.inl rfl); clear H'; rw [h1, Res.bind_ok] at hR; clear h1)
  repeat' ((conv => whnf); first | ((with_reducible show Gd (bs _ == _) _ _); first | refine Gd.sY (by assumption) ?_ | refine Gd.sk (by assumption) ?_ | refine Gd.sN (by assumption) ?_) | ((conv => whnf); first | (((with_reducible show Gd _ _ _); first | with_reducible refine Gd.t ?_ | with_reducible refine Gd.f ?_ | with_reducible refine Gd.dec (fun _ => ?_) (fun _ => ?_) | with_reducible refine Gd.beq (fun _ => ?_) (fun _ => ?_) | with_reducible refine Gd.bne (fun _ => ?_) (fun _ => ?_) | with_reducible refine Gd.not ?_ | refine Gd.t ?_ | refine Gd.f ?_ | with_reducible refine Gd.var (fun _ => ?_) (fun _ => ?_)) <;> first | (exfalso; omega) | skip) | with_reducible refine Sq.mk ?_ | ((with_reducible show Ld1 _ _ _); first | refine Ld1.h H ?_ | refine Ld1.rF ?_ | refine Ld1.r ?_) | ((with_reducible show Ld _ _ _ _); first | refine Ld.h H ?_ | refine Ld.r ?_) | ((with_reducible show Ix _ _ _ _ _); (first | refine Ix.h ?_ | refine Ix.ha ?_)) | (refine Al.hp H ?_; clear H; intro _ _ H _) | (refine St.h H ?_; clear H; intro _ H)) | refine Sm.strix T.ok ?_)
  (((conv => whnf); refine Cl.mkX (take_c k_name src pr (ts1) wb _ (H.base2 HB) X.lo X.tb X.len (H.atC 1 rfl) (by decide)) ?_ ?_; rotate_left; (rintro ch w9 ⟨e9, p9, q9, h9, rfl, H'⟩; exact ⟨e9, p9, q9, (by rw [hR, h9]; rfl), rfl, Hp.pan H H' (.inl rfl)⟩)); rintro _ w8 ⟨t2, ts2, h1, rfl, H'⟩; replace H := H.upd (c := rdr src pr (ts1)) H' rfl (.inl rfl); clear H'; rw [h1, Res.bind_ok] at hR; clear h1)
  repeat' ((conv => whnf); first | ((with_reducible show Gd (bs _ == _) _ _); first | refine Gd.sY (by assumption) ?_ | refine Gd.sk (by assumption) ?_ | refine Gd.sN (by assumption) ?_) | ((conv => whnf); first | (((with_reducible show Gd _ _ _); first | with_reducible refine Gd.t ?_ | with_reducible refine Gd.f ?_ | with_reducible refine Gd.dec (fun _ => ?_) (fun _ => ?_) | with_reducible refine Gd.beq (fun _ => ?_) (fun _ => ?_) | with_reducible refine Gd.bne (fun _ => ?_) (fun _ => ?_) | with_reducible refine Gd.not ?_ | refine Gd.t ?_ | refine Gd.f ?_ | with_reducible refine Gd.var (fun _ => ?_) (fun _ => ?_)) <;> first | (exfalso; omega) | skip) | with_reducible refine Sq.mk ?_ | ((with_reducible show Ld1 _ _ _); first | refine Ld1.h H ?_ | refine Ld1.rF ?_ | refine Ld1.r ?_) | ((with_reducible show Ld _ _ _ _); first | refine Ld.h H ?_ | refine Ld.r ?_) | ((with_reducible show Ix _ _ _ _ _); (first | refine Ix.h ?_ | refine Ix.ha ?_)) | (refine St.h H ?_; clear H; intro _ H)) | refine Sm.strix T.ok ?_)
  ((conv => whnf); refine Al.hp H ?_; clear H; intro p3 _ H _)
  repeat' ((conv => whnf); first | ((with_reducible show Gd (bs _ == _) _ _); first | refine Gd.sY (by assumption) ?_ | refine Gd.sk (by assumption) ?_ | refine Gd.sN (by assumption) ?_) | ((conv => whnf); first | (((with_reducible show Gd _ _ _); first | with_reducible refine Gd.t ?_ | with_reducible refine Gd.f ?_ | with_reducible refine Gd.dec (fun _ => ?_) (fun _ => ?_) | with_reducible refine Gd.beq (fun _ => ?_) (fun _ => ?_) | with_reducible refine Gd.bne (fun _ => ?_) (fun _ => ?_) | with_reducible refine Gd.not ?_ | refine Gd.t ?_ | refine Gd.f ?_ | with_reducible refine Gd.var (fun _ => ?_) (fun _ => ?_)) <;> first | (exfalso; omega) | skip) | with_reducible refine Sq.mk ?_ | ((with_reducible show Ld1 _ _ _); first | refine Ld1.h H ?_ | refine Ld1.rF ?_ | refine Ld1.r ?_) | ((with_reducible show Ld _ _ _ _); first | refine Ld.h H ?_ | refine Ld.r ?_) | ((with_reducible show Ix _ _ _ _ _); (first | refine Ix.h ?_ | refine Ix.ha ?_)) | (refine Al.hp H ?_; clear H; intro _ _ H _) | (refine St.h H ?_; clear H; intro _ H)) | refine Sm.strix T.ok ?_)
  (((conv => whnf); refine Cl.mkX (take_c s_lp src pr (ts2) wb _ (H.base2 HB) X.lo X.tb X.len (H.atC 2 rfl) (by decide)) ?_ ?_; rotate_left; (rintro ch w9 ⟨e9, p9, q9, h9, rfl, H'⟩; exact ⟨e9, p9, q9, (by rw [hR, h9]; rfl), rfl, Hp.pan H H' (.inl rfl)⟩)); rintro _ w8 ⟨t3, ts3, h1, rfl, H'⟩; replace H := H.upd (c := rdr src pr (ts2)) H' rfl (.inl rfl); clear H'; rw [h1, Res.bind_ok] at hR; clear h1)
  have hN : ts3.length ≤ src.length + 2 := (H.atC (c := rdr src pr ts3) 2 rfl).len
  generalize hN0 : ts3.length + 1 = N at hR
  have hNb : N ≤ 1000010 := by omega
  replace H := Hp.nil H strE 1 9
  have hfix : ∀ w', Hp (· = pr) w w' [qu strE 1 9 none 0 [], bk p3 47 [.string (bs t2.text), .slice none 0 0, .slice none 0 0], bk p2 47 T.t47.zero.cells.toList, rdr src pr ts3] → Hp (· = pr) w w' [qu strE 1 9 none 0 [], bk p3 47 [.string (bs t2.text), .slice none 0 0, .slice none 0 0], bk p2 47 T.t47.zero.cells.toList, rdr src pr ts3] := fun _ h => h
  replace H := hfix _ H
  clear hfix
  repeat' ((conv => whnf); first | ((with_reducible show Gd (bs _ == _) _ _); first | refine Gd.sY (by assumption) ?_ | refine Gd.sk (by assumption) ?_ | refine Gd.sN (by assumption) ?_) | ((conv => whnf); first | (((with_reducible show Gd _ _ _); first | with_reducible refine Gd.t ?_ | with_reducible refine Gd.f ?_ | with_reducible refine Gd.dec (fun _ => ?_) (fun _ => ?_) | with_reducible refine Gd.beq (fun _ => ?_) (fun _ => ?_) | with_reducible refine Gd.bne (fun _ => ?_) (fun _ => ?_) | with_reducible refine Gd.not ?_ | refine Gd.t ?_ | refine Gd.f ?_ | with_reducible refine Gd.var (fun _ => ?_) (fun _ => ?_)) <;> first | (exfalso; omega) | skip) | with_reducible refine Sq.mk ?_ | ((with_reducible show Ld1 _ _ _); first | refine Ld1.h H ?_ | refine Ld1.rF ?_ | refine Ld1.r ?_) | ((with_reducible show Ld _ _ _ _); first | refine Ld.h H ?_ | refine Ld.r ?_) | ((with_reducible show Ix _ _ _ _ _); (first | refine Ix.h ?_ | refine Ix.ha ?_)) | (refine Al.hp H ?_; clear H; intro _ _ H _) | (refine St.h H ?_; clear H; intro _ H)) | refine Sm.strix T.ok ?_)
  refine Lp.g0 T.ok (σ := Nat × Option Addr × Nat × List Bs × List Tk) (fun q => [(3, .pointer (some ⟨p3, 0, none⟩)), (2, .pointer (some ⟨p2, 0, none⟩)), (0, .pointer (some ⟨pr, 0, none⟩))])
    (fun q w' => R = (loopN q.1 q.2.2.2.1 q.2.2.2.2).bind (fun ps ts4 => (takeP s_rp ts4).bind fun _ ts5 => (F.block 1 ts5).bind fun b ts6 => .ok ⟨t2.text, ps, b⟩ ts6) ∧ q.1 + q.2.2.2.1.length ≤ N ∧ Hp (· = pr) w w' [qu strE 1 9 q.2.1 q.2.2.1 q.2.2.2.1, bk p3 47 [.string (bs t2.text), .slice q.2.1 q.2.2.2.1.length q.2.2.1, .slice none 0 0], bk p2 47 T.t47.zero.cells.toList, rdr src pr q.2.2.2.2]) (fun q _ => q.1) (N, none, 0, [], ts3) rfl ⟨rfl, rfl, rfl, trivial⟩ ⟨hR, Nat.le_refl _, H⟩ ?_
  clear H hR hN0 hN
  rintro ⟨f, A, c, l, ts⟩ w5 ⟨hR, hN, H⟩
  simp only at hR hN H ⊢
  cases f with
  | zero => exact absurd hR hne
  | succ f =>
  simp only [loopN] at hR
  (obtain ⟨nx, t0, r0, rfl, hnx, hr0, hb0⟩ := H.atC (c := rdr src pr ts) 3 rfl; replace H := Hp.ofR H hb0; clear hb0)
  by_cases hk : t0.kind = s_rp
  · rw [if_pos (show curK (t0 :: r0) = s_rp from hk), Res.bind_ok] at hR
    repeat' ((conv => whnf); first | ((with_reducible show Gd (bs _ == _) _ _); first | refine Gd.sY (by assumption) ?_ | refine Gd.sk (by assumption) ?_ | refine Gd.sN (by assumption) ?_) | ((conv => whnf); first | (((with_reducible show Gd _ _ _); first | with_reducible refine Gd.t ?_ | with_reducible refine Gd.f ?_ | with_reducible refine Gd.dec (fun _ => ?_) (fun _ => ?_) | with_reducible refine Gd.beq (fun _ => ?_) (fun _ => ?_) | with_reducible refine Gd.bne (fun _ => ?_) (fun _ => ?_) | with_reducible refine Gd.not ?_ | refine Gd.t ?_ | refine Gd.f ?_ | with_reducible refine Gd.var (fun _ => ?_) (fun _ => ?_)) <;> first | (exfalso; omega) | skip) | with_reducible refine Sq.mk ?_ | ((with_reducible show Ld1 _ _ _); first | refine Ld1.h H ?_ | refine Ld1.rF ?_ | refine Ld1.r ?_) | ((with_reducible show Ld _ _ _ _); first | refine Ld.h H ?_ | refine Ld.r ?_) | ((with_reducible show Ix _ _ _ _ _); (first | refine Ix.h ?_ | refine Ix.ha ?_)) | (refine Al.hp H ?_; clear H; intro _ _ H _) | (refine St.h H ?_; clear H; intro _ H)) | refine Sm.strix T.ok ?_)
    (replace H := Hp.toR H hnx hr0; clear hnx hr0)
    (((conv => whnf); refine Cl.mkX (take_c s_rp src pr (t0 :: r0) wb _ (H.base2 HB) X.lo X.tb X.len (H.atC 3 rfl) (by decide)) ?_ ?_; rotate_left; (rintro ch w9 ⟨e9, p9, q9, h9, rfl, H'⟩; exact ⟨e9, p9, q9, (by rw [hR, h9]; rfl), rfl, Hp.pan H H' (.inl rfl)⟩)); rintro _ w8 ⟨t5, ts5, h1, rfl, H'⟩; replace H := H.upd (c := rdr src pr (t0 :: r0)) H' rfl (.inl rfl); clear H'; rw [h1, Res.bind_ok] at hR; clear h1)
    repeat' ((conv => whnf); first | ((with_reducible show Gd (bs _ == _) _ _); first | refine Gd.sY (by assumption) ?_ | refine Gd.sk (by assumption) ?_ | refine Gd.sN (by assumption) ?_) | ((conv => whnf); first | (((with_reducible show Gd _ _ _); first | with_reducible refine Gd.t ?_ | with_reducible refine Gd.f ?_ | with_reducible refine Gd.dec (fun _ => ?_) (fun _ => ?_) | with_reducible refine Gd.beq (fun _ => ?_) (fun _ => ?_) | with_reducible refine Gd.bne (fun _ => ?_) (fun _ => ?_) | with_reducible refine Gd.not ?_ | refine Gd.t ?_ | refine Gd.f ?_ | with_reducible refine Gd.var (fun _ => ?_) (fun _ => ?_)) <;> first | (exfalso; omega) | skip) | with_reducible refine Sq.mk ?_ | ((with_reducible show Ld1 _ _ _); first | refine Ld1.h H ?_ | refine Ld1.rF ?_ | refine Ld1.r ?_) | ((with_reducible show Ld _ _ _ _); first | refine Ld.h H ?_ | refine Ld.r ?_) | ((with_reducible show Ix _ _ _ _ _); (first | refine Ix.h ?_ | refine Ix.ha ?_)) | (refine Al.hp H ?_; clear H; intro _ _ H _) | (refine St.h H ?_; clear H; intro _ H)) | refine Sm.strix T.ok ?_)
    ((conv => whnf); refine Cl.mkX (C.block 1 ts5 _ (by omega) (H.base2 HB) (H.atC 3 rfl) (Res.bind_out (by rw [← hR]; exact hne))) ?_ ?_; rotate_left; (rintro ch w9 ⟨e9, p9, q9, h9, rfl, H'⟩; exact ⟨e9, p9, q9, (by rw [hR, h9]; rfl), rfl, Hp.pan H H' (.inl rfl)⟩))
    rintro _ w6 ⟨B, cB, b, ts6, h6, rfl, H'⟩
    replace H := H.updn (c := rdr src pr ts5) (Hp.swap H') rfl (.inl rfl) (.inl rfl)
    clear H'
    rw [h6, Res.bind_ok] at hR
    repeat' ((conv => whnf); first | ((with_reducible show Gd (bs _ == _) _ _); first | refine Gd.sY (by assumption) ?_ | refine Gd.sk (by assumption) ?_ | refine Gd.sN (by assumption) ?_) | ((conv => whnf); first | (((with_reducible show Gd _ _ _); first | with_reducible refine Gd.t ?_ | with_reducible refine Gd.f ?_ | with_reducible refine Gd.dec (fun _ => ?_) (fun _ => ?_) | with_reducible refine Gd.beq (fun _ => ?_) (fun _ => ?_) | with_reducible refine Gd.bne (fun _ => ?_) (fun _ => ?_) | with_reducible refine Gd.not ?_ | refine Gd.t ?_ | refine Gd.f ?_ | with_reducible refine Gd.var (fun _ => ?_) (fun _ => ?_)) <;> first | (exfalso; omega) | skip) | with_reducible refine Sq.mk ?_ | ((with_reducible show Ld1 _ _ _); first | refine Ld1.h H ?_ | refine Ld1.rF ?_ | refine Ld1.r ?_) | ((with_reducible show Ld _ _ _ _); first | refine Ld.h H ?_ | refine Ld.r ?_) | ((with_reducible show Ix _ _ _ _ _); (first | refine Ix.h ?_ | refine Ix.ha ?_)) | (refine Al.hp H ?_; clear H; intro _ _ H _) | (refine St.h H ?_; clear H; intro _ H)) | refine Sm.strix T.ok ?_)
    exact ⟨⟨t2.text, A, c, l, B, cB, b⟩, ts6, hR, fm_v rfl, Hp.fnsN t2.text (H.sel [1, 0, 2] rfl)⟩
  rw [if_neg (show ¬ curK (t0 :: r0) = s_rp from hk)] at hR
  by_cases hl0 : l.length = 0
  · rw [if_neg (by omega), Res.bind_ok, Res.bind_assoc] at hR
    repeat' ((conv => whnf); first | ((with_reducible show Gd (bs _ == _) _ _); first | refine Gd.sY (by assumption) ?_ | refine Gd.sk (by assumption) ?_ | refine Gd.sN (by assumption) ?_) | ((conv => whnf); first | (((with_reducible show Gd _ _ _); first | with_reducible refine Gd.t ?_ | with_reducible refine Gd.f ?_ | with_reducible refine Gd.dec (fun _ => ?_) (fun _ => ?_) | with_reducible refine Gd.beq (fun _ => ?_) (fun _ => ?_) | with_reducible refine Gd.bne (fun _ => ?_) (fun _ => ?_) | with_reducible refine Gd.not ?_ | refine Gd.t ?_ | refine Gd.f ?_ | with_reducible refine Gd.var (fun _ => ?_) (fun _ => ?_)) <;> first | (exfalso; omega) | skip) | with_reducible refine Sq.mk ?_ | ((with_reducible show Ld1 _ _ _); first | refine Ld1.h H ?_ | refine Ld1.rF ?_ | refine Ld1.r ?_) | ((with_reducible show Ld _ _ _ _); first | refine Ld.h H ?_ | refine Ld.r ?_) | ((with_reducible show Ix _ _ _ _ _); (first | refine Ix.h ?_ | refine Ix.ha ?_)) | (refine Al.hp H ?_; clear H; intro _ _ H _) | (refine St.h H ?_; clear H; intro _ H)) | refine Sm.strix T.ok ?_)
    all_goals first | (exfalso; omega) | skip
    (replace H := Hp.toR H hnx hr0; clear hnx hr0)
    (conv => whnf)
    refine Dr.chX T.ok mixed [0, 1, 2, 7] [3, 4, 5, 6, 8] (by kernel_rfl) rfl rfl (fun w' => Blk w' p3 47 [.string (bs t2.text), .slice A l.length c, .slice none 0 0]) (PanX R pr w) (fun ch F' w' hds h => by (conv => whnf); rw [show F'.ds = [] from hds]; exact h) (fun w1 eT _ => ?_)
    replace H := H.ext eT
    repeat' ((conv => whnf); first | refine QLd1.own (fun _ hw => hw) ?_ | refine QLd.own (fun _ hw => hw) ?_)
    (conv => whnf)
    refine ⟨H.blk 1 rfl, ?_⟩
    (((conv => whnf); refine Cl.mkX (take_c k_name src pr (t0 :: r0) wb _ (H.base2 HB) X.lo X.tb X.len (H.atC 3 rfl) (by decide)) ?_ ?_; rotate_left; (rintro ch w9 ⟨e9, p9, q9, h9, rfl, H'⟩; exact ⟨e9, p9, q9, (by rw [hR, h9]; rfl), rfl, Hp.pan H H' (.inl rfl)⟩)); rintro _ w8 ⟨t6, ts6, h1, rfl, H'⟩; replace H := H.upd (c := rdr src pr (t0 :: r0)) H' rfl (.inl rfl); clear H'; rw [h1, Res.bind_ok] at hR; clear h1)
    (conv => whnf)
    refine ⟨H.blk 1 rfl, ?_⟩
    (conv => whnf)
    refine ⟨H.blk 1 rfl, ?_⟩
    refine Sm.lith (cs := [.string (bs t6.text)]) H T.ok (fun p5 w4 H _ => ?_)
    (conv => whnf)
    refine ⟨H.blk 2 rfl, ?_⟩
    refine Sm.ap1 (enc := strE) t6.text H T.ok ?_ ?_ (fun A' c' w7 H => ?_)
    · show (l.length + 1) * 16 ≤ _; omega
    · omega
    simp only [List.cons_append, List.nil_append] at H
    (conv => whnf)
    refine ⟨H.blk 1 rfl, ?_⟩
    repeat' ((conv => whnf); first | ((with_reducible show Gd (bs _ == _) _ _); first | refine Gd.sY (by assumption) ?_ | refine Gd.sk (by assumption) ?_ | refine Gd.sN (by assumption) ?_) | ((conv => whnf); first | (((with_reducible show Gd _ _ _); first | with_reducible refine Gd.t ?_ | with_reducible refine Gd.f ?_ | with_reducible refine Gd.dec (fun _ => ?_) (fun _ => ?_) | with_reducible refine Gd.beq (fun _ => ?_) (fun _ => ?_) | with_reducible refine Gd.bne (fun _ => ?_) (fun _ => ?_) | with_reducible refine Gd.not ?_ | refine Gd.t ?_ | refine Gd.f ?_ | with_reducible refine Gd.var (fun _ => ?_) (fun _ => ?_)) <;> first | (exfalso; omega) | skip) | with_reducible refine Sq.mk ?_ | ((with_reducible show Ld1 _ _ _); first | refine Ld1.h H ?_ | refine Ld1.rF ?_ | refine Ld1.r ?_) | ((with_reducible show Ld _ _ _ _); first | refine Ld.h H ?_ | refine Ld.r ?_) | ((with_reducible show Ix _ _ _ _ _); (first | refine Ix.h ?_ | refine Ix.ha ?_)) | (refine Al.hp H ?_; clear H; intro _ _ H _) | (refine St.h H ?_; clear H; intro _ H)) | refine Sm.strix T.ok ?_)
    refine ⟨(f, A', c', l ++ [t6.text], ts6), ⟨rfl, rfl, rfl, trivial⟩, rfl, ⟨hR, ?_, ?_⟩, Nat.lt_succ_self f⟩
    · simp only [List.length_append, List.length_cons, List.length_nil]; omega
    · have hl1 : (l ++ [t6.text]).length = l.length + 1 := by simp
      simp only [hl1]
      exact H
  · rw [if_pos hl0] at hR
    replace hR : R = (takeP s_comma (t0 :: r0)).bind fun _ ts1 => (takeP k_name ts1).bind fun t ts2 => (loopN f (l ++ [t.text]) ts2).bind (fun ps ts4 => (takeP s_rp ts4).bind fun _ ts5 => (F.block 1 ts5).bind fun b ts6 => .ok ⟨t2.text, ps, b⟩ ts6) := by
      rw [hR]
      cases takeP s_comma (t0 :: r0) with
      | out => rfl
      | err e p => rfl
      | ok a ts1 => simp only [Res.bind_ok, Res.bind_assoc]
    repeat' ((conv => whnf); first | ((with_reducible show Gd (bs _ == _) _ _); first | refine Gd.sY (by assumption) ?_ | refine Gd.sk (by assumption) ?_ | refine Gd.sN (by assumption) ?_) | ((conv => whnf); first | (((with_reducible show Gd _ _ _); first | with_reducible refine Gd.t ?_ | with_reducible refine Gd.f ?_ | with_reducible refine Gd.dec (fun _ => ?_) (fun _ => ?_) | with_reducible refine Gd.beq (fun _ => ?_) (fun _ => ?_) | with_reducible refine Gd.bne (fun _ => ?_) (fun _ => ?_) | with_reducible refine Gd.not ?_ | refine Gd.t ?_ | refine Gd.f ?_ | with_reducible refine Gd.var (fun _ => ?_) (fun _ => ?_)) <;> first | (exfalso; omega) | skip) | with_reducible refine Sq.mk ?_ | ((with_reducible show Ld1 _ _ _); first | refine Ld1.h H ?_ | refine Ld1.rF ?_ | refine Ld1.r ?_) | ((with_reducible show Ld _ _ _ _); first | refine Ld.h H ?_ | refine Ld.r ?_) | ((with_reducible show Ix _ _ _ _ _); (first | refine Ix.h ?_ | refine Ix.ha ?_)) | (refine Al.hp H ?_; clear H; intro _ _ H _) | (refine St.h H ?_; clear H; intro _ H)) | refine Sm.strix T.ok ?_)
    all_goals first | (exfalso; omega) | skip
    (replace H := Hp.toR H hnx hr0; clear hnx hr0)
    (((conv => whnf); refine Cl.mkX (take_c s_comma src pr (t0 :: r0) wb _ (H.base2 HB) X.lo X.tb X.len (H.atC 3 rfl) (by decide)) ?_ ?_; rotate_left; (rintro ch w9 ⟨e9, p9, q9, h9, rfl, H'⟩; exact ⟨e9, p9, q9, (by rw [hR, h9]; rfl), rfl, Hp.pan H H' (.inl rfl)⟩)); rintro _ w8 ⟨t7, ts7, h1, rfl, H'⟩; replace H := H.upd (c := rdr src pr (t0 :: r0)) H' rfl (.inl rfl); clear H'; rw [h1, Res.bind_ok] at hR; clear h1)
    repeat' ((conv => whnf); first | ((with_reducible show Gd (bs _ == _) _ _); first | refine Gd.sY (by assumption) ?_ | refine Gd.sk (by assumption) ?_ | refine Gd.sN (by assumption) ?_) | ((conv => whnf); first | (((with_reducible show Gd _ _ _); first | with_reducible refine Gd.t ?_ | with_reducible refine Gd.f ?_ | with_reducible refine Gd.dec (fun _ => ?_) (fun _ => ?_) | with_reducible refine Gd.beq (fun _ => ?_) (fun _ => ?_) | with_reducible refine Gd.bne (fun _ => ?_) (fun _ => ?_) | with_reducible refine Gd.not ?_ | refine Gd.t ?_ | refine Gd.f ?_ | with_reducible refine Gd.var (fun _ => ?_) (fun _ => ?_)) <;> first | (exfalso; omega) | skip) | with_reducible refine Sq.mk ?_ | ((with_reducible show Ld1 _ _ _); first | refine Ld1.h H ?_ | refine Ld1.rF ?_ | refine Ld1.r ?_) | ((with_reducible show Ld _ _ _ _); first | refine Ld.h H ?_ | refine Ld.r ?_) | ((with_reducible show Ix _ _ _ _ _); (first | refine Ix.h ?_ | refine Ix.ha ?_)) | (refine Al.hp H ?_; clear H; intro _ _ H _) | (refine St.h H ?_; clear H; intro _ H)) | refine Sm.strix T.ok ?_)
    (conv => whnf)
    refine Dr.chX T.ok mixed [0, 1, 2, 7] [3, 4, 5, 6, 8] (by kernel_rfl) rfl rfl (fun w' => Blk w' p3 47 [.string (bs t2.text), .slice A l.length c, .slice none 0 0]) (PanX R pr w) (fun ch F' w' hds h => by (conv => whnf); rw [show F'.ds = [] from hds]; exact h) (fun w1 eT _ => ?_)
    replace H := H.ext eT
    repeat' ((conv => whnf); first | refine QLd1.own (fun _ hw => hw) ?_ | refine QLd.own (fun _ hw => hw) ?_)
    (conv => whnf)
    refine ⟨H.blk 1 rfl, ?_⟩
    (((conv => whnf); refine Cl.mkX (take_c k_name src pr (ts7) wb _ (H.base2 HB) X.lo X.tb X.len (H.atC 3 rfl) (by decide)) ?_ ?_; rotate_left; (rintro ch w9 ⟨e9, p9, q9, h9, rfl, H'⟩; exact ⟨e9, p9, q9, (by rw [hR, h9]; rfl), rfl, Hp.pan H H' (.inl rfl)⟩)); rintro _ w8 ⟨t6, ts6, h1, rfl, H'⟩; replace H := H.upd (c := rdr src pr (ts7)) H' rfl (.inl rfl); clear H'; rw [h1, Res.bind_ok] at hR; clear h1)
    (conv => whnf)
    refine ⟨H.blk 1 rfl, ?_⟩
    (conv => whnf)
    refine ⟨H.blk 1 rfl, ?_⟩
    refine Sm.lith (cs := [.string (bs t6.text)]) H T.ok (fun p5 w4 H _ => ?_)
    (conv => whnf)
    refine ⟨H.blk 2 rfl, ?_⟩
    refine Sm.ap1 (enc := strE) t6.text H T.ok ?_ ?_ (fun A' c' w7 H => ?_)
    · show (l.length + 1) * 16 ≤ _; omega
    · omega
    simp only [List.cons_append, List.nil_append] at H
    (conv => whnf)
    refine ⟨H.blk 1 rfl, ?_⟩
    repeat' ((conv => whnf); first | ((with_reducible show Gd (bs _ == _) _ _); first | refine Gd.sY (by assumption) ?_ | refine Gd.sk (by assumption) ?_ | refine Gd.sN (by assumption) ?_) | ((conv => whnf); first | (((with_reducible show Gd _ _ _); first | with_reducible refine Gd.t ?_ | with_reducible refine Gd.f ?_ | with_reducible refine Gd.dec (fun _ => ?_) (fun _ => ?_) | with_reducible refine Gd.beq (fun _ => ?_) (fun _ => ?_) | with_reducible refine Gd.bne (fun _ => ?_) (fun _ => ?_) | with_reducible refine Gd.not ?_ | refine Gd.t ?_ | refine Gd.f ?_ | with_reducible refine Gd.var (fun _ => ?_) (fun _ => ?_)) <;> first | (exfalso; omega) | skip) | with_reducible refine Sq.mk ?_ | ((with_reducible show Ld1 _ _ _); first | refine Ld1.h H ?_ | refine Ld1.rF ?_ | refine Ld1.r ?_) | ((with_reducible show Ld _ _ _ _); first | refine Ld.h H ?_ | refine Ld.r ?_) | ((with_reducible show Ix _ _ _ _ _); (first | refine Ix.h ?_ | refine Ix.ha ?_)) | (refine Al.hp H ?_; clear H; intro _ _ H _) | (refine St.h H ?_; clear H; intro _ H)) | refine Sm.strix T.ok ?_)
    refine ⟨(f, A', c', l ++ [t6.text], ts6), ⟨rfl, rfl, rfl, trivial⟩, rfl, ⟨hR, ?_, ?_⟩, Nat.lt_succ_self f⟩
    · simp only [List.length_append, List.length_cons, List.length_nil]; omega
    · have hl1 : (l ++ [t6.text]).length = l.length + 1 := by simp
      simp only [hl1]
      exact H
end
end Go.Proofs.YtfnjodpehomgfaaDoor
namespace Go.Proofs.YtfnjodpehomgfaaDoor
open Go.RowKit Go.Extern.Stop Go.Stop Go.Extern
theorem tas_valueOf27 (t : Addr) (w : World) : (ReflectliteValue.unpack (.iface 57 (.pointer (some t)))).run Tryd.prog w
    = .ok (.agg #[.pointer (some ⟨9, 57, none⟩), .pointer (some ⟨w.heap.size, 0, none⟩), .int .u64 150]) (w.alloc (.cells #[.pointer (some t)] 57)) := by kernel_rfl
theorem tas_type27 (a : Addr) (w : World) : (ReflectliteValue.methodAny (ReflectliteValue.valueError "reflectlite.Value.Type" 0) (fun t _ _ _ => ReflectliteType.toType t) #[.agg #[.pointer (some ⟨9, 57, none⟩), .pointer (some a), .int .u64 150]]).run Tryd.prog w
    = .ok (.iface 108 (.agg #[.pointer (some ⟨9, 57, none⟩)])) w := by kernel_rfl
theorem tas_methodKind (h : Value) (w : World) : (Go.method 295 108 (.agg #[h]) "Kind").run Tryd.prog w = .ok (106, h) w := by kernel_rfl
theorem tas_kind27 (w : World) : ((ReflectliteType.abiMethod fun t => (fun a : Nat => Value.int IntKind.u8 (a : Int)) <$> Rtype.kind t) #[.pointer (some ⟨9, 57, none⟩)]).run Tryd.prog w = .ok (.int .u8 22) w := by kernel_rfl
theorem tas_kind25 (w : World) : ((ReflectliteType.abiMethod fun t => (fun a : Nat => Value.int IntKind.u8 (a : Int)) <$> Rtype.kind t) #[.pointer (some ⟨9, 52, none⟩)]).run Tryd.prog w = .ok (.int .u8 22) w := by kernel_rfl

theorem rlm (z : Sem Value) (f : TypeId → Addr → Nat → Nat → Sem Value) (v : Value) :
    ReflectliteValue.method z f #[v] = (do match ← ReflectliteValue.parts v with | none => z | some (t, a, fl) => f t a fl (fl % 32)) := rfl
theorem tas_parts27 (a : Addr) (w : World) : (ReflectliteValue.parts (.agg #[.pointer (some ⟨9, 57, none⟩), .pointer (some a), .int .u64 150])).run Tryd.prog w = .ok (some (57, a, 150)) w := by kernel_rfl
theorem tas_isNil27 (a p : Addr) (W : World) (ha : W.cell? a = some (.pointer (some p))) :
    (ReflectliteValue.method (ReflectliteValue.valueError "reflectlite.Value.IsNil" 0) ReflectliteValue.isNil #[.agg #[.pointer (some ⟨9, 57, none⟩), .pointer (some a), .int .u64 150]]).run Tryd.prog W = .ok (.bool false) W := by
  rw [rlm]
  simp only [Sem.run_bind, tas_parts27, Result.andThen]
  simp [ReflectliteValue.isNil, loadVar, isAgg, underlying, Tryd.underlying57, ha, Result.andThen]

theorem tas_methodElem (h : Value) (w : World) : (Go.method 295 108 (.agg #[h]) "Elem").run Tryd.prog w = .ok (117, .agg #[h]) w := by kernel_rfl
theorem tas_methodImplements (h : Value) (w : World) : (Go.method 295 108 (.agg #[h]) "Implements").run Tryd.prog w = .ok (118, .agg #[h]) w := by kernel_rfl
theorem tas_methodAssignableTo (h : Value) (w : World) : (Go.method 295 108 (.agg #[h]) "AssignableTo").run Tryd.prog w = .ok (115, .agg #[h]) w := by kernel_rfl
theorem tas_elem27 (w : World) : (ReflectliteType.method ReflectliteType.elem #[.agg #[.pointer (some ⟨9, 57, none⟩)]]).run Tryd.prog w = .ok (.iface 108 (.agg #[.pointer (some ⟨9, 52, none⟩)])) w := by kernel_rfl
theorem tas_implements25 (w : World) : (ReflectliteType.relation "Implements" ReflectliteType.implements_ #[.agg #[.pointer (some ⟨9, 52, none⟩)], .iface 108 (.agg #[.pointer (some ⟨9, 54, none⟩)])]).run Tryd.prog w = .ok (.bool true) w := by kernel_rfl
theorem tas_typeOf25 (v : Value) (w : World) : (ReflectliteType.typeOf #[.iface 52 v]).run Tryd.prog w = .ok (.iface 108 (.agg #[.pointer (some ⟨9, 52, none⟩)])) w := by kernel_rfl
theorem tas_assignable25 (w : World) : (ReflectliteType.relation "AssignableTo" ReflectliteType.assignableTo #[.agg #[.pointer (some ⟨9, 52, none⟩)], .iface 108 (.agg #[.pointer (some ⟨9, 52, none⟩)])]).run Tryd.prog w = .ok (.bool true) w := by kernel_rfl
theorem tas_valueOf25 (e : Addr) (w : World) : (ReflectliteValue.unpack (.iface 52 (.pointer (some e)))).run Tryd.prog w
    = .ok (.agg #[.pointer (some ⟨9, 52, none⟩), .pointer (some ⟨w.heap.size, 0, none⟩), .int .u64 150]) (w.alloc (.cells #[.pointer (some e)] 52)) := by kernel_rfl

theorem tas_elemOf27 (w : World) : (Rtype.elem? 57).run Tryd.prog w = .ok (some 52) w := by kernel_rfl
theorem tas_mk25 (p : Addr) (w : World) : (ReflectliteValue.mk 52 p ReflectliteValue.flagAddr).run Tryd.prog w = .ok (.agg #[.pointer (some ⟨9, 52, none⟩), .pointer (some p), .int .u64 406]) w := by kernel_rfl
theorem tas_elemV27 (a p : Addr) (W : World) (ha : W.cell? a = some (.pointer (some p))) :
    (ReflectliteValue.method (ReflectliteValue.valueError "reflectlite.Value.Elem" 0) ReflectliteValue.elem #[.agg #[.pointer (some ⟨9, 57, none⟩), .pointer (some a), .int .u64 150]]).run Tryd.prog W
      = .ok (.agg #[.pointer (some ⟨9, 52, none⟩), .pointer (some p), .int .u64 406]) W := by
  rw [rlm]
  simp only [Sem.run_bind, tas_parts27, Result.andThen]
  simp [ReflectliteValue.elem, loadVar, isAgg, underlying, Tryd.underlying57, ha, Result.andThen, tas_elemOf27, tas_mk25]
theorem rls (v x : Value) : ReflectliteValue.set #[v, x] = (do
    let (some (dst, a, fl), some (src, b, _)) := (← ReflectliteValue.parts v, ← ReflectliteValue.parts x)
      | unsupported (.noEntry "extern/(internal/reflectlite.Value).Set.zeroValue")
    if fl / ReflectliteValue.flagAddr % 2 == 0 then unsupported (.noEntry "extern/(internal/reflectlite.Value).Set.unaddressable")
    let val ← loadVar src b
    if ← Rtype.directlyAssignable dst src then storeVar dst a val
    else if ← Rtype.implements dst src then
      if (← Rtype.kind src) == 20 then
        match val with
        | .nilIface => unsupported (.noEntry "extern/reflectlite: a nil value of one interface type handed on as a value of another")
        | _ => storeVar dst a val
      else storeVar dst a (.iface src val)
    else panicString ("reflectlite.Set: value of type " ++ (← Rtype.spelt src) ++ " is not assignable to type " ++ (← Rtype.spelt dst))
    pure (.tuple #[])) := rfl
theorem tas_parts25a (a : Addr) (w : World) : (ReflectliteValue.parts (.agg #[.pointer (some ⟨9, 52, none⟩), .pointer (some a), .int .u64 406])).run Tryd.prog w = .ok (some (52, a, 406)) w := by kernel_rfl
theorem tas_parts25 (a : Addr) (w : World) : (ReflectliteValue.parts (.agg #[.pointer (some ⟨9, 52, none⟩), .pointer (some a), .int .u64 150])).run Tryd.prog w = .ok (some (52, a, 150)) w := by kernel_rfl
theorem tas_direct25 (w : World) : (Rtype.directlyAssignable 52 52).run Tryd.prog w = .ok true w := by kernel_rfl
theorem tas_size25 (w : World) : (sizeOf 52).run Tryd.prog w = .ok 1 w := by kernel_rfl
theorem tas_set25 (ta b e : Addr) (old : Value) (W : World) (hb : W.cell? b = some (.pointer (some e))) (ht : W.cell? ta = some old) (hf : W.frozen? ta = false) :
    (ReflectliteValue.set #[.agg #[.pointer (some ⟨9, 52, none⟩), .pointer (some ta), .int .u64 406], .agg #[.pointer (some ⟨9, 52, none⟩), .pointer (some b), .int .u64 150]]).run Tryd.prog W
      = .ok (.tuple #[]) (W.setCell ta (.pointer (some e))) := by
  rw [rls]
  simp only [Sem.run_bind, tas_parts25a, tas_parts25, Result.andThen]
  simp [ReflectliteValue.flagAddr, loadVar, isAgg, underlying, Tryd.underlying52, hb, Result.andThen, tas_direct25, storeVar, Value.cells, storeCells, Addr.add]
  rw [run_store Tryd.prog W ta _ _ (by rfl)]
  simp [ht, hf]

set_option maxRecDepth 20000 in
set_option maxHeartbeats 8000000 in
theorem as_hit (e t : Addr) (old : Value) (w : World) (hg : w.cell? ⟨0, 0, none⟩ = some (.iface 108 (.agg #[.pointer (some ⟨9, 54, none⟩)]))) (ht0 : w.cell? t = some old) (hf0 : w.frozen? t = false) :
    Calls Tryd.prog 16 #[.iface 52 (.pointer (some e)), .iface 57 (.pointer (some t))] w fun ev w' => ev = .returned (.bool true) ∧ w' = ((((w.alloc (.cells #[.pointer (some t)] 57)).alloc (.cells #[.pointer (some ⟨9, 57, none⟩), .pointer (some ⟨w.heap.size, 0, none⟩), .int .u64 150] 72)).alloc (.cells #[.pointer (some ⟨9, 57, none⟩), .pointer (some ⟨w.heap.size, 0, none⟩), .int .u64 150] 72)).alloc (.cells #[.pointer (some e)] 52)).setCell t (.pointer (some e)) := by
  have h6 := @run_callFunc_extern Tryd.prog 21 _ (fun args => ReflectliteValue.unpack (args.getD 0 (.tuple #[]))) Tryd.func21 (by kernel_rfl) (by kernel_rfl) (by kernel_rfl) (by kernel_rfl)
  have h7 := @run_callFunc_extern Tryd.prog 22 _ (ReflectliteValue.methodAny (ReflectliteValue.valueError "reflectlite.Value.Type" 0) (fun t _ _ _ => ReflectliteType.toType t)) Tryd.func22 (by kernel_rfl) (by kernel_rfl) (by kernel_rfl) (by kernel_rfl)
  have h8 := @run_callFunc_extern Tryd.prog 23 _ (ReflectliteValue.method (ReflectliteValue.valueError "reflectlite.Value.IsNil" 0) ReflectliteValue.isNil) Tryd.func23 (by kernel_rfl) (by kernel_rfl) (by kernel_rfl) (by kernel_rfl)
  have h27 := @run_callFunc_extern Tryd.prog 106 _ (ReflectliteType.abiMethod fun t => do pure (.int .u8 (← Rtype.kind t))) Tryd.func106 (by kernel_rfl) (by kernel_rfl) (by kernel_rfl) (by kernel_rfl)
  have h37 := @run_callFunc_extern Tryd.prog 117 _ (ReflectliteType.method ReflectliteType.elem) Tryd.func117 (by kernel_rfl) (by kernel_rfl) (by kernel_rfl) (by kernel_rfl)
  have h38 := @run_callFunc_extern Tryd.prog 118 _ (ReflectliteType.relation "Implements" ReflectliteType.implements_) Tryd.func118 (by kernel_rfl) (by kernel_rfl) (by kernel_rfl) (by kernel_rfl)
  have h10 := @run_callFunc_extern Tryd.prog 40 _ ReflectliteType.typeOf Tryd.func40 (by kernel_rfl) (by kernel_rfl) (by kernel_rfl) (by kernel_rfl)
  have h35 := @run_callFunc_extern Tryd.prog 115 _ (ReflectliteType.relation "AssignableTo" ReflectliteType.assignableTo) Tryd.func115 (by kernel_rfl) (by kernel_rfl) (by kernel_rfl) (by kernel_rfl)
  have h11 := @run_callFunc_extern Tryd.prog 41 _ (ReflectliteValue.method (ReflectliteValue.valueError "reflectlite.Value.Elem" 0) ReflectliteValue.elem) Tryd.func41 (by kernel_rfl) (by kernel_rfl) (by kernel_rfl) (by kernel_rfl)
  have h12 := @run_callFunc_extern Tryd.prog 42 _ ReflectliteValue.set Tryd.func42 (by kernel_rfl) (by kernel_rfl) (by kernel_rfl) (by kernel_rfl)
  have tO := tas_typeOf25
  have mA := tas_methodAssignableTo
  have a25 := tas_assignable25
  have v25 := tas_valueOf25
  have f6 := tas_valueOf27
  have f7 := tas_type27
  have mK := tas_methodKind
  have mE := tas_methodElem
  have mI := tas_methodImplements
  have k27 := tas_kind27
  have k25 := tas_kind25
  have e27 := tas_elem27
  have i25 := tas_implements25
  have n8 := tas_isNil27 ⟨w.heap.size, 0, none⟩ t ((w.alloc (.cells #[.pointer (some t)] 57)).alloc (.cells #[.pointer (some ⟨9, 57, none⟩), .pointer (some ⟨w.heap.size, 0, none⟩), .int .u64 150] 72)) (by simp)
  have hlt : 0 < w.heap.size := by
    rcases Nat.eq_zero_or_pos w.heap.size with h0 | h
    · simp [World.cell?, h0] at hg
    · exact h
  have hg2 : ((w.alloc (.cells #[.pointer (some t)] 57)).alloc (.cells #[.pointer (some ⟨9, 57, none⟩), .pointer (some ⟨w.heap.size, 0, none⟩), .int .u64 150] 72)).cell? ⟨0, 0, none⟩ = some (.iface 108 (.agg #[.pointer (some ⟨9, 54, none⟩)])) := by
    rw [World.cell?_alloc_lt _ _ ⟨0, 0, none⟩ (by simp), World.cell?_alloc_lt _ _ ⟨0, 0, none⟩ hlt]; exact hg
  have htl : t.block < w.heap.size := by
    rcases Nat.lt_or_ge t.block w.heap.size with h | h
    · exact h
    · simp [World.cell?, Array.getElem?_eq_none h] at ht0
  have el := tas_elemV27 ⟨w.heap.size, 0, none⟩ t (((w.alloc (.cells #[.pointer (some t)] 57)).alloc (.cells #[.pointer (some ⟨9, 57, none⟩), .pointer (some ⟨w.heap.size, 0, none⟩), .int .u64 150] 72)).alloc (.cells #[.pointer (some ⟨9, 57, none⟩), .pointer (some ⟨w.heap.size, 0, none⟩), .int .u64 150] 72)) (by rw [World.cell?_alloc_lt _ _ ⟨w.heap.size, 0, none⟩ (by simp; omega)]; simp)
  have st := tas_set25 t ⟨w.heap.size + 1 + 1 + 1, 0, none⟩ e old ((((w.alloc (.cells #[.pointer (some t)] 57)).alloc (.cells #[.pointer (some ⟨9, 57, none⟩), .pointer (some ⟨w.heap.size, 0, none⟩), .int .u64 150] 72)).alloc (.cells #[.pointer (some ⟨9, 57, none⟩), .pointer (some ⟨w.heap.size, 0, none⟩), .int .u64 150] 72)).alloc (.cells #[.pointer (some e)] 52))
    (by rw [World.cell?_alloc_at _ _ _ _ (by simp)]; rfl)
    (by rw [World.cell?_alloc_lt _ _ t (by simp; omega), World.cell?_alloc_lt _ _ t (by simp; omega), World.cell?_alloc_lt _ _ t (by simp; omega), World.cell?_alloc_lt _ _ t htl]; exact ht0)
    (by rw [World.frozen?_alloc_old _ _ t (by simp; omega), World.frozen?_alloc_old _ _ t (by simp; omega), World.frozen?_alloc_old _ _ t (by simp; omega), World.frozen?_alloc_old _ _ t (Nat.ne_of_lt htl)]; exact hf0)
  go_enter Tryd.func16, Tryd.ntmps16
  go_wp2
  refine wp_loop_rounds 1 ?_
  rw [rounds_succ]
  go_wp2
  go_ret
  exact ⟨rfl, rfl⟩
end Go.Proofs.YtfnjodpehomgfaaDoor
namespace Go.Proofs.YtfnjodpehomgfaaDoor
open Go Go.Sh Go.Tx
set_option linter.unusedVariables false
set_option linter.unusedSimpArgs false
set_option linter.unusedSectionVars false
/-- a closure whose first region recovers and keeps what it got -/
theorem DCl.recov2 {P : Program} {T : Tab} (hT : TabOk P T) {f : FuncId} {fn : Func} {args : List Value} {w : World} {k : FrameMode → World → Prop} {m id d d2 : Nat} {o o2 : Oper} {c2 : Code} {u u1 : FrameMode} {v : Value}
    (hf : P.funcs[f]? = some fn) (hb : fn.body = some (.seq (.region id #[o, o2] false) c2)) (hm : fn.ntmps = m) (hrs : fn.results = #[]) (hn : Nat.ble args.length m = true)
    (ho : ∀ ρ w, (execOp ρ o).run P w = .ok .recover w) (hg : o.guard = none) (hd : o.dst = some d) (hdn : Nat.blt d m = true)
    (ho2 : o2.op = .assign (.tmp d)) (hg2 : o2.guard = none) (hd2 : o2.dst = some d2) (hdn2 : Nat.blt d2 m = true)
    (hu : (u = .returning ∧ v = .nilIface ∧ u1 = .returning) ∨ ∃ x, u = .panicking [{ v := x, recovered := false }] ∧ v = x ∧ u1 = .panicking [{ v := x, recovered := true }])
    (h : exC P T m c2 ⟨(d2, v) :: (d, v) :: argsEnv args 0, []⟩ w (fun e F w' => match e with | .normal | .ret => F.ds = [] ∧ k u1 w' | _ => False)) : DCl P f args.toArray u w k := by
  subst hm
  refine ⟨callsD_of_wpS hf hb fun c₀ cs hc => ?_⟩
  refine wpS_seq (wpS_region ?_)
  have hr0 : List.range (#[o, o2] : Array Oper).size = [0, 1] := rfl
  rw [hr0]
  have ha1 := (Agr.enter (fn := fn) hn).put (d := some d) (by simpa [dstOk] using hdn) v
  have ha := ha1.put (d := some d2) (by simpa [dstOk] using hdn2) v
  have hev := ha1.ev (.tmp d) v (by simp [evF, Fr.put, Sh.look])
  have fin : ∀ c₁ : Frame, c₁ = { c₀ with mode := u1 } → c2.wpS P (bodyPostS P fn c₀ cs (fun e u' w' => match e with | .returned _ => k u' w' | _ => False)) (Act.put (Act.put { tmps := args.toArray ++ Array.replicate (fn.ntmps - args.toArray.size) undef, defers := [] } (some d) v) (some d2) v) (c₁ :: cs) w := fun c₁ h1 => by
    refine wpS_of_wp (wp_mono (exC_sound hT c2 _ _ w _ ha (by exact h)) fun e a' w' q => ?_)
    obtain ⟨F', ha', q⟩ := q
    cases e with
    | normal =>
      refine ⟨ha'.2.1.trans q.1, u1, by rw [h1], .tuple #[], ?_, q.2⟩
      exact (by simp [results, hrs] : (results fn a'.tmps).run P w' = .ok (.tuple #[]) w')
    | ret =>
      refine ⟨ha'.2.1.trans q.1, u1, by rw [h1], .tuple #[], ?_, q.2⟩
      exact (by simp [results, hrs] : (results fn a'.tmps).run P w' = .ok (.tuple #[]) w')
    | _ => exact q.elim
  have snd : ∀ (Q : Exit → Act → List Frame → World → Prop) (c₁ : Frame), Q .normal (Act.put (Act.put { tmps := args.toArray ++ Array.replicate (fn.ntmps - args.toArray.size) undef, defers := [] } (some d) v) (some d2) v) (c₁ :: cs) w → wpOpsS P #[o, o2] Q [1] (Act.put { tmps := args.toArray ++ Array.replicate (fn.ntmps - args.toArray.size) undef, defers := [] } (some d) v) (c₁ :: cs) w := fun Q c₁ h1 => by
    unfold wpOpsS
    simp only [List.getElem?_toArray, List.getElem?_cons_succ, List.getElem?_cons_zero, wanted_none hg2, if_true]
    have hx : ∀ ρ w, (execOp ρ o2).run P w = .ok (.value (ρ (.tmp d))) w := fun ρ w => by unfold execOp; rw [ho2]; rfl
    simp only [hx, hev, Oper.upon, hd2]
    unfold wpOpsS
    exact h1
  unfold wpOpsS
  simp only [List.getElem?_toArray, List.getElem?_cons_zero, wanted_none hg, if_true, ho, hd]
  rcases hu with ⟨h1, rfl, h3⟩ | ⟨x, h1, rfl, h3⟩
  · have : recoverD (c₀ :: cs) = none := by simp [recoverD, hc, h1]
    simp only [this]
    exact snd _ c₀ (fin c₀ (by rw [h3, ← h1, ← hc]))
  · have : recoverD (c₀ :: cs) = some (v, { c₀ with mode := u1 } :: cs) := by simp [recoverD, hc, h1, h3]
    simp only [this]
    exact snd _ _ (fin _ rfl)
/-- the package's own mark of errors -/
def EG (w : World) : Prop := w.cell? ⟨0, 0, none⟩ = some (.iface 108 (.agg #[.pointer (some ⟨9, 54, none⟩)]))
theorem EG.lt {w : World} (h : EG w) : 0 < w.heap.size := by
  rcases Nat.lt_or_ge 0 w.heap.size with h1 | h1
  · exact h1
  · unfold EG at h
    simp [World.cell?, Array.getElem?_eq_none h1] at h
theorem EG.ext {w w' : World} (h : EG w) (e : Ext w w') : EG w' := by
  have hb : w'.heap[0]? = w.heap[0]? := Go.RowKit.Below.block e _ h.lt
  unfold EG at h ⊢
  unfold World.cell? at h ⊢
  simp only at h hb ⊢
  rw [hb]; exact h
theorem as_c (q t : Nat) (old : Value) (w : World) (hE : EG w) (hb : Blk w t 52 [old]) :
    Cl Tryd.prog 16 #[.iface 52 (.pointer (some ⟨q, 0, none⟩)), .iface 57 (.pointer (some ⟨t, 0, none⟩))] w
      (fun v w' => v = .bool true ∧ Hp (· = t) w w' [bk t 52 [.pointer (some ⟨q, 0, none⟩)]]) (fun _ _ => False) := by
  refine ⟨Calls.mono (as_hit ⟨q, 0, none⟩ ⟨t, 0, none⟩ old w hE ?_ ?_) ?_⟩
  · exact hb.cell 0
  · exact hb.frozen _ rfl
  rintro ev w' ⟨rfl, rfl⟩
  refine ⟨rfl, ?_⟩
  have e := (((Ext.alloc w (.cells #[.pointer (some ⟨t, 0, none⟩)] 57)).trans (Ext.alloc _ (.cells #[.pointer (some ⟨9, 57, none⟩), .pointer (some ⟨w.heap.size, 0, none⟩), .int .u64 150] 72))).trans (Ext.alloc _ (.cells #[.pointer (some ⟨9, 57, none⟩), .pointer (some ⟨w.heap.size, 0, none⟩), .int .u64 150] 72))).trans (Ext.alloc _ (.cells #[.pointer (some ⟨q, 0, none⟩)] 52))
  have H0 : Hp (· = t) w w [bk t 52 [old]] := Hp.start (S := (· = t)) (bk_ok hb) (fun k hk => hk)
  have H := H0.ext e
  have hst := St.h (vs := [Value.pointer (some ⟨q, 0, none⟩)]) (o := 0) (k := fun w' => Hp (· = t) w w' [bk t 52 [.pointer (some ⟨q, 0, none⟩)]]) H (fun w' H => H)
  exact hst.out
attribute [local irreducible] Blk Ext RdS
theorem run_as (x : Value) (w : World) : (Instr.typeAssert (.iface 52 x) 20 54 true).run Tryd.prog w = .ok (.tuple #[.iface 52 x, .bool true]) w := by kernel_rfl
theorem parse1_ret (p2 p3 : Nat) (w : World) : DCl Tryd.prog 15 #[.pointer (some ⟨p2, 0, none⟩), .pointer (some ⟨p3, 0, none⟩)] .returning w (fun u w' => u = .returning ∧ Ext w w') := by
  refine DCl.recov2 (args := [.pointer (some ⟨p2, 0, none⟩), .pointer (some ⟨p3, 0, none⟩)]) T.ok Tryd.func15 rfl rfl rfl rfl (fun ρ w => rfl) rfl rfl rfl rfl rfl rfl rfl (.inl ⟨rfl, rfl, rfl⟩) ?_
  have H := Hp.begin nw w
  repeat' ((conv => whnf); first | (((with_reducible show Gd _ _ _); first | with_reducible refine Gd.t ?_ | with_reducible refine Gd.f ?_ | with_reducible refine Gd.dec (fun _ => ?_) (fun _ => ?_) | with_reducible refine Gd.beq (fun _ => ?_) (fun _ => ?_) | with_reducible refine Gd.bne (fun _ => ?_) (fun _ => ?_) | with_reducible refine Gd.not ?_ | refine Gd.t ?_ | refine Gd.f ?_ | with_reducible refine Gd.var (fun _ => ?_) (fun _ => ?_)) <;> first | (exfalso; omega) | skip) | with_reducible refine Sq.mk ?_ | ((with_reducible show Ld1 _ _ _); first | refine Ld1.h H ?_ | refine Ld1.rF ?_ | refine Ld1.r ?_) | ((with_reducible show Ld _ _ _ _); first | refine Ld.h H ?_ | refine Ld.r ?_) | ((with_reducible show Ix _ _ _ _ _); (first | refine Ix.h ?_ | refine Ix.ha ?_)) | (refine Al.hp H ?_; clear H; intro _ _ H _) | (refine St.h H ?_; clear H; intro _ H))
  exact ⟨rfl, rfl, H.e⟩
theorem parse1_pan {w0 w : World} {q p2 p3 : Nat} {e : Int} {p : Nat} {c2 x y : Value} (hE : EG w0) (H : Hp nw w0 w [bk q 59 [.int .i64 e, .int .i64 (p : Int)], bk p3 40 [x, y], bk p2 37 [c2]]) :
    DCl Tryd.prog 15 #[.pointer (some ⟨p2, 0, none⟩), .pointer (some ⟨p3, 0, none⟩)] (.panicking (pk q)) w
      (fun u w' => u = .panicking [{ v := .iface 52 (.pointer (some ⟨q, 0, none⟩)), recovered := true }] ∧ Hp nw w0 w' [bk p3 40 [.int .i64 e, .int .i64 (p : Int)], bk p2 37 [.slice none 0 0]]) := by
  refine DCl.recov2 (args := [.pointer (some ⟨p2, 0, none⟩), .pointer (some ⟨p3, 0, none⟩)]) T.ok Tryd.func15 rfl rfl rfl rfl (fun ρ w => rfl) rfl rfl rfl rfl rfl rfl rfl (.inr ⟨_, rfl, rfl, rfl⟩) ?_
  repeat' ((conv => whnf); first | (((with_reducible show Gd _ _ _); first | with_reducible refine Gd.t ?_ | with_reducible refine Gd.f ?_ | with_reducible refine Gd.dec (fun _ => ?_) (fun _ => ?_) | with_reducible refine Gd.beq (fun _ => ?_) (fun _ => ?_) | with_reducible refine Gd.bne (fun _ => ?_) (fun _ => ?_) | with_reducible refine Gd.not ?_ | refine Gd.t ?_ | refine Gd.f ?_ | with_reducible refine Gd.var (fun _ => ?_) (fun _ => ?_)) <;> first | (exfalso; omega) | skip) | with_reducible refine Sq.mk ?_ | ((with_reducible show Ld1 _ _ _); first | refine Ld1.h H ?_ | refine Ld1.rF ?_ | refine Ld1.r ?_) | ((with_reducible show Ld _ _ _ _); first | refine Ld.h H ?_ | refine Ld.r ?_) | ((with_reducible show Ix _ _ _ _ _); (first | refine Ix.h ?_ | refine Ix.ha ?_)) | (refine St.h H ?_; clear H; intro _ H))
  ((conv => whnf); refine Al.hp H ?_; clear H; intro p5 _ H _)
  repeat' ((conv => whnf); first | (((with_reducible show Gd _ _ _); first | with_reducible refine Gd.t ?_ | with_reducible refine Gd.f ?_ | with_reducible refine Gd.dec (fun _ => ?_) (fun _ => ?_) | with_reducible refine Gd.beq (fun _ => ?_) (fun _ => ?_) | with_reducible refine Gd.bne (fun _ => ?_) (fun _ => ?_) | with_reducible refine Gd.not ?_ | refine Gd.t ?_ | refine Gd.f ?_ | with_reducible refine Gd.var (fun _ => ?_) (fun _ => ?_)) <;> first | (exfalso; omega) | skip) | with_reducible refine Sq.mk ?_ | ((with_reducible show Ld1 _ _ _); first | refine Ld1.h H ?_ | refine Ld1.rF ?_ | refine Ld1.r ?_) | ((with_reducible show Ld _ _ _ _); first | refine Ld.h H ?_ | refine Ld.r ?_) | ((with_reducible show Ix _ _ _ _ _); (first | refine Ix.h ?_ | refine Ix.ha ?_)) | (refine Al.hp H ?_; clear H; intro _ _ H _) | (refine St.h H ?_; clear H; intro _ H))
  refine Sm.ran (run_as _ _) ?_
  repeat' ((conv => whnf); first | (((with_reducible show Gd _ _ _); first | with_reducible refine Gd.t ?_ | with_reducible refine Gd.f ?_ | with_reducible refine Gd.dec (fun _ => ?_) (fun _ => ?_) | with_reducible refine Gd.beq (fun _ => ?_) (fun _ => ?_) | with_reducible refine Gd.bne (fun _ => ?_) (fun _ => ?_) | with_reducible refine Gd.not ?_ | refine Gd.t ?_ | refine Gd.f ?_ | with_reducible refine Gd.var (fun _ => ?_) (fun _ => ?_)) <;> first | (exfalso; omega) | skip) | with_reducible refine Sq.mk ?_ | ((with_reducible show Ld1 _ _ _); first | refine Ld1.h H ?_ | refine Ld1.rF ?_ | refine Ld1.r ?_) | ((with_reducible show Ld _ _ _ _); first | refine Ld.h H ?_ | refine Ld.r ?_) | ((with_reducible show Ix _ _ _ _ _); (first | refine Ix.h ?_ | refine Ix.ha ?_)) | (refine Al.hp H ?_; clear H; intro _ _ H _) | (refine St.h H ?_; clear H; intro _ H))
  ((conv => whnf); refine Cl.mk (as_c q p5 (.pointer none) _ (hE.ext H.e) (H.blk 0 rfl)) ?_)
  rintro _ w6 ⟨rfl, H'⟩
  replace H := H.updb H'
  clear H'
  repeat' ((conv => whnf); first | (((with_reducible show Gd _ _ _); first | with_reducible refine Gd.t ?_ | with_reducible refine Gd.f ?_ | with_reducible refine Gd.dec (fun _ => ?_) (fun _ => ?_) | with_reducible refine Gd.beq (fun _ => ?_) (fun _ => ?_) | with_reducible refine Gd.bne (fun _ => ?_) (fun _ => ?_) | with_reducible refine Gd.not ?_ | refine Gd.t ?_ | refine Gd.f ?_ | with_reducible refine Gd.var (fun _ => ?_) (fun _ => ?_)) <;> first | (exfalso; omega) | skip) | with_reducible refine Sq.mk ?_ | ((with_reducible show Ld1 _ _ _); first | refine Ld1.h H ?_ | refine Ld1.rF ?_ | refine Ld1.r ?_) | ((with_reducible show Ld _ _ _ _); first | refine Ld.h H ?_ | refine Ld.r ?_) | ((with_reducible show Ix _ _ _ _ _); (first | refine Ix.h ?_ | refine Ix.ha ?_)) | (refine Al.hp H ?_; clear H; intro _ _ H _) | (refine St.h H ?_; clear H; intro _ H))
  exact ⟨rfl, rfl, H.sel [2, 2] rfl⟩
/-- what reading comes to -/
def PR (l : Bs) : Res (List Fnc) := if 16384 < l.length then .err 2 0 else parseP l (fuelOf l)
def OkP (l : Bs) (w : World) (v : Value) (w' : World) : Prop :=
  (∃ m ts A c, PR l = .ok (m.map FM.e) ts ∧ v = .tuple #[.agg #[.slice A m.length c], .agg #[.int .i64 0, .int .i64 0]] ∧ m.length ≤ 2000000 ∧ Hp nw w w' [qu FM.enc 3 47 A c m, fns m]) ∨
  (∃ e p, PR l = .err e p ∧ v = .tuple #[.agg #[.slice none 0 0], .agg #[.int .i64 e, .int .i64 (p : Int)]] ∧ Ext w w')
/-- all that the program's reading leans on -/
structure Rg (w : World) : Prop where
  tb : Tb w
  eg : EG w
theorem Rg.ext {w w' : World} (h : Rg w) (e : Ext w w') : Rg w' := ⟨h.tb.ext e, h.eg.ext e⟩
set_option maxHeartbeats 4000000 in
theorem Parse_c (l : Bs) (w : World) (hG : Rg w) : Cl Tryd.prog 12 #[.string (bs l)] w (OkP l w) (fun _ _ => False) := by
  refine calls_exd (args := [.string (bs l)]) T.ok Tryd.func12 rfl rfl rfl rfl ?_
  have H := Hp.begin nw w
  have hsz := bs_size l
  refine Sq.mk ?_
  ((conv => whnf); refine Al.hp H ?_; clear H; intro p2 _ H _)
  ((conv => whnf); refine Al.hp H ?_; clear H; intro p3 _ H _)
  by_cases hlong : 16384 < l.length
  · repeat' ((conv => whnf); first | (((with_reducible show Gd _ _ _); first | with_reducible refine Gd.t ?_ | with_reducible refine Gd.f ?_ | with_reducible refine Gd.dec (fun _ => ?_) (fun _ => ?_) | with_reducible refine Gd.beq (fun _ => ?_) (fun _ => ?_) | with_reducible refine Gd.bne (fun _ => ?_) (fun _ => ?_) | with_reducible refine Gd.not ?_ | refine Gd.t ?_ | refine Gd.f ?_ | with_reducible refine Gd.var (fun _ => ?_) (fun _ => ?_)) <;> first | (exfalso; omega) | skip) | with_reducible refine Sq.mk ?_ | ((with_reducible show Ld1 _ _ _); first | refine Ld1.h H ?_ | refine Ld1.rF ?_ | refine Ld1.r ?_) | ((with_reducible show Ld _ _ _ _); first | refine Ld.h H ?_ | refine Ld.r ?_) | ((with_reducible show Ix _ _ _ _ _); (first | refine Ix.h ?_ | refine Ix.ha ?_)) | (refine Al.hp H ?_; clear H; intro _ _ H _) | (refine St.h H ?_; clear H; intro _ H))
    all_goals first | (exfalso; omega) | skip
    exact .inr ⟨2, 0, by unfold PR; rw [if_pos hlong], rfl, H.e⟩
  obtain ⟨R, hR⟩ : ∃ R, R = PR l := ⟨_, rfl⟩
  have hne : R ≠ .out := by
    rw [hR]; unfold PR; rw [if_neg hlong]
    intro e
    have := parse_fin l
    rw [e] at this
    exact this
  have hRp : R = parseP l (fuelOf l) := by rw [hR]; unfold PR; rw [if_neg hlong]
  unfold parseP at hRp
  repeat' ((conv => whnf); first | (((with_reducible show Gd _ _ _); first | with_reducible refine Gd.t ?_ | with_reducible refine Gd.f ?_ | with_reducible refine Gd.dec (fun _ => ?_) (fun _ => ?_) | with_reducible refine Gd.beq (fun _ => ?_) (fun _ => ?_) | with_reducible refine Gd.bne (fun _ => ?_) (fun _ => ?_) | with_reducible refine Gd.not ?_ | refine Gd.t ?_ | refine Gd.f ?_ | with_reducible refine Gd.var (fun _ => ?_) (fun _ => ?_)) <;> first | (exfalso; omega) | skip) | with_reducible refine Sq.mk ?_ | ((with_reducible show Ld1 _ _ _); first | refine Ld1.h H ?_ | refine Ld1.rF ?_ | refine Ld1.r ?_) | ((with_reducible show Ld _ _ _ _); first | refine Ld.h H ?_ | refine Ld.r ?_) | ((with_reducible show Ix _ _ _ _ _); (first | refine Ix.h ?_ | refine Ix.ha ?_)) | (refine St.h H ?_; clear H; intro _ H))
  all_goals first | (exfalso; omega) | skip
  ((conv => whnf); refine Al.hp H ?_; clear H; intro pr _ H _)
  repeat' ((conv => whnf); first | (((with_reducible show Gd _ _ _); first | with_reducible refine Gd.t ?_ | with_reducible refine Gd.f ?_ | with_reducible refine Gd.dec (fun _ => ?_) (fun _ => ?_) | with_reducible refine Gd.beq (fun _ => ?_) (fun _ => ?_) | with_reducible refine Gd.bne (fun _ => ?_) (fun _ => ?_) | with_reducible refine Gd.not ?_ | refine Gd.t ?_ | refine Gd.f ?_ | with_reducible refine Gd.var (fun _ => ?_) (fun _ => ?_)) <;> first | (exfalso; omega) | skip) | with_reducible refine Sq.mk ?_ | ((with_reducible show Ld1 _ _ _); first | refine Ld1.h H ?_ | refine Ld1.rF ?_ | refine Ld1.r ?_) | ((with_reducible show Ld _ _ _ _); first | refine Ld.h H ?_ | refine Ld.r ?_) | ((with_reducible show Ix _ _ _ _ _); (first | refine Ix.h ?_ | refine Ix.ha ?_)) | (refine Al.hp H ?_; clear H; intro _ _ H _) | (refine St.h H ?_; clear H; intro _ H))
  have hfix : ∀ w', Hp nw w w' [bk pr 64 (rdrCs l 0 ⟨[], [], 0, 0, 0⟩), bk p3 40 [.int .i64 0, .int .i64 0], bk p2 37 [.slice none 0 0]] → Hp nw w w' [bk pr 64 (rdrCs l 0 ⟨[], [], 0, 0, 0⟩), bk p3 40 [.int .i64 0, .int .i64 0], bk p2 37 [.slice none 0 0]] := fun _ h => h
  replace H := hfix _ H
  clear hfix
  have hwl := words_len l (l.length + 1) 0
  replace H := Hp.toR (t := ⟨[], [], 0, 0, 0⟩) (r := words l (l.length + 1) 0) H (Nat.zero_le _) ⟨fun _ => rfl, by omega, by decide, by decide⟩
  have X : Txt l pr w := ⟨by assumption, hG.tb, by omega⟩
  have C := con_all X (fuelOf l)
  (conv => whnf)
  refine Cl.mkX (step_c false l pr (⟨[], [], 0, 0, 0⟩ :: words l (l.length + 1) 0) w _ H.e X.lo X.tb X.len (H.atC 0 rfl) (by show ([] : Bs) ≠ k_end; decide)) ?_ ?_
  rotate_left
  · rintro ch w9 ⟨e9, p9, q9, h9, rfl, H'⟩
    replace H := H.upd (c := rdr l pr (⟨[], [], 0, 0, 0⟩ :: words l (l.length + 1) 0)) H' rfl (.inl rfl)
    have hR9 : R = .err e9 p9 := by rw [hRp, h9]; rfl
    (conv => whnf)
    refine DCl.mono (parse1_pan hG.eg (H.sel [0, 0, 0] rfl)) ?_
    rintro _ w10 ⟨rfl, H2⟩
    replace H := H2
    repeat' ((conv => whnf); first | (((with_reducible show Gd _ _ _); first | with_reducible refine Gd.t ?_ | with_reducible refine Gd.f ?_ | with_reducible refine Gd.dec (fun _ => ?_) (fun _ => ?_) | with_reducible refine Gd.beq (fun _ => ?_) (fun _ => ?_) | with_reducible refine Gd.bne (fun _ => ?_) (fun _ => ?_) | with_reducible refine Gd.not ?_ | refine Gd.t ?_ | refine Gd.f ?_ | with_reducible refine Gd.var (fun _ => ?_) (fun _ => ?_)) <;> first | (exfalso; omega) | skip) | with_reducible refine Sq.mk ?_ | ((with_reducible show Ld1 _ _ _); first | refine Ld1.h H ?_ | refine Ld1.rF ?_ | refine Ld1.r ?_) | ((with_reducible show Ld _ _ _ _); first | refine Ld.h H ?_ | refine Ld.r ?_) | ((with_reducible show Ix _ _ _ _ _); (first | refine Ix.h ?_ | refine Ix.ha ?_)) | (refine Al.hp H ?_; clear H; intro _ _ H _) | (refine St.h H ?_; clear H; intro _ H))
    exact .inr ⟨e9, p9, by rw [← hR, hR9], rfl, H.e⟩
  rintro _ w3 ⟨ts, h1, H'⟩
  replace H := H.upd (c := rdr l pr (⟨[], [], 0, 0, 0⟩ :: words l (l.length + 1) 0)) H' rfl (.inl rfl)
  clear H'
  rw [h1, Res.bind_ok] at hRp
  replace H := Hp.nil (Hp.fns0 H) FM.enc 3 47
  repeat' ((conv => whnf); first | ((with_reducible show Gd (bs _ == _) _ _); first | refine Gd.sY (by assumption) ?_ | refine Gd.sk (by assumption) ?_ | refine Gd.sN (by assumption) ?_) | ((conv => whnf); first | (((with_reducible show Gd _ _ _); first | with_reducible refine Gd.t ?_ | with_reducible refine Gd.f ?_ | with_reducible refine Gd.dec (fun _ => ?_) (fun _ => ?_) | with_reducible refine Gd.beq (fun _ => ?_) (fun _ => ?_) | with_reducible refine Gd.bne (fun _ => ?_) (fun _ => ?_) | with_reducible refine Gd.not ?_ | refine Gd.t ?_ | refine Gd.f ?_ | with_reducible refine Gd.var (fun _ => ?_) (fun _ => ?_)) <;> first | (exfalso; omega) | skip) | with_reducible refine Sq.mk ?_ | ((with_reducible show Ld1 _ _ _); first | refine Ld1.h H ?_ | refine Ld1.rF ?_ | refine Ld1.r ?_) | ((with_reducible show Ld _ _ _ _); first | refine Ld.h H ?_ | refine Ld.r ?_) | ((with_reducible show Ix _ _ _ _ _); (first | refine Ix.h ?_ | refine Ix.ha ?_)) | (refine Al.hp H ?_; clear H; intro _ _ H _) | (refine St.h H ?_; clear H; intro _ H)) | refine Sm.strix T.ok ?_)
  (conv => whnf)
  refine Dr.chXk T.ok mixed [0, 1, 2, 6] [3, 4, 5, 7] (by kernel_rfl) rfl rfl (fun w' => Blk w' p2 37 [.slice none 0 0]) (fun ch w' => ∃ e9 p9 q9 c9, R = .err e9 p9 ∧ ch = pk q9 ∧ Hp nw w w' [bk q9 59 [.int .i64 e9, .int .i64 (p9 : Int)], bk p3 40 [.int .i64 0, .int .i64 0], bk p2 37 [c9]])
    (fun ch w' h => ?_) (fun w1 eT _ => ?_)
  · obtain ⟨e9, p9, q9, c9, hR9, rfl, H⟩ := h
    (conv => whnf)
    refine DCl.mono (parse1_pan hG.eg H) ?_
    rintro _ w10 ⟨rfl, H2⟩
    replace H := H2
    repeat' ((conv => whnf); first | (((with_reducible show Gd _ _ _); first | with_reducible refine Gd.t ?_ | with_reducible refine Gd.f ?_ | with_reducible refine Gd.dec (fun _ => ?_) (fun _ => ?_) | with_reducible refine Gd.beq (fun _ => ?_) (fun _ => ?_) | with_reducible refine Gd.bne (fun _ => ?_) (fun _ => ?_) | with_reducible refine Gd.not ?_ | refine Gd.t ?_ | refine Gd.f ?_ | with_reducible refine Gd.var (fun _ => ?_) (fun _ => ?_)) <;> first | (exfalso; omega) | skip) | with_reducible refine Sq.mk ?_ | ((with_reducible show Ld1 _ _ _); first | refine Ld1.h H ?_ | refine Ld1.rF ?_ | refine Ld1.r ?_) | ((with_reducible show Ld _ _ _ _); first | refine Ld.h H ?_ | refine Ld.r ?_) | ((with_reducible show Ix _ _ _ _ _); (first | refine Ix.h ?_ | refine Ix.ha ?_)) | (refine Al.hp H ?_; clear H; intro _ _ H _) | (refine St.h H ?_; clear H; intro _ H))
    exact .inr ⟨e9, p9, by rw [← hR, hR9], rfl, H.e⟩
  replace H := H.ext eT
  repeat' ((conv => whnf); first | refine QLd1.own (fun _ hw => hw) ?_ | refine QLd.own (fun _ hw => hw) ?_)
  (conv => whnf)
  refine ⟨H.blk 4 rfl, ?_⟩
  (conv => whnf)
  refine Cl.mkX (function_c X C (ts) _ H.e (H.atC 2 rfl) (Res.bind_out (by rw [← hRp]; exact hne))) ?_ ?_
  rotate_left
  · rintro ch w9 ⟨e9, p9, q9, h9, rfl, H'⟩
    replace H := H.upd (c := rdr l pr (ts)) H' rfl (.inl rfl)
    exact ⟨e9, p9, q9, _, by rw [hRp, h9]; rfl, rfl, H.sel [2, 2, 2] rfl⟩
  rintro _ w3 ⟨⟨n1, P1, c1, ps1, B1, d1, b1⟩, ts1, h2, rfl, H'⟩
  replace H := H.updn (c := rdr l pr (ts)) (Hp.swap H') rfl (.inl rfl) (.inl rfl)
  clear H'
  rw [h2, Res.bind_ok] at hRp
  (conv => whnf)
  refine ⟨H.blk 5 rfl, ?_⟩
  refine Sm.lith (cs := FM.enc ⟨n1, P1, c1, ps1, B1, d1, b1⟩) H T.ok (fun p5 w4 H _ => ?_)
  (conv => whnf)
  refine ⟨H.blk 6 rfl, ?_⟩
  refine Sm.ap1 (enc := FM.enc) ⟨n1, P1, c1, ps1, B1, d1, b1⟩ H T.ok ?_ ?_ (fun A' c' w6 H => ?_)
  · show (0 + 1) * 64 ≤ _; omega
  · show 0 + 1 ≤ _; omega
  simp only [List.cons_append, List.nil_append] at H
  (conv => whnf)
  refine ⟨H.blk 5 rfl, ?_⟩
  repeat' ((conv => whnf); first | ((with_reducible show Gd (bs _ == _) _ _); first | refine Gd.sY (by assumption) ?_ | refine Gd.sk (by assumption) ?_ | refine Gd.sN (by assumption) ?_) | ((conv => whnf); first | (((with_reducible show Gd _ _ _); first | with_reducible refine Gd.t ?_ | with_reducible refine Gd.f ?_ | with_reducible refine Gd.dec (fun _ => ?_) (fun _ => ?_) | with_reducible refine Gd.beq (fun _ => ?_) (fun _ => ?_) | with_reducible refine Gd.bne (fun _ => ?_) (fun _ => ?_) | with_reducible refine Gd.not ?_ | refine Gd.t ?_ | refine Gd.f ?_ | with_reducible refine Gd.var (fun _ => ?_) (fun _ => ?_)) <;> first | (exfalso; omega) | skip) | with_reducible refine Sq.mk ?_ | ((with_reducible show Ld1 _ _ _); first | refine Ld1.h H ?_ | refine Ld1.rF ?_ | refine Ld1.r ?_) | ((with_reducible show Ld _ _ _ _); first | refine Ld.h H ?_ | refine Ld.r ?_) | ((with_reducible show Ix _ _ _ _ _); (first | refine Ix.h ?_ | refine Ix.ha ?_)) | (refine Al.hp H ?_; clear H; intro _ _ H _) | (refine St.h H ?_; clear H; intro _ H)) | refine Sm.strix T.ok ?_)
  have hN : ts1.length ≤ l.length + 2 := (H.atC (c := rdr l pr ts1) 3 rfl).len
  generalize hN0 : ts1.length + 1 = N at hRp
  have hNb : N ≤ 1000010 := by omega
  replace H := Hp.swap (Hp.fnsS (l := []) (H.sel [0, 1, 0, 0, 0, 0] rfl))
  refine Lp.go T.ok (σ := Nat × Option Addr × Nat × List FM × List Tk) (fun q => [(2, .pointer (some ⟨p2, 0, none⟩)), (3, .pointer (some ⟨p3, 0, none⟩)), (4, .pointer (some ⟨pr, 0, none⟩))])
    (fun q w' => R = loopF (pf (fuelOf l)) q.1 (q.2.2.2.1.map FM.e) q.2.2.2.2 ∧ q.1 + q.2.2.2.1.length ≤ N + 1 ∧ Hp nw w w' [qu FM.enc 3 47 q.2.1 q.2.2.1 q.2.2.2.1, fns q.2.2.2.1, rdr l pr q.2.2.2.2, bk p3 40 [.int .i64 0, .int .i64 0], bk p2 37 [.slice q.2.1 q.2.2.2.1.length q.2.2.1]]) (fun q _ => q.1) (N, A', c', [⟨n1, P1, c1, ps1, B1, d1, b1⟩], ts1) ⟨rfl, rfl, rfl, trivial⟩ ⟨hRp, Nat.le_refl _, H⟩ ?_
  clear H hRp hN0 hN h2 h1
  rintro ⟨f, A, c, fs, ts⟩ w5 ⟨hRp, hN, H⟩
  simp only at hRp hN H ⊢
  cases f with
  | zero => exact absurd hRp hne
  | succ f =>
  simp only [loopF] at hRp
  obtain ⟨nx, t0, r0, rfl, hnx, hr0, hb0⟩ := H.atC (c := rdr l pr ts) 2 rfl
  replace H := Hp.ofR H hb0
  clear hb0
  by_cases hk : t0.kind = k_end
  · rw [if_pos (show curK (t0 :: r0) = k_end from hk)] at hRp
    repeat' ((conv => whnf); first | ((with_reducible show Gd (bs _ == _) _ _); first | refine Gd.sY (by assumption) ?_ | refine Gd.sk (by assumption) ?_ | refine Gd.sN (by assumption) ?_) | ((conv => whnf); first | (((with_reducible show Gd _ _ _); first | with_reducible refine Gd.t ?_ | with_reducible refine Gd.f ?_ | with_reducible refine Gd.dec (fun _ => ?_) (fun _ => ?_) | with_reducible refine Gd.beq (fun _ => ?_) (fun _ => ?_) | with_reducible refine Gd.bne (fun _ => ?_) (fun _ => ?_) | with_reducible refine Gd.not ?_ | refine Gd.t ?_ | refine Gd.f ?_ | with_reducible refine Gd.var (fun _ => ?_) (fun _ => ?_)) <;> first | (exfalso; omega) | skip) | with_reducible refine Sq.mk ?_ | ((with_reducible show Ld1 _ _ _); first | refine Ld1.h H ?_ | refine Ld1.rF ?_ | refine Ld1.r ?_) | ((with_reducible show Ld _ _ _ _); first | refine Ld.h H ?_ | refine Ld.r ?_) | ((with_reducible show Ix _ _ _ _ _); (first | refine Ix.h ?_ | refine Ix.ha ?_)) | (refine Al.hp H ?_; clear H; intro _ _ H _) | (refine St.h H ?_; clear H; intro _ H)) | refine Sm.strix T.ok ?_)
    (conv => whnf)
    refine DCl.mono (parse1_ret p2 p3 _) ?_
    rintro _ _ ⟨rfl, hx⟩
    replace H := H.ext hx
    clear hx
    refine ⟨rfl, ?_⟩
    repeat' ((conv => whnf); first | (((with_reducible show Gd _ _ _); first | with_reducible refine Gd.t ?_ | with_reducible refine Gd.f ?_ | with_reducible refine Gd.dec (fun _ => ?_) (fun _ => ?_) | with_reducible refine Gd.beq (fun _ => ?_) (fun _ => ?_) | with_reducible refine Gd.bne (fun _ => ?_) (fun _ => ?_) | with_reducible refine Gd.not ?_ | refine Gd.t ?_ | refine Gd.f ?_ | with_reducible refine Gd.var (fun _ => ?_) (fun _ => ?_)) <;> first | (exfalso; omega) | skip) | with_reducible refine Sq.mk ?_ | ((with_reducible show Ld1 _ _ _); first | refine Ld1.h H ?_ | refine Ld1.rF ?_ | refine Ld1.r ?_) | ((with_reducible show Ld _ _ _ _); first | refine Ld.h H ?_ | refine Ld.r ?_) | ((with_reducible show Ix _ _ _ _ _); (first | refine Ix.h ?_ | refine Ix.ha ?_)) | (refine Al.hp H ?_; clear H; intro _ _ H _) | (refine St.h H ?_; clear H; intro _ H))
    exact .inl ⟨fs, t0 :: r0, A, c, by rw [← hR, hRp], rfl, by omega, H.sel [0, 0] rfl⟩
  rw [if_neg (show ¬ curK (t0 :: r0) = k_end from hk)] at hRp
  repeat' ((conv => whnf); first | ((with_reducible show Gd (bs _ == _) _ _); first | refine Gd.sY (by assumption) ?_ | refine Gd.sk (by assumption) ?_ | refine Gd.sN (by assumption) ?_) | ((conv => whnf); first | (((with_reducible show Gd _ _ _); first | with_reducible refine Gd.t ?_ | with_reducible refine Gd.f ?_ | with_reducible refine Gd.dec (fun _ => ?_) (fun _ => ?_) | with_reducible refine Gd.beq (fun _ => ?_) (fun _ => ?_) | with_reducible refine Gd.bne (fun _ => ?_) (fun _ => ?_) | with_reducible refine Gd.not ?_ | refine Gd.t ?_ | refine Gd.f ?_ | with_reducible refine Gd.var (fun _ => ?_) (fun _ => ?_)) <;> first | (exfalso; omega) | skip) | with_reducible refine Sq.mk ?_ | ((with_reducible show Ld1 _ _ _); first | refine Ld1.h H ?_ | refine Ld1.rF ?_ | refine Ld1.r ?_) | ((with_reducible show Ld _ _ _ _); first | refine Ld.h H ?_ | refine Ld.r ?_) | ((with_reducible show Ix _ _ _ _ _); (first | refine Ix.h ?_ | refine Ix.ha ?_)) | (refine Al.hp H ?_; clear H; intro _ _ H _) | (refine St.h H ?_; clear H; intro _ H)) | refine Sm.strix T.ok ?_)
  replace H := Hp.toR H hnx hr0
  (conv => whnf)
  refine Dr.chXk T.ok mixed [0, 1, 2, 6] [3, 4, 5, 7] (by kernel_rfl) rfl rfl (fun w' => Blk w' p2 37 [.slice A fs.length c]) (fun ch w' => ∃ e9 p9 q9 c9, R = .err e9 p9 ∧ ch = pk q9 ∧ Hp nw w w' [bk q9 59 [.int .i64 e9, .int .i64 (p9 : Int)], bk p3 40 [.int .i64 0, .int .i64 0], bk p2 37 [c9]])
    (fun ch w' h => ?_) (fun w1 eT _ => ?_)
  · obtain ⟨e9, p9, q9, c9, hR9, rfl, H⟩ := h
    (conv => whnf)
    refine DCl.mono (parse1_pan hG.eg H) ?_
    rintro _ w10 ⟨rfl, H2⟩
    replace H := H2
    repeat' ((conv => whnf); first | (((with_reducible show Gd _ _ _); first | with_reducible refine Gd.t ?_ | with_reducible refine Gd.f ?_ | with_reducible refine Gd.dec (fun _ => ?_) (fun _ => ?_) | with_reducible refine Gd.beq (fun _ => ?_) (fun _ => ?_) | with_reducible refine Gd.bne (fun _ => ?_) (fun _ => ?_) | with_reducible refine Gd.not ?_ | refine Gd.t ?_ | refine Gd.f ?_ | with_reducible refine Gd.var (fun _ => ?_) (fun _ => ?_)) <;> first | (exfalso; omega) | skip) | with_reducible refine Sq.mk ?_ | ((with_reducible show Ld1 _ _ _); first | refine Ld1.h H ?_ | refine Ld1.rF ?_ | refine Ld1.r ?_) | ((with_reducible show Ld _ _ _ _); first | refine Ld.h H ?_ | refine Ld.r ?_) | ((with_reducible show Ix _ _ _ _ _); (first | refine Ix.h ?_ | refine Ix.ha ?_)) | (refine Al.hp H ?_; clear H; intro _ _ H _) | (refine St.h H ?_; clear H; intro _ H))
    exact .inr ⟨e9, p9, by rw [← hR, hR9], rfl, H.e⟩
  replace H := H.ext eT
  repeat' ((conv => whnf); first | refine QLd1.own (fun _ hw => hw) ?_ | refine QLd.own (fun _ hw => hw) ?_)
  (conv => whnf)
  refine ⟨H.blk 4 rfl, ?_⟩
  (conv => whnf)
  refine Cl.mkX (function_c X C (t0 :: r0) _ H.e (H.atC 2 rfl) (Res.bind_out (by rw [← hRp]; exact hne))) ?_ ?_
  rotate_left
  · rintro ch w9 ⟨e9, p9, q9, h9, rfl, H'⟩
    replace H := H.upd (c := rdr l pr (t0 :: r0)) H' rfl (.inl rfl)
    exact ⟨e9, p9, q9, _, by rw [hRp, h9]; rfl, rfl, H.sel [2, 2, 2] rfl⟩
  rintro _ w3 ⟨⟨n1, P1, c1, ps1, B1, d1, b1⟩, ts1, h2, rfl, H'⟩
  replace H := H.updn (c := rdr l pr (t0 :: r0)) (Hp.swap H') rfl (.inl rfl) (.inl rfl)
  clear H'
  rw [h2, Res.bind_ok] at hRp
  (conv => whnf)
  refine ⟨H.blk 5 rfl, ?_⟩
  refine Sm.lith (cs := FM.enc ⟨n1, P1, c1, ps1, B1, d1, b1⟩) H T.ok (fun p5 w4 H _ => ?_)
  (conv => whnf)
  refine ⟨H.blk 6 rfl, ?_⟩
  refine Sm.ap1 (enc := FM.enc) ⟨n1, P1, c1, ps1, B1, d1, b1⟩ H T.ok ?_ ?_ (fun A' c' w6 H => ?_)
  · show (fs.length + 1) * 64 ≤ _; omega
  · show fs.length + 1 ≤ _; omega
  simp only [List.cons_append, List.nil_append] at H
  (conv => whnf)
  refine ⟨H.blk 5 rfl, ?_⟩
  repeat' ((conv => whnf); first | ((with_reducible show Gd (bs _ == _) _ _); first | refine Gd.sY (by assumption) ?_ | refine Gd.sk (by assumption) ?_ | refine Gd.sN (by assumption) ?_) | ((conv => whnf); first | (((with_reducible show Gd _ _ _); first | with_reducible refine Gd.t ?_ | with_reducible refine Gd.f ?_ | with_reducible refine Gd.dec (fun _ => ?_) (fun _ => ?_) | with_reducible refine Gd.beq (fun _ => ?_) (fun _ => ?_) | with_reducible refine Gd.bne (fun _ => ?_) (fun _ => ?_) | with_reducible refine Gd.not ?_ | refine Gd.t ?_ | refine Gd.f ?_ | with_reducible refine Gd.var (fun _ => ?_) (fun _ => ?_)) <;> first | (exfalso; omega) | skip) | with_reducible refine Sq.mk ?_ | ((with_reducible show Ld1 _ _ _); first | refine Ld1.h H ?_ | refine Ld1.rF ?_ | refine Ld1.r ?_) | ((with_reducible show Ld _ _ _ _); first | refine Ld.h H ?_ | refine Ld.r ?_) | ((with_reducible show Ix _ _ _ _ _); (first | refine Ix.h ?_ | refine Ix.ha ?_)) | (refine Al.hp H ?_; clear H; intro _ _ H _) | (refine St.h H ?_; clear H; intro _ H)) | refine Sm.strix T.ok ?_)
  refine ⟨(f, A', c', fs ++ [⟨n1, P1, c1, ps1, B1, d1, b1⟩], ts1), ⟨rfl, rfl, rfl, trivial⟩, rfl, ⟨?_, ?_, ?_⟩, Nat.lt_succ_self f⟩
  · rw [hRp, List.map_append]; rfl
  · simp only [List.length_append, List.length_cons, List.length_nil]; omega
  · have hl1 : (fs ++ [(⟨n1, P1, c1, ps1, B1, d1, b1⟩ : FM)]).length = fs.length + 1 := by simp
    simp only [hl1]
    exact Hp.swap (Hp.fnsS (H.sel [0, 1, 0, 0, 0, 0] rfl))
end Go.Proofs.YtfnjodpehomgfaaDoor
namespace Go.Proofs.YtfnjodpehomgfaaDoor
open Go Go.Sh Go.Tx
set_option linter.unusedVariables false
set_option linter.unusedSimpArgs false
set_option linter.unusedSectionVars false
attribute [local irreducible] Blk Ext RdS
mutual
def sameE : Ex → Ex → Bool
  | .mk k o n a b l, .mk k2 o2 n2 a2 b2 l2 => k == k2 && o == o2 && n == n2 && a == a2 && b == b2 && sameL l l2
def sameL : List Ex → List Ex → Bool
  | [], [] => true
  | x :: r, y :: s => sameE x y && sameL r s
  | [], _ :: _ => false
  | _ :: _, [] => false
end
theorem sameL_len : ∀ {l m : List Ex}, sameL l m = true → l.length = m.length
  | [], [], _ => rfl
  | x :: r, y :: s, h => by
    simp only [sameL, Bool.and_eq_true] at h
    simp [sameL_len h.2]
  | [], _ :: _, h => by simp [sameL] at h
  | _ :: _, [], h => by simp [sameL] at h
theorem sameL_ne {l m : List Ex} (h : l.length ≠ m.length) : sameL l m = false := by
  cases hx : sameL l m with
  | false => rfl
  | true => exact absurd (sameL_len hx) h
mutual
def ET.sz : ET → Nat
  | .mk _ _ _ _ _ _ _ ks => ET.szs ks + 1
def ET.szs : List ET → Nat
  | [] => 0
  | x :: r => ET.sz x + ET.szs r
end
theorem ET.sz_mem {x : ET} : ∀ {l : List ET}, x ∈ l → ET.sz x ≤ ET.szs l
  | [], h => by simp at h
  | y :: r, h => by
    simp only [ET.szs]
    rcases List.mem_cons.1 h with rfl | h
    · omega
    · have := ET.sz_mem h; omega
theorem ET.oks_mem {w : World} {x : ET} : ∀ {l : List ET}, x ∈ l → ET.Oks w l → ET.Ok w x
  | [], h, _ => by simp at h
  | y :: r, h, hk => by
    rcases List.mem_cons.1 h with rfl | h
    · exact hk.1
    · exact ET.oks_mem h hk.2
theorem ET.es_drop : ∀ (l : List ET) (i : Nat), ET.es (l.drop i) = (ET.es l).drop i
  | l, 0 => by simp
  | [], i + 1 => by simp [ET.es]
  | x :: r, i + 1 => by simp [ET.es, ET.es_drop r i]
theorem ET.Ok.ext {w w' : World} {t : ET} (h : ET.Ok w t) (e : Ext w w') : ET.Ok w' t := ET.Ok.loc e.size h fun b hb => by
  have e2 := e
  unfold Ext at e2
  exact Go.RowKit.Below.block e2 b (ET.Ok.lt h b hb)
set_option maxHeartbeats 2000000 in
theorem sameExpr_c : ∀ (n : Nat) (x y : ET) (w : World), ET.sz x ≤ n → ET.Ok w x → ET.Ok w y → Cl Tryd.prog 9 #[x.v, y.v] w (fun v w' => v = .bool (sameE x.e y.e) ∧ Ext w w') (fun _ _ => False)
  | 0, x, y, w, hn, _, _ => by cases x; simp [ET.sz] at hn
  | n + 1, .mk k1 o1 n1 a1 b1 A1 c1 l1, .mk k2 o2 n2 a2 b2 A2 c2 l2, w, hn, hx, hy => by
    refine calls_ex (args := [.agg #[.int .i64 k1, .int .i64 o1, .int .i64 n1, .string (bs a1), .string (bs b1), .slice A1 l1.length c1], .agg #[.int .i64 k2, .int .i64 o2, .int .i64 n2, .string (bs a2), .string (bs b2), .slice A2 l2.length c2]]) T.ok Tryd.func9 rfl rfl rfl rfl ?_
    have H := Hp.begin nw w
    refine Sq.mk ?_
    ((conv => whnf); refine Al.hp H ?_; clear H; intro p2 _ H _)
    ((conv => whnf); refine Al.hp H ?_; clear H; intro p3 _ H _)
    repeat' ((conv => whnf); first | (((with_reducible show Gd _ _ _); first | with_reducible refine Gd.t ?_ | with_reducible refine Gd.f ?_ | with_reducible refine Gd.dec (fun _ => ?_) (fun _ => ?_) | with_reducible refine Gd.beq (fun _ => ?_) (fun _ => ?_) | with_reducible refine Gd.bne (fun _ => ?_) (fun _ => ?_) | with_reducible refine Gd.not ?_ | refine Gd.t ?_ | refine Gd.f ?_ | with_reducible refine Gd.var (fun _ => ?_) (fun _ => ?_)) <;> first | (exfalso; omega) | skip) | with_reducible refine Sq.mk ?_ | ((with_reducible show Ld1 _ _ _); first | refine Ld1.h H ?_ | refine Ld1.rF ?_ | refine Ld1.r ?_) | ((with_reducible show Ld _ _ _ _); first | refine Ld.h H ?_ | refine Ld.r ?_) | ((with_reducible show Ix _ _ _ _ _); (first | refine Ix.h ?_ | refine Ix.ha ?_)) | (refine Al.hp H ?_; clear H; intro _ _ H _) | (refine St.h H ?_; clear H; intro _ H))
    · rename_i h
      repeat' ((conv => whnf); first | (((with_reducible show Gd _ _ _); first | with_reducible refine Gd.t ?_ | with_reducible refine Gd.f ?_ | with_reducible refine Gd.dec (fun _ => ?_) (fun _ => ?_) | with_reducible refine Gd.beq (fun _ => ?_) (fun _ => ?_) | with_reducible refine Gd.bne (fun _ => ?_) (fun _ => ?_) | with_reducible refine Gd.not ?_ | refine Gd.t ?_ | refine Gd.f ?_ | with_reducible refine Gd.var (fun _ => ?_) (fun _ => ?_)) <;> first | (exfalso; omega) | skip) | with_reducible refine Sq.mk ?_ | ((with_reducible show Ld1 _ _ _); first | refine Ld1.h H ?_ | refine Ld1.rF ?_ | refine Ld1.r ?_) | ((with_reducible show Ld _ _ _ _); first | refine Ld.h H ?_ | refine Ld.r ?_) | ((with_reducible show Ix _ _ _ _ _); (first | refine Ix.h ?_ | refine Ix.ha ?_)) | (refine Al.hp H ?_; clear H; intro _ _ H _) | (refine St.h H ?_; clear H; intro _ H))
      exact ⟨b_eq (by simp [ET.e, sameE, h]), H.e⟩
    · rename_i h
      repeat' ((conv => whnf); first | (((with_reducible show Gd _ _ _); first | with_reducible refine Gd.t ?_ | with_reducible refine Gd.f ?_ | with_reducible refine Gd.dec (fun _ => ?_) (fun _ => ?_) | with_reducible refine Gd.beq (fun _ => ?_) (fun _ => ?_) | with_reducible refine Gd.bne (fun _ => ?_) (fun _ => ?_) | with_reducible refine Gd.not ?_ | refine Gd.t ?_ | refine Gd.f ?_ | with_reducible refine Gd.var (fun _ => ?_) (fun _ => ?_)) <;> first | (exfalso; omega) | skip) | with_reducible refine Sq.mk ?_ | ((with_reducible show Ld1 _ _ _); first | refine Ld1.h H ?_ | refine Ld1.rF ?_ | refine Ld1.r ?_) | ((with_reducible show Ld _ _ _ _); first | refine Ld.h H ?_ | refine Ld.r ?_) | ((with_reducible show Ix _ _ _ _ _); (first | refine Ix.h ?_ | refine Ix.ha ?_)) | (refine Al.hp H ?_; clear H; intro _ _ H _) | (refine St.h H ?_; clear H; intro _ H))
      exact ⟨b_eq (by simp [ET.e, sameE, h]), H.e⟩
    · rename_i h
      repeat' ((conv => whnf); first | (((with_reducible show Gd _ _ _); first | with_reducible refine Gd.t ?_ | with_reducible refine Gd.f ?_ | with_reducible refine Gd.dec (fun _ => ?_) (fun _ => ?_) | with_reducible refine Gd.beq (fun _ => ?_) (fun _ => ?_) | with_reducible refine Gd.bne (fun _ => ?_) (fun _ => ?_) | with_reducible refine Gd.not ?_ | refine Gd.t ?_ | refine Gd.f ?_ | with_reducible refine Gd.var (fun _ => ?_) (fun _ => ?_)) <;> first | (exfalso; omega) | skip) | with_reducible refine Sq.mk ?_ | ((with_reducible show Ld1 _ _ _); first | refine Ld1.h H ?_ | refine Ld1.rF ?_ | refine Ld1.r ?_) | ((with_reducible show Ld _ _ _ _); first | refine Ld.h H ?_ | refine Ld.r ?_) | ((with_reducible show Ix _ _ _ _ _); (first | refine Ix.h ?_ | refine Ix.ha ?_)) | (refine Al.hp H ?_; clear H; intro _ _ H _) | (refine St.h H ?_; clear H; intro _ H))
      exact ⟨b_eq (by simp [ET.e, sameE, h]), H.e⟩
    · rename_i h
      repeat' ((conv => whnf); first | (((with_reducible show Gd _ _ _); first | with_reducible refine Gd.t ?_ | with_reducible refine Gd.f ?_ | with_reducible refine Gd.dec (fun _ => ?_) (fun _ => ?_) | with_reducible refine Gd.beq (fun _ => ?_) (fun _ => ?_) | with_reducible refine Gd.bne (fun _ => ?_) (fun _ => ?_) | with_reducible refine Gd.not ?_ | refine Gd.t ?_ | refine Gd.f ?_ | with_reducible refine Gd.var (fun _ => ?_) (fun _ => ?_)) <;> first | (exfalso; omega) | skip) | with_reducible refine Sq.mk ?_ | ((with_reducible show Ld1 _ _ _); first | refine Ld1.h H ?_ | refine Ld1.rF ?_ | refine Ld1.r ?_) | ((with_reducible show Ld _ _ _ _); first | refine Ld.h H ?_ | refine Ld.r ?_) | ((with_reducible show Ix _ _ _ _ _); (first | refine Ix.h ?_ | refine Ix.ha ?_)) | (refine Al.hp H ?_; clear H; intro _ _ H _) | (refine St.h H ?_; clear H; intro _ H))
      exact ⟨b_eq (by simp only [ET.e, sameE]; rw [sameL_ne (by rw [ET.es_len, ET.es_len]; omega)]; simp), H.e⟩
    · rename_i h1 h2 h3 h4 h5 h6
      rw [bs_eq] at h4 h5
      have h4 := of_decide_eq_true h4
      have h5 := of_decide_eq_true h5
      have hl : l1.length = l2.length := by omega
      have hE : sameE (ET.e (.mk k1 o1 n1 a1 b1 A1 c1 l1)) (ET.e (.mk k2 o2 n2 a2 b2 A2 c2 l2)) = sameL (ET.es l1) (ET.es l2) := by simp [ET.e, sameE, h1, h2, h3, h4, h5]
      rw [hE]
      clear h1 h2 h3 h4 h5 h6 hE
      have hq1 := hx.1.rd
      have hq2 := hy.1.rd
      have hlb : l1.length ≤ 2000000 := hx.2.2
      repeat' ((conv => whnf); first | (((with_reducible show Gd _ _ _); first | with_reducible refine Gd.t ?_ | with_reducible refine Gd.f ?_ | with_reducible refine Gd.dec (fun _ => ?_) (fun _ => ?_) | with_reducible refine Gd.beq (fun _ => ?_) (fun _ => ?_) | with_reducible refine Gd.bne (fun _ => ?_) (fun _ => ?_) | with_reducible refine Gd.not ?_ | refine Gd.t ?_ | refine Gd.f ?_ | with_reducible refine Gd.var (fun _ => ?_) (fun _ => ?_)) <;> first | (exfalso; omega) | skip) | with_reducible refine Sq.mk ?_ | ((with_reducible show Ld1 _ _ _); first | refine Ld1.h H ?_ | refine Ld1.rF ?_ | refine Ld1.r ?_) | ((with_reducible show Ld _ _ _ _); first | refine Ld.h H ?_ | refine Ld.r ?_) | ((with_reducible show Ix _ _ _ _ _); (first | refine Ix.h ?_ | refine Ix.ha ?_)) | (refine Al.hp H ?_; clear H; intro _ _ H _) | (refine St.h H ?_; clear H; intro _ H))
      refine Lp.g0 T.ok (σ := Nat) (fun i => [(5, .int .i64 (i : Int)), (2, .pointer (some ⟨p2, 0, none⟩)), (3, .pointer (some ⟨p3, 0, none⟩))])
        (fun i w' => i ≤ l1.length ∧ sameL (ET.es l1) (ET.es l2) = sameL ((ET.es l1).drop i) ((ET.es l2).drop i) ∧ Hp nw w w' [bk p3 27 [.int .i64 k2, .int .i64 o2, .int .i64 n2, .string (bs a2), .string (bs b2), .slice A2 l2.length c2], bk p2 27 [.int .i64 k1, .int .i64 o1, .int .i64 n1, .string (bs a1), .string (bs b1), .slice A1 l1.length c1]]) (fun i _ => l1.length - i) 0 rfl ⟨rfl, rfl, rfl, trivial⟩ ⟨Nat.zero_le _, rfl, H⟩ ?_
      clear H
      rintro i w5 ⟨hi, hs, H⟩
      by_cases hlt : i < l1.length
      · obtain ⟨u, hu⟩ : ∃ u, l1[i]? = some u := ⟨_, List.getElem?_eq_getElem hlt⟩
        obtain ⟨v, hv⟩ : ∃ v, l2[i]? = some v := ⟨_, List.getElem?_eq_getElem (show i < l2.length by omega)⟩
        have hr1 := RdS.from H.e hq1
        have hr2 := RdS.from H.e hq2
        have hlt2 : i < l2.length := by omega
        have hd1 : (ET.es l1).drop i = ET.e u :: (ET.es l1).drop (i + 1) := by
          obtain ⟨g1, g2⟩ := List.getElem?_eq_some_iff.1 hu
          rw [← ET.es_drop, List.drop_eq_getElem_cons g1, g2, ET.es, ET.es_drop]
        have hd2 : (ET.es l2).drop i = ET.e v :: (ET.es l2).drop (i + 1) := by
          obtain ⟨g1, g2⟩ := List.getElem?_eq_some_iff.1 hv
          rw [← ET.es_drop, List.drop_eq_getElem_cons g1, g2, ET.es, ET.es_drop]
        rw [hd1, hd2, sameL] at hs
        repeat' ((conv => whnf); first | (((with_reducible show Gd _ _ _); first | with_reducible refine Gd.t ?_ | with_reducible refine Gd.f ?_ | with_reducible refine Gd.dec (fun _ => ?_) (fun _ => ?_) | with_reducible refine Gd.beq (fun _ => ?_) (fun _ => ?_) | with_reducible refine Gd.bne (fun _ => ?_) (fun _ => ?_) | with_reducible refine Gd.not ?_ | refine Gd.t ?_ | refine Gd.f ?_ | with_reducible refine Gd.var (fun _ => ?_) (fun _ => ?_)) <;> first | (exfalso; omega) | skip) | with_reducible refine Sq.mk ?_ | ((with_reducible show Ld1 _ _ _); first | refine Ld1.h H ?_ | refine Ld1.rF ?_ | refine Ld1.r ?_) | ((with_reducible show Ld _ _ _ _); first | refine Ld.h H ?_ | refine Ld.r ?_) | ((with_reducible show Ix _ _ _ _ _); (first | refine Ix.h ?_ | refine Ix.ha ?_)) | (refine Al.hp H ?_; clear H; intro _ _ H _) | (refine St.h H ?_; clear H; intro _ H))
        have hzn : ET.sz u ≤ n := by
          have := ET.sz_mem (List.mem_of_getElem? hu)
          simp only [ET.sz] at hn
          omega
        ((conv => whnf); refine Dr.tail T.ok mixed 10 (by kernel_rfl) (fun W wT hW eT _ => ?_); (repeat' ((conv => whnf); first | (((with_reducible show Gd _ _ _); first | with_reducible refine Gd.t ?_ | with_reducible refine Gd.f ?_ | with_reducible refine Gd.dec (fun _ => ?_) (fun _ => ?_) | with_reducible refine Gd.beq (fun _ => ?_) (fun _ => ?_) | with_reducible refine Gd.bne (fun _ => ?_) (fun _ => ?_) | with_reducible refine Gd.not ?_ | refine Gd.t ?_ | refine Gd.f ?_ | with_reducible refine Gd.var (fun _ => ?_) (fun _ => ?_)) <;> first | (exfalso; omega) | skip) | ((with_reducible show QLd1 _ _ _); first | refine QLd1.h hW H ?_ | refine QLd1.rF hW ?_ | refine QLd1.r hW ?_) | ((with_reducible show QLd _ _ _ _); first | refine QLd.h hW H ?_ | refine QLd.r hW ?_) | ((with_reducible show Ix _ _ _ _ _); (first | refine Ix.h ?_ | refine Ix.ha ?_)))); replace H := H.ext eT; clear hW eT)
        (((conv => whnf); refine Cl.mk (sameExpr_c n u v _ hzn ((ET.oks_mem (List.mem_of_getElem? hu) hx.2.1).ext H.e) ((ET.oks_mem (List.mem_of_getElem? hv) hy.2.1).ext H.e)) ?_); rintro _ _ ⟨rfl, hx⟩; replace H := H.ext hx; clear hx)
        cases hb : sameE u.e v.e with
        | true =>
          rw [hb, Bool.true_and] at hs
          repeat' ((conv => whnf); first | (((with_reducible show Gd _ _ _); first | with_reducible refine Gd.t ?_ | with_reducible refine Gd.f ?_ | with_reducible refine Gd.dec (fun _ => ?_) (fun _ => ?_) | with_reducible refine Gd.beq (fun _ => ?_) (fun _ => ?_) | with_reducible refine Gd.bne (fun _ => ?_) (fun _ => ?_) | with_reducible refine Gd.not ?_ | refine Gd.t ?_ | refine Gd.f ?_ | with_reducible refine Gd.var (fun _ => ?_) (fun _ => ?_)) <;> first | (exfalso; omega) | skip) | with_reducible refine Sq.mk ?_ | ((with_reducible show Ld1 _ _ _); first | refine Ld1.h H ?_ | refine Ld1.rF ?_ | refine Ld1.r ?_) | ((with_reducible show Ld _ _ _ _); first | refine Ld.h H ?_ | refine Ld.r ?_) | ((with_reducible show Ix _ _ _ _ _); (first | refine Ix.h ?_ | refine Ix.ha ?_)) | (refine Al.hp H ?_; clear H; intro _ _ H _) | (refine St.h H ?_; clear H; intro _ H))
          exact ⟨i + 1, ⟨at_int (m := ((i + 1 : Nat) : Int)) rfl (w64 (by simp) (by omega) (by omega)), rfl, rfl, trivial⟩, rfl, ⟨by omega, hs, H⟩, by omega⟩
        | false =>
          rw [hb, Bool.false_and] at hs
          repeat' ((conv => whnf); first | (((with_reducible show Gd _ _ _); first | with_reducible refine Gd.t ?_ | with_reducible refine Gd.f ?_ | with_reducible refine Gd.dec (fun _ => ?_) (fun _ => ?_) | with_reducible refine Gd.beq (fun _ => ?_) (fun _ => ?_) | with_reducible refine Gd.bne (fun _ => ?_) (fun _ => ?_) | with_reducible refine Gd.not ?_ | refine Gd.t ?_ | refine Gd.f ?_ | with_reducible refine Gd.var (fun _ => ?_) (fun _ => ?_)) <;> first | (exfalso; omega) | skip) | with_reducible refine Sq.mk ?_ | ((with_reducible show Ld1 _ _ _); first | refine Ld1.h H ?_ | refine Ld1.rF ?_ | refine Ld1.r ?_) | ((with_reducible show Ld _ _ _ _); first | refine Ld.h H ?_ | refine Ld.r ?_) | ((with_reducible show Ix _ _ _ _ _); (first | refine Ix.h ?_ | refine Ix.ha ?_)) | (refine Al.hp H ?_; clear H; intro _ _ H _) | (refine St.h H ?_; clear H; intro _ H))
          exact ⟨b_eq hs.symm, H.e⟩
      · have h1 : (ET.es l1).drop i = [] := List.drop_of_length_le (by rw [ET.es_len]; omega)
        have h2 : (ET.es l2).drop i = [] := List.drop_of_length_le (by rw [ET.es_len]; omega)
        rw [h1, h2] at hs
        repeat' ((conv => whnf); first | (((with_reducible show Gd _ _ _); first | with_reducible refine Gd.t ?_ | with_reducible refine Gd.f ?_ | with_reducible refine Gd.dec (fun _ => ?_) (fun _ => ?_) | with_reducible refine Gd.beq (fun _ => ?_) (fun _ => ?_) | with_reducible refine Gd.bne (fun _ => ?_) (fun _ => ?_) | with_reducible refine Gd.not ?_ | refine Gd.t ?_ | refine Gd.f ?_ | with_reducible refine Gd.var (fun _ => ?_) (fun _ => ?_)) <;> first | (exfalso; omega) | skip) | with_reducible refine Sq.mk ?_ | ((with_reducible show Ld1 _ _ _); first | refine Ld1.h H ?_ | refine Ld1.rF ?_ | refine Ld1.r ?_) | ((with_reducible show Ld _ _ _ _); first | refine Ld.h H ?_ | refine Ld.r ?_) | ((with_reducible show Ix _ _ _ _ _); (first | refine Ix.h ?_ | refine Ix.ha ?_)) | (refine Al.hp H ?_; clear H; intro _ _ H _) | (refine St.h H ?_; clear H; intro _ H))
        all_goals first | (exfalso; omega) | skip
        exact ⟨b_eq hs.symm, H.e⟩
    · rename_i h
      rw [bs_eq] at h
      have h := of_decide_eq_false h
      repeat' ((conv => whnf); first | (((with_reducible show Gd _ _ _); first | with_reducible refine Gd.t ?_ | with_reducible refine Gd.f ?_ | with_reducible refine Gd.dec (fun _ => ?_) (fun _ => ?_) | with_reducible refine Gd.beq (fun _ => ?_) (fun _ => ?_) | with_reducible refine Gd.bne (fun _ => ?_) (fun _ => ?_) | with_reducible refine Gd.not ?_ | refine Gd.t ?_ | refine Gd.f ?_ | with_reducible refine Gd.var (fun _ => ?_) (fun _ => ?_)) <;> first | (exfalso; omega) | skip) | with_reducible refine Sq.mk ?_ | ((with_reducible show Ld1 _ _ _); first | refine Ld1.h H ?_ | refine Ld1.rF ?_ | refine Ld1.r ?_) | ((with_reducible show Ld _ _ _ _); first | refine Ld.h H ?_ | refine Ld.r ?_) | ((with_reducible show Ix _ _ _ _ _); (first | refine Ix.h ?_ | refine Ix.ha ?_)) | (refine Al.hp H ?_; clear H; intro _ _ H _) | (refine St.h H ?_; clear H; intro _ H))
      exact ⟨b_eq (by simp [ET.e, sameE, h]), H.e⟩
    · rename_i h
      rw [bs_eq] at h
      have h := of_decide_eq_false h
      repeat' ((conv => whnf); first | (((with_reducible show Gd _ _ _); first | with_reducible refine Gd.t ?_ | with_reducible refine Gd.f ?_ | with_reducible refine Gd.dec (fun _ => ?_) (fun _ => ?_) | with_reducible refine Gd.beq (fun _ => ?_) (fun _ => ?_) | with_reducible refine Gd.bne (fun _ => ?_) (fun _ => ?_) | with_reducible refine Gd.not ?_ | refine Gd.t ?_ | refine Gd.f ?_ | with_reducible refine Gd.var (fun _ => ?_) (fun _ => ?_)) <;> first | (exfalso; omega) | skip) | with_reducible refine Sq.mk ?_ | ((with_reducible show Ld1 _ _ _); first | refine Ld1.h H ?_ | refine Ld1.rF ?_ | refine Ld1.r ?_) | ((with_reducible show Ld _ _ _ _); first | refine Ld.h H ?_ | refine Ld.r ?_) | ((with_reducible show Ix _ _ _ _ _); (first | refine Ix.h ?_ | refine Ix.ha ?_)) | (refine Al.hp H ?_; clear H; intro _ _ H _) | (refine St.h H ?_; clear H; intro _ H))
      exact ⟨b_eq (by simp [ET.e, sameE, h]), H.e⟩
end Go.Proofs.YtfnjodpehomgfaaDoor
namespace Go.Proofs.YtfnjodpehomgfaaDoor
open Go Go.Sh Go.Tx
set_option linter.unusedVariables false
set_option linter.unusedSimpArgs false
set_option linter.unusedSectionVars false
theorem Ld.rsF {α : Type} {enc : α → List Value} {sz i o n : Nat} {w : World} {A : Option Addr} {l : List α} {x : α} {k : List Value → Prop} (h : RdS enc sz w A l) (hx : l[i]? = some x) (hn : (((enc x).drop o).take n).length = n) (hk : k (((enc x).drop o).take n)) : Ld w (pAdd ((gA A).add (i * sz)) o) n k := by
  obtain ⟨vs, h1, h2, h3⟩ := Rd.at_ h i x hx
  unfold Fl at h2
  subst h2
  refine ⟨_, hn, fun j v hv => ?_, hk⟩
  have hj : j < n := by
    have := (List.getElem?_eq_some_iff.1 hv).1
    omega
  rw [List.getElem?_take_of_lt hj, List.getElem?_drop] at hv
  have := h3 (o + j) v hv
  rw [pAdd_add, add_add]
  rw [Nat.add_assoc]
  exact this
attribute [local irreducible] Blk Ext RdS
theorem fm_one : ∀ {m : List FM} {y : Fnc}, m.map FM.e = [y] → ∃ f, m = [f] ∧ FM.e f = y
  | [], _, h => by simp at h
  | [f], _, h => ⟨f, rfl, by simpa using h⟩
  | _ :: _ :: _, _, h => by simp at h
theorem sm_one : ∀ {m : List SM} {y : Go.Tx.St}, SM.es m = [y] → ∃ f, m = [f] ∧ SM.e f = y
  | [], _, h => by simp [SM.es] at h
  | [f], _, h => ⟨f, rfl, by simpa [SM.es] using h⟩
  | _ :: _ :: _, _, h => by simp [SM.es] at h
def preR : Bs := [102, 110, 32, 102, 40, 41, 32, 123, 32, 114, 101, 116, 117, 114, 110, 32]
def postR : Bs := [59, 32, 125]
def RetIs (s : Bs) (e : Ex) : Prop := ∃ nm ps nm2 b els ts, PR (preR ++ s ++ postR) = .ok [⟨nm, ps, [.mk 7 nm2 e b els]⟩] ts
set_option maxHeartbeats 2000000 in
theorem returned_c (s : Bs) (e : Ex) (w : World) (hG : Rg w) (hl : s.length ≤ 900000) (h : RetIs s e) :
    Cl Tryd.prog 8 #[.string (bs s)] w (fun v w' => ∃ t, ET.e t = e ∧ v = .tuple #[t.v, .bool true] ∧ Hp nw w w' [trs [t]]) (fun _ _ => False) := by
  obtain ⟨nm, ps, nm2, b, els, ts, h⟩ := h
  refine calls_ex (args := [.string (bs s)]) T.ok Tryd.func8 rfl rfl rfl rfl ?_
  have H := Hp.begin nw w
  refine Sq.mk ?_
  ((conv => whnf); refine Al.hp H ?_; clear H; intro p2 _ H _)
  repeat' ((conv => whnf); first | (((with_reducible show Gd _ _ _); first | with_reducible refine Gd.t ?_ | with_reducible refine Gd.f ?_ | with_reducible refine Gd.dec (fun _ => ?_) (fun _ => ?_) | with_reducible refine Gd.beq (fun _ => ?_) (fun _ => ?_) | with_reducible refine Gd.bne (fun _ => ?_) (fun _ => ?_) | with_reducible refine Gd.not ?_ | refine Gd.t ?_ | refine Gd.f ?_ | with_reducible refine Gd.var (fun _ => ?_) (fun _ => ?_)) <;> first | (exfalso; omega) | skip) | with_reducible refine Sq.mk ?_ | ((with_reducible show Ld1 _ _ _); first | refine Ld1.h H ?_ | refine Ld1.rF ?_ | refine Ld1.r ?_) | ((with_reducible show Ld _ _ _ _); first | refine Ld.h H ?_ | refine Ld.r ?_) | ((with_reducible show Ix _ _ _ _ _); (first | refine Ix.h ?_ | refine Ix.ha ?_)) | (refine St.h H ?_; clear H; intro _ H))
  refine Sm.cat (l := preR) (m := s) (by simp [preR]; omega) ?_
  repeat' ((conv => whnf); first | (((with_reducible show Gd _ _ _); first | with_reducible refine Gd.t ?_ | with_reducible refine Gd.f ?_ | with_reducible refine Gd.dec (fun _ => ?_) (fun _ => ?_) | with_reducible refine Gd.beq (fun _ => ?_) (fun _ => ?_) | with_reducible refine Gd.bne (fun _ => ?_) (fun _ => ?_) | with_reducible refine Gd.not ?_ | refine Gd.t ?_ | refine Gd.f ?_ | with_reducible refine Gd.var (fun _ => ?_) (fun _ => ?_)) <;> first | (exfalso; omega) | skip) | with_reducible refine Sq.mk ?_ | ((with_reducible show Ld1 _ _ _); first | refine Ld1.h H ?_ | refine Ld1.rF ?_ | refine Ld1.r ?_) | ((with_reducible show Ld _ _ _ _); first | refine Ld.h H ?_ | refine Ld.r ?_) | ((with_reducible show Ix _ _ _ _ _); (first | refine Ix.h ?_ | refine Ix.ha ?_)) | (refine St.h H ?_; clear H; intro _ H))
  refine Sm.cat (l := preR ++ s) (m := postR) (by simp [preR, postR]; omega) ?_
  repeat' ((conv => whnf); first | (((with_reducible show Gd _ _ _); first | with_reducible refine Gd.t ?_ | with_reducible refine Gd.f ?_ | with_reducible refine Gd.dec (fun _ => ?_) (fun _ => ?_) | with_reducible refine Gd.beq (fun _ => ?_) (fun _ => ?_) | with_reducible refine Gd.bne (fun _ => ?_) (fun _ => ?_) | with_reducible refine Gd.not ?_ | refine Gd.t ?_ | refine Gd.f ?_ | with_reducible refine Gd.var (fun _ => ?_) (fun _ => ?_)) <;> first | (exfalso; omega) | skip) | with_reducible refine Sq.mk ?_ | ((with_reducible show Ld1 _ _ _); first | refine Ld1.h H ?_ | refine Ld1.rF ?_ | refine Ld1.r ?_) | ((with_reducible show Ld _ _ _ _); first | refine Ld.h H ?_ | refine Ld.r ?_) | ((with_reducible show Ix _ _ _ _ _); (first | refine Ix.h ?_ | refine Ix.ha ?_)) | (refine St.h H ?_; clear H; intro _ H))
  ((conv => whnf); refine Cl.mk (Parse_c (preR ++ s ++ postR) _ (hG.ext H.e)) ?_)
  intro v w2 hok
  rcases hok with ⟨m, ts2, A, c, hpr, rfl, hml, H'⟩ | ⟨e9, p9, hpr, rfl, ex⟩
  rotate_left
  · rw [h] at hpr; simp at hpr
  rw [h] at hpr
  have hm : m.map FM.e = [⟨nm, ps, [.mk 7 nm2 e b els]⟩] := by injection hpr with h1 h2; exact h1.symm
  obtain ⟨f, rfl, hf⟩ := fm_one hm
  obtain ⟨n1, P1, c1, ps1, B1, d1, b1⟩ := f
  simp only [FM.e, Fnc.mk.injEq] at hf
  obtain ⟨_, _, hb⟩ := hf
  obtain ⟨st, rfl, hst⟩ := sm_one hb
  obtain ⟨kd, nm3, ee, B2, cb2, bo, E2, ce2, el⟩ := st
  simp only [SM.e, St.mk.injEq] at hst
  obtain ⟨rfl, _, he, _, _⟩ := hst
  replace H := H.fr0L H' (fun c hc => by simp only [List.mem_cons, List.not_mem_nil, or_false] at hc; rcases hc with rfl | rfl <;> exact .inl rfl)
  clear H'
  simp only [List.cons_append, List.nil_append] at H
  obtain ⟨k1, o1, n2, a1, b2, A1, c2, l1⟩ := ee
  repeat' ((conv => whnf); first | ((with_reducible show Gd (bs _ == _) _ _); first | refine Gd.sY (by assumption) ?_ | refine Gd.sk (by assumption) ?_ | refine Gd.sN (by assumption) ?_) | ((conv => whnf); first | (((with_reducible show Gd _ _ _); first | with_reducible refine Gd.t ?_ | with_reducible refine Gd.f ?_ | with_reducible refine Gd.dec (fun _ => ?_) (fun _ => ?_) | with_reducible refine Gd.beq (fun _ => ?_) (fun _ => ?_) | with_reducible refine Gd.bne (fun _ => ?_) (fun _ => ?_) | with_reducible refine Gd.not ?_ | refine Gd.t ?_ | refine Gd.f ?_ | with_reducible refine Gd.var (fun _ => ?_) (fun _ => ?_)) <;> first | (exfalso; omega) | skip) | with_reducible refine Sq.mk ?_ | ((with_reducible show Ld1 _ _ _); first | refine Ld1.h H ?_ | refine Ld1.rF ?_ | refine Ld1.r ?_) | ((with_reducible show Ld _ _ _ _); first | refine Ld.h H ?_ | refine Ld.r ?_) | ((with_reducible show Ix _ _ _ _ _); (first | refine Ix.h ?_ | refine Ix.ha ?_)) | (refine St.h H ?_; clear H; intro _ H)) | refine Sm.strix T.ok ?_)
  ((conv => whnf); refine Al.hp H ?_; clear H; intro p4 _ H _)
  ((conv => whnf); refine Al.hp H ?_; clear H; intro p5 _ H _)
  ((conv => whnf); first | (((with_reducible show Gd _ _ _); first | with_reducible refine Gd.t ?_ | with_reducible refine Gd.f ?_ | with_reducible refine Gd.dec (fun _ => ?_) (fun _ => ?_) | with_reducible refine Gd.beq (fun _ => ?_) (fun _ => ?_) | with_reducible refine Gd.bne (fun _ => ?_) (fun _ => ?_) | with_reducible refine Gd.not ?_ | refine Gd.t ?_ | refine Gd.f ?_ | with_reducible refine Gd.var (fun _ => ?_) (fun _ => ?_)) <;> first | (exfalso; omega) | skip) | with_reducible refine Sq.mk ?_ | ((with_reducible show Ld1 _ _ _); first | refine Ld1.h H ?_ | refine Ld1.rF ?_ | refine Ld1.r ?_) | ((with_reducible show Ld _ _ _ _); first | refine Ld.h H ?_ | refine Ld.r ?_) | ((with_reducible show Ix _ _ _ _ _); (first | refine Ix.h ?_ | refine Ix.ha ?_)) | (refine St.h H ?_; clear H; intro _ H))
  ((conv => whnf); first | (((with_reducible show Gd _ _ _); first | with_reducible refine Gd.t ?_ | with_reducible refine Gd.f ?_ | with_reducible refine Gd.dec (fun _ => ?_) (fun _ => ?_) | with_reducible refine Gd.beq (fun _ => ?_) (fun _ => ?_) | with_reducible refine Gd.bne (fun _ => ?_) (fun _ => ?_) | with_reducible refine Gd.not ?_ | refine Gd.t ?_ | refine Gd.f ?_ | with_reducible refine Gd.var (fun _ => ?_) (fun _ => ?_)) <;> first | (exfalso; omega) | skip) | with_reducible refine Sq.mk ?_ | ((with_reducible show Ld1 _ _ _); first | refine Ld1.h H ?_ | refine Ld1.rF ?_ | refine Ld1.r ?_) | ((with_reducible show Ld _ _ _ _); first | refine Ld.h H ?_ | refine Ld.r ?_) | ((with_reducible show Ix _ _ _ _ _); (first | refine Ix.h ?_ | refine Ix.ha ?_)) | (refine St.h H ?_; clear H; intro _ H))
  have hfn := (H.atC (c := fns [⟨n1, P1, c1, ps1, B1, d1, [SM.mk 7 nm3 (ET.mk k1 o1 n2 a1 b2 A1 c2 l1) B2 cb2 bo E2 ce2 el]⟩]) 3 rfl).1.1
  have hst : RdS SM.enc 10 _ B1 [SM.mk 7 nm3 (ET.mk k1 o1 n2 a1 b2 A1 c2 l1) B2 cb2 bo E2 ce2 el] := hfn.2.1.rd
  have hx0 : [(⟨n1, P1, c1, ps1, B1, d1, [SM.mk 7 nm3 (ET.mk k1 o1 n2 a1 b2 A1 c2 l1) B2 cb2 bo E2 ce2 el]⟩ : FM)][0]? = some ⟨n1, P1, c1, ps1, B1, d1, [SM.mk 7 nm3 (ET.mk k1 o1 n2 a1 b2 A1 c2 l1) B2 cb2 bo E2 ce2 el]⟩ := rfl
  have hx1 : [SM.mk 7 nm3 (ET.mk k1 o1 n2 a1 b2 A1 c2 l1) B2 cb2 bo E2 ce2 el][0]? = some (SM.mk 7 nm3 (ET.mk k1 o1 n2 a1 b2 A1 c2 l1) B2 cb2 bo E2 ce2 el) := rfl
  repeat' ((conv => whnf); first | (((with_reducible show Gd _ _ _); first | with_reducible refine Gd.t ?_ | with_reducible refine Gd.f ?_ | with_reducible refine Gd.dec (fun _ => ?_) (fun _ => ?_) | with_reducible refine Gd.beq (fun _ => ?_) (fun _ => ?_) | with_reducible refine Gd.bne (fun _ => ?_) (fun _ => ?_) | with_reducible refine Gd.not ?_ | refine Gd.t ?_ | refine Gd.f ?_ | with_reducible refine Gd.var (fun _ => ?_) (fun _ => ?_)) <;> first | (exfalso; omega) | skip) | with_reducible refine Sq.mk ?_ | ((with_reducible show Ld1 _ _ _); first | refine Ld1.h H ?_ | refine Ld1.rF ?_ | refine Ld1.r ?_) | ((with_reducible show Ld _ _ _ _); first | refine Ld.h H ?_ | refine Ld.r ?_) | ((with_reducible show Ix _ _ _ _ _); (first | refine Ix.h ?_ | refine Ix.ha ?_)) | (refine Al.hp H ?_; clear H; intro _ _ H _) | (refine St.h H ?_; clear H; intro _ H))
  all_goals first | (exfalso; exact (by assumption : (_ : Int) ≠ _) rfl) | skip
  (conv => whnf)
  refine Ld.rsF (o := 2) (n := 6) hst hx1 rfl ?_
  repeat' ((conv => whnf); first | (((with_reducible show Gd _ _ _); first | with_reducible refine Gd.t ?_ | with_reducible refine Gd.f ?_ | with_reducible refine Gd.dec (fun _ => ?_) (fun _ => ?_) | with_reducible refine Gd.beq (fun _ => ?_) (fun _ => ?_) | with_reducible refine Gd.bne (fun _ => ?_) (fun _ => ?_) | with_reducible refine Gd.not ?_ | refine Gd.t ?_ | refine Gd.f ?_ | with_reducible refine Gd.var (fun _ => ?_) (fun _ => ?_)) <;> first | (exfalso; omega) | skip) | with_reducible refine Sq.mk ?_ | ((with_reducible show Ld1 _ _ _); first | refine Ld1.h H ?_ | refine Ld1.rF ?_ | refine Ld1.r ?_) | ((with_reducible show Ld _ _ _ _); first | refine Ld.h H ?_ | refine Ld.r ?_) | ((with_reducible show Ix _ _ _ _ _); (first | refine Ix.h ?_ | refine Ix.ha ?_)) | (refine Al.hp H ?_; clear H; intro _ _ H _) | (refine St.h H ?_; clear H; intro _ H))
  refine ⟨.mk k1 o1 n2 a1 b2 A1 c2 l1, he, rfl, ?_⟩
  refine Hp.less (e := fns [⟨n1, P1, c1, ps1, B1, d1, [SM.mk 7 nm3 (ET.mk k1 o1 n2 a1 b2 A1 c2 l1) B2 cb2 bo E2 ce2 el]⟩]) (H.sel [3] rfl) rfl (fun k hk => ?_) (fun h => ?_)
  · rcases hk with hk | hk
    · exact .inl (.inr (.inr (.inl (.inl hk))))
    · exact hk.elim
  · have h1 := h.holds.1.1.2.2.1.1
    have h2 := h.holds.2.1.1.1
    exact trs_ok ⟨h1.1, trivial⟩ ⟨h2.1, trivial, fun b hb => hb.2.elim⟩
end Go.Proofs.YtfnjodpehomgfaaDoor
namespace Go.Proofs.YtfnjodpehomgfaaDoor
open Go Go.Shelf
def itoa_ren : Go.Shelf.Ren := ⟨fun | 173 => 14 | 246 => 20 | 283 => 36 | 284 => 37 | 285 => 38 | 286 => 39 | 129 => 56 | 317 => 55 | 318 => 57 | 319 => 58 | 320 => 59 | 337 => 73 | 338 => 74 | n => n, fun | 2 => 2 | 3 => 3 | 9 => 9 | 4 => 4 | 171 => 101 | 0 => 0 | 53 => 102 | 37 => 91 | 5 => 5 | 173 => 105 | 212 => 134 | 51 => 135 | 20 => 20 | 213 => 136 | 46 => 138 | 232 => 163 | 233 => 164 | n => n, fun | 17 => 2 | 18 => 4 | 19 => 5 | n => n⟩
theorem itoa_lays : Go.Proofs.LaysM.n173 Tryd.prog itoa_ren := {
  mixed := by kernel_rfl,
  f129 := Tryd.func56.trans (congrArg some (by kernel_rfl)),
  f173 := Tryd.func14.trans (congrArg some (by kernel_rfl)),
  f246 := Tryd.func20.trans (congrArg some (by kernel_rfl)),
  f283 := Tryd.func36.trans (congrArg some (by kernel_rfl)),
  f284 := Tryd.func37.trans (congrArg some (by kernel_rfl)),
  f285 := Tryd.func38.trans (congrArg some (by kernel_rfl)),
  f286 := Tryd.func39.trans (congrArg some (by kernel_rfl)),
  f317 := Tryd.func55.trans (congrArg some (by kernel_rfl)),
  f318 := Tryd.func57.trans (congrArg some (by kernel_rfl)),
  f319 := Tryd.func58.trans (congrArg some (by kernel_rfl)),
  f320 := Tryd.func59.trans (congrArg some (by kernel_rfl)),
  f337 := Tryd.func73.trans (congrArg some (by kernel_rfl)),
  f338 := Tryd.func74.trans (congrArg some (by kernel_rfl)),
  t0 := Tryd.underlying0,
  a0 := Tryd.isAgg0,
  z0 := Tryd.sizeOf0,
  v0 := Tryd.zeroValue0,
  t2 := Tryd.underlying2,
  a2 := Tryd.isAgg2,
  z2 := Tryd.sizeOf2,
  v2 := Tryd.zeroValue2,
  t3 := Tryd.underlying3,
  a3 := Tryd.isAgg3,
  z3 := Tryd.sizeOf3,
  v3 := Tryd.zeroValue3,
  t4 := Tryd.underlying4,
  a4 := Tryd.isAgg4,
  z4 := Tryd.sizeOf4,
  v4 := Tryd.zeroValue4,
  t5 := Tryd.underlying5,
  a5 := Tryd.isAgg5,
  z5 := Tryd.sizeOf5,
  v5 := Tryd.zeroValue5,
  t9 := Tryd.underlying9,
  a9 := Tryd.isAgg9,
  z9 := Tryd.sizeOf9,
  v9 := Tryd.zeroValue9,
  t20 := Tryd.underlying20,
  a20 := Tryd.isAgg20,
  z20 := Tryd.sizeOf20,
  v20 := Tryd.zeroValue20,
  t37 := Tryd.underlying91,
  a37 := Tryd.isAgg91,
  z37 := Tryd.sizeOf91,
  v37 := Tryd.zeroValue91,
  t46 := Tryd.underlying138,
  a46 := Tryd.isAgg138,
  z46 := Tryd.sizeOf138,
  v46 := Tryd.zeroValue138,
  t51 := Tryd.underlying135,
  a51 := Tryd.isAgg135,
  z51 := Tryd.sizeOf135,
  v51 := Tryd.zeroValue135,
  t53 := Tryd.underlying102,
  a53 := Tryd.isAgg102,
  z53 := Tryd.sizeOf102,
  v53 := Tryd.zeroValue102,
  t171 := Tryd.underlying101,
  a171 := Tryd.isAgg101,
  z171 := Tryd.sizeOf101,
  v171 := Tryd.zeroValue101,
  t173 := Tryd.underlying105,
  a173 := Tryd.isAgg105,
  z173 := Tryd.sizeOf105,
  v173 := Tryd.zeroValue105,
  t212 := Tryd.underlying134,
  a212 := Tryd.isAgg134,
  z212 := Tryd.sizeOf134,
  v212 := Tryd.zeroValue134,
  t213 := Tryd.underlying136,
  a213 := Tryd.isAgg136,
  z213 := Tryd.sizeOf136,
  t232 := Tryd.underlying163,
  a232 := Tryd.isAgg163,
  z232 := Tryd.sizeOf163,
  v232 := Tryd.zeroValue163,
  t233 := Tryd.underlying164,
  a233 := Tryd.isAgg164,
  z233 := Tryd.sizeOf164,
  v233 := Tryd.zeroValue164,
  g17 := by kernel_rfl,
  g18 := by kernel_rfl,
  g19 := by kernel_rfl,
  i0 := by kernel_rfl,
  i2 := by kernel_rfl,
  i3 := by kernel_rfl,
  i4 := by kernel_rfl,
  i5 := by kernel_rfl,
  i9 := by kernel_rfl,
  i20 := by kernel_rfl,
  i37 := by kernel_rfl,
  i46 := by kernel_rfl,
  i51 := by kernel_rfl,
  i53 := by kernel_rfl,
  i171 := by kernel_rfl,
  i173 := by kernel_rfl,
  i212 := by kernel_rfl,
  i232 := by kernel_rfl,
  i233 := by kernel_rfl,
  m17 := by kernel_rfl,
  m18 := by kernel_rfl,
  m19 := by kernel_rfl }
end Go.Proofs.YtfnjodpehomgfaaDoor
namespace Go.Tx
def Digs (s : Bs) : Prop := ∀ c ∈ s, digit c = true
theorem val_app (a : Bs) (c : UInt8) : val (a ++ [c]) = val a * 10 + (c.toNat - 48) := by simp [val]
theorem val_le (a : Bs) : ∀ b : Bs, val a ≤ val (a ++ b)
  | [] => by simp
  | c :: b => by
    have h := val_le (a ++ [c]) b
    rw [List.append_assoc] at h
    have h2 := val_app a c
    simp only [List.cons_append, List.nil_append] at h
    omega
theorem val_take (s : Bs) (q : Nat) : val (s.take q) ≤ val s := by
  have h := val_le (s.take q) (s.drop q)
  rwa [List.take_append_drop] at h
theorem dig_range {c : UInt8} (h : digit c = true) : 48 ≤ c.toNat ∧ c.toNat ≤ 57 := by simpa [digit] using h
theorem val_pos {a : Bs} (hd : Digs a) (hne : a ≠ []) (h0 : a.head?.map UInt8.toNat ≠ some 48) : 1 ≤ val a := by
  cases a with
  | nil => exact absurd rfl hne
  | cons c r =>
    have h1 := val_le [c] r
    have h2 := dig_range (hd c (by simp))
    simp only [List.head?_cons, Option.map_some, ne_eq, Option.some.injEq] at h0
    have h3 : val [c] = c.toNat - 48 := by simp [val]
    simp only [List.cons_append, List.nil_append] at h1
    omega
theorem of_nat {c : UInt8} {n : Nat} (h : c.toNat = n) : UInt8.ofNat n = c := by rw [← h]; simp
theorem dec_val : ∀ (n : Nat) (s : Bs), s.length = n → Digs s → s ≠ [] → s.head?.map UInt8.toNat ≠ some 48 → Go.Lib.decDigits (val s) = s
  | 0, s, hn, _, hne, _ => absurd (List.eq_nil_of_length_eq_zero hn) hne
  | n + 1, s, hn, hd, hne, h0 => by
    obtain ⟨a, c, rfl⟩ : ∃ a c, s = a ++ [c] := ⟨s.dropLast, s.getLast hne, (List.dropLast_concat_getLast hne).symm⟩
    have hc := dig_range (hd c (by simp))
    rw [val_app]
    by_cases ha : a = []
    · subst ha
      simp only [show val ([] : Bs) = 0 from rfl, Nat.zero_mul, Nat.zero_add, List.nil_append]
      rw [Go.Lib.decDigits, dif_pos (by omega), of_nat (c := c) (by omega)]
    · have hda : Digs a := fun x hx => hd x (by simp [hx])
      have hh : a.head? = (a ++ [c]).head? := by cases a with
        | nil => exact absurd rfl ha
        | cons x r => rfl
      rw [← hh] at h0
      have hp := val_pos hda ha h0
      have ih := dec_val n a (by simpa using hn) hda ha h0
      rw [Go.Lib.decDigits, dif_neg (by omega)]
      have h1 : (val a * 10 + (c.toNat - 48)) / 10 = val a := by omega
      have h2 : (val a * 10 + (c.toNat - 48)) % 10 = c.toNat - 48 := by omega
      rw [h1, h2, ih, of_nat (c := c) (by omega)]
theorem dec_ne (m : Nat) : Go.Lib.decDigits m ≠ [] := by
  rw [Go.Lib.decDigits]
  split <;> simp
theorem dec_head (m : Nat) : 1 ≤ m → (Go.Lib.decDigits m).head?.map UInt8.toNat ≠ some 48 := by
  induction m using Nat.strongRecOn with
  | _ m ih =>
    intro hm
    rw [Go.Lib.decDigits]
    split
    · rename_i h
      simp only [List.head?_cons, Option.map_some, ne_eq, Option.some.injEq, UInt8.toNat_ofNat']
      omega
    · rename_i h
      have hne := dec_ne (m / 10)
      have := ih (m / 10) (by omega) (by omega)
      cases hx : Go.Lib.decDigits (m / 10) with
      | nil => exact absurd hx hne
      | cons x r => rw [hx] at this; exact this
theorem dec_dig (m : Nat) : Digs (Go.Lib.decDigits m) := by
  induction m using Nat.strongRecOn with
  | _ m ih =>
    intro c hc
    rw [Go.Lib.decDigits] at hc
    have key : ∀ k, k < 10 → digit (UInt8.ofNat (48 + k)) = true := fun k hk => by
      simp only [digit, decide_eq_true_eq, UInt8.toNat_ofNat']
      omega
    split at hc
    · rename_i h
      rw [List.mem_singleton.1 hc]
      exact key m h
    · rename_i h
      rcases List.mem_append.1 hc with h1 | h1
      · exact ih (m / 10) (by omega) c h1
      · rw [List.mem_singleton.1 h1]
        exact key (m % 10) (by omega)
theorem val_dec (m : Nat) : val (Go.Lib.decDigits m) = m := by
  induction m using Nat.strongRecOn with
  | _ m ih =>
    rw [Go.Lib.decDigits]
    split
    · rename_i h
      simp only [val, List.foldl_cons, List.foldl_nil, UInt8.toNat_ofNat']
      omega
    · rename_i h
      rw [val_app, ih (m / 10) (by omega), UInt8.toNat_ofNat']
      omega
theorem neg_itoa {s : Bs} (hd : Digs s) (hne : s ≠ []) : Go.Lib.itoa (-(val s : Int)) = 45 :: s ↔ s.head?.map UInt8.toNat ≠ some 48 := by
  unfold Go.Lib.itoa
  constructor
  · intro h h0
    by_cases hv : val s = 0
    · rw [hv, if_neg (by decide)] at h
      rw [Go.Lib.decDigits, dif_pos (by decide)] at h
      simp at h
    · rw [if_pos (by omega)] at h
      have h1 : (-(val s : Int)).natAbs = val s := by omega
      rw [h1] at h
      have h2 := (List.cons.inj h).2
      have h3 := dec_head (val s) (by omega)
      rw [h2] at h3
      exact h3 h0
  · intro h0
    have hp := val_pos hd hne h0
    rw [if_pos (by omega), show (-(val s : Int)).natAbs = val s by omega, dec_val _ s rfl hd hne h0]
end Go.Tx
namespace Go.Proofs.YtfnjodpehomgfaaDoor
open Go Go.Sh Go.Tx
set_option linter.unusedVariables false
set_option linter.unusedSimpArgs false
set_option linter.unusedSectionVars false
theorem ext_grow (w : World) (k : Nat) (os : Array Obj) : Ext w (Go.Sort.grow (w.drewN k) os) :=
  ⟨rfl, rfl, rfl, by simp [Go.Sort.grow, World.drewN], fun i hi => by
    show (w.heap ++ os)[i]? = w.heap[i]?
    exact Array.getElem?_append_left hi⟩
attribute [local irreducible] Blk Ext RdS
/-- the library's table of tens -/
abbrev Pow (w : World) : Prop := Go.Lib.TabIs Tryd.prog w "internal/strconv.uint64pow10" .u64 Go.Lib.pow10Tab
theorem format_c (n : Int) (w : World) (h0 : -9223372036854775808 ≤ n) (h1 : n ≤ 9223372036854775807) (hP : Pow w) :
    Cl Tryd.prog 11 #[.int .i64 n] w (fun v w' => v = .string (bs (Go.Lib.itoa n)) ∧ Ext w w') (fun _ _ => False) := by
  have hc : Cl Tryd.prog 14 #[.int .i64 n, .int .i64 10] w (fun v w' => v = .string (bs (Go.Lib.itoa n)) ∧ Ext w w') (fun _ _ => False) := by
    refine ⟨Calls.mono (show Calls Tryd.prog 14 #[.int .i64 n, .int .i64 10] w _ from Any.strconv_FormatInt_10 itoa_lays n h0 h1 w hP) ?_⟩
    rintro e w' ⟨rfl, k, os, rfl⟩
    exact ⟨rfl, ext_grow w k os⟩
  refine calls_ex (args := [.int .i64 n]) T.ok Tryd.func11 rfl rfl rfl rfl ?_
  have H := Hp.begin nw w
  repeat' ((conv => whnf); first | (((with_reducible show Gd _ _ _); first | with_reducible refine Gd.t ?_ | with_reducible refine Gd.f ?_ | with_reducible refine Gd.dec (fun _ => ?_) (fun _ => ?_) | with_reducible refine Gd.beq (fun _ => ?_) (fun _ => ?_) | with_reducible refine Gd.bne (fun _ => ?_) (fun _ => ?_) | with_reducible refine Gd.not ?_ | refine Gd.t ?_ | refine Gd.f ?_ | with_reducible refine Gd.var (fun _ => ?_) (fun _ => ?_)) <;> first | (exfalso; omega) | skip) | with_reducible refine Sq.mk ?_ | ((with_reducible show Ld1 _ _ _); first | refine Ld1.h H ?_ | refine Ld1.rF ?_ | refine Ld1.r ?_) | ((with_reducible show Ld _ _ _ _); first | refine Ld.h H ?_ | refine Ld.r ?_) | ((with_reducible show Ix _ _ _ _ _); (first | refine Ix.h ?_ | refine Ix.ha ?_)) | (refine Al.hp H ?_; clear H; intro _ _ H _) | (refine St.h H ?_; clear H; intro _ H))
  (((conv => whnf); refine Cl.mk (hc) ?_); rintro _ _ ⟨rfl, hx⟩; replace H := H.ext hx; clear hx)
  repeat' ((conv => whnf); first | (((with_reducible show Gd _ _ _); first | with_reducible refine Gd.t ?_ | with_reducible refine Gd.f ?_ | with_reducible refine Gd.dec (fun _ => ?_) (fun _ => ?_) | with_reducible refine Gd.beq (fun _ => ?_) (fun _ => ?_) | with_reducible refine Gd.bne (fun _ => ?_) (fun _ => ?_) | with_reducible refine Gd.not ?_ | refine Gd.t ?_ | refine Gd.f ?_ | with_reducible refine Gd.var (fun _ => ?_) (fun _ => ?_)) <;> first | (exfalso; omega) | skip) | with_reducible refine Sq.mk ?_ | ((with_reducible show Ld1 _ _ _); first | refine Ld1.h H ?_ | refine Ld1.rF ?_ | refine Ld1.r ?_) | ((with_reducible show Ld _ _ _ _); first | refine Ld.h H ?_ | refine Ld.r ?_) | ((with_reducible show Ix _ _ _ _ _); (first | refine Ix.h ?_ | refine Ix.ha ?_)) | (refine Al.hp H ?_; clear H; intro _ _ H _) | (refine St.h H ?_; clear H; intro _ H))
  exact ⟨rfl, H.e⟩
theorem run_quo {P : Program} {t : Nat} {a b : Int} {xo yo : Operand} (hb : b ≠ 0) (w : World) : (do eqGuard .quo t xo yo (.int .i64 a) (.int .i64 b); binOp .quo t (.int .i64 a) (.int .i64 b) : Sem Value).run P w = .ok (.int .i64 (IntKind.i64.wrap (a.tdiv b))) w := by
  have hg : (eqGuard .quo t xo yo (.int .i64 a) (.int .i64 b)).run P w = .ok () w := by unfold eqGuard; simp
  simp [hg, binOp, Op.intDiv, hb]
theorem quo_ten {d : Nat} (h : d ≤ 9) : IntKind.i64.wrap (Int.tdiv (IntKind.i64.wrap (-9223372036854775808 + (d : Int))) 10) = -(((9223372036854775808 - d) / 10 : Nat) : Int) := by
  have h1 : IntKind.i64.wrap (-9223372036854775808 + (d : Int)) = -((9223372036854775808 - d : Nat) : Int) := by
    rw [show (-9223372036854775808 + (d : Int)) = -((9223372036854775808 - d : Nat) : Int) by omega]
    exact w64 rfl (by omega) (by omega)
  rw [h1, Int.neg_tdiv, Int.tdiv_eq_ediv_of_nonneg (by omega)]
  exact w64 (by omega) (by omega) (by omega)
theorem parse_c (s : Bs) (w : World) (hd : AllDig s) (hne : s ≠ []) (h48 : s ≠ [48]) (hP : ∀ w', Ext w w' → Pow w') :
    Cl Tryd.prog 60 #[.string (bs (45 :: s))] w (fun v w' => ∃ n e, v = .tuple #[.int .i64 n, .int .i64 e] ∧ (negOf s = some n ∧ e = 0 ∨ negOf s = none ∧ n = 0 ∧ e ≠ 0) ∧ Ext w w') (fun _ _ => False) := by
  refine calls_ex (args := [.string (bs (45 :: s))]) T.ok Tryd.func60 rfl rfl rfl rfl ?_
  have H := Hp.begin nw w
  have hsz := bs_size (45 :: s)
  rw [List.length_cons] at hsz
  by_cases hlong : 19 < s.length
  · have hn : negOf s = none := by unfold negOf; rw [if_neg h48, if_pos (.inl hlong)]
    repeat' ((conv => whnf); first | (((with_reducible show Gd _ _ _); first | with_reducible refine Gd.t ?_ | with_reducible refine Gd.f ?_ | with_reducible refine Gd.dec (fun _ => ?_) (fun _ => ?_) | with_reducible refine Gd.beq (fun _ => ?_) (fun _ => ?_) | with_reducible refine Gd.bne (fun _ => ?_) (fun _ => ?_) | with_reducible refine Gd.not ?_ | refine Gd.t ?_ | refine Gd.f ?_ | with_reducible refine Gd.var (fun _ => ?_) (fun _ => ?_)) <;> first | (exfalso; omega) | skip) | with_reducible refine Sq.mk ?_ | ((with_reducible show Ld1 _ _ _); first | refine Ld1.h H ?_ | refine Ld1.rF ?_ | refine Ld1.r ?_) | ((with_reducible show Ld _ _ _ _); first | refine Ld.h H ?_ | refine Ld.r ?_) | ((with_reducible show Ix _ _ _ _ _); (first | refine Ix.h ?_ | refine Ix.ha ?_)) | (refine Al.hp H ?_; clear H; intro _ _ H _) | (refine St.h H ?_; clear H; intro _ H))
    all_goals first | (exfalso; omega) | skip
    exact ⟨0, 2, rfl, .inr ⟨hn, rfl, by decide⟩, H.e⟩
  repeat' ((conv => whnf); first | (((with_reducible show Gd _ _ _); first | with_reducible refine Gd.t ?_ | with_reducible refine Gd.f ?_ | with_reducible refine Gd.dec (fun _ => ?_) (fun _ => ?_) | with_reducible refine Gd.beq (fun _ => ?_) (fun _ => ?_) | with_reducible refine Gd.bne (fun _ => ?_) (fun _ => ?_) | with_reducible refine Gd.not ?_ | refine Gd.t ?_ | refine Gd.f ?_ | with_reducible refine Gd.var (fun _ => ?_) (fun _ => ?_)) <;> first | (exfalso; omega) | skip) | with_reducible refine Sq.mk ?_ | ((with_reducible show Ld1 _ _ _); first | refine Ld1.h H ?_ | refine Ld1.rF ?_ | refine Ld1.r ?_) | ((with_reducible show Ld _ _ _ _); first | refine Ld.h H ?_ | refine Ld.r ?_) | ((with_reducible show Ix _ _ _ _ _); (first | refine Ix.h ?_ | refine Ix.ha ?_)) | (refine Al.hp H ?_; clear H; intro _ _ H _) | (refine St.h H ?_; clear H; intro _ H))
  all_goals first | (exfalso; omega) | skip
  refine Sm.srange H T.ok (fun r w1 H hr => ?_)
  repeat' ((conv => whnf); first | (((with_reducible show Gd _ _ _); first | with_reducible refine Gd.t ?_ | with_reducible refine Gd.f ?_ | with_reducible refine Gd.dec (fun _ => ?_) (fun _ => ?_) | with_reducible refine Gd.beq (fun _ => ?_) (fun _ => ?_) | with_reducible refine Gd.bne (fun _ => ?_) (fun _ => ?_) | with_reducible refine Gd.not ?_ | refine Gd.t ?_ | refine Gd.f ?_ | with_reducible refine Gd.var (fun _ => ?_) (fun _ => ?_)) <;> first | (exfalso; omega) | skip) | with_reducible refine Sq.mk ?_ | ((with_reducible show Ld1 _ _ _); first | refine Ld1.h H ?_ | refine Ld1.rF ?_ | refine Ld1.r ?_) | ((with_reducible show Ld _ _ _ _); first | refine Ld.h H ?_ | refine Ld.r ?_) | ((with_reducible show Ix _ _ _ _ _); (first | refine Ix.h ?_ | refine Ix.ha ?_)) | (refine Al.hp H ?_; clear H; intro _ _ H _) | (refine St.h H ?_; clear H; intro _ H))
  refine Lp.g0 T.ok (σ := Nat) (fun p => [(4, .int .i64 (-(val (s.take (p - 1)) : Int))), (5, .bool (decide (p ≠ 0))), (6, .int .i64 ((p - 1 : Nat) : Int)), (14, .pointer (some ⟨r, 0, none⟩)), (0, .string (bs (45 :: s))), (2, .int .i64 0), (3, .int .i64 0)])
    (fun p w' => p ≤ s.length + 1 ∧ val (s.take (p - 1)) ≤ 9223372036854775808 ∧ Hp nw w w' [si r (45 :: s) p]) (fun p _ => s.length + 1 - p) 0 rfl ⟨at_val rfl (by simp [val]), rfl, rfl, rfl, rfl, rfl, rfl, trivial⟩ ⟨Nat.zero_le _, by simp [val], H⟩ ?_
  clear H
  rintro p w5 ⟨hp, hv, H⟩
  have h45 : UInt8.toNat 45 = 45 := rfl
  have hfin : negOf s = if 9223372036854775808 < val s ∨ s.head?.map UInt8.toNat = some 48 then none else some (-(val s : Int)) := by
    unfold negOf
    rw [if_neg h48]
    by_cases h : 9223372036854775808 < val s ∨ s.head?.map UInt8.toNat = some 48
    · rw [if_pos (.inr h), if_pos h]
    · rw [if_neg (fun e => e.elim hlong h), if_neg h]
  cases p with
  | zero =>
    repeat' ((conv => whnf); first | (((with_reducible show Gd _ _ _); first | with_reducible refine Gd.t ?_ | with_reducible refine Gd.f ?_ | with_reducible refine Gd.dec (fun _ => ?_) (fun _ => ?_) | with_reducible refine Gd.beq (fun _ => ?_) (fun _ => ?_) | with_reducible refine Gd.bne (fun _ => ?_) (fun _ => ?_) | with_reducible refine Gd.not ?_ | refine Gd.t ?_ | refine Gd.f ?_ | with_reducible refine Gd.var (fun _ => ?_) (fun _ => ?_)) <;> first | (exfalso; omega) | skip) | with_reducible refine Sq.mk ?_ | ((with_reducible show Ld1 _ _ _); first | refine Ld1.h H ?_ | refine Ld1.rF ?_ | refine Ld1.r ?_) | ((with_reducible show Ld _ _ _ _); first | refine Ld.h H ?_ | refine Ld.r ?_) | ((with_reducible show Ix _ _ _ _ _); (first | refine Ix.h ?_ | refine Ix.ha ?_)) | (refine Al.hp H ?_; clear H; intro _ _ H _) | (refine St.h H ?_; clear H; intro _ H))
    refine Sm.snext (b := 45) H rfl (by decide) (fun w6 H => ?_)
    simp only [List.nil_append] at H
    repeat' ((conv => whnf); first | (((with_reducible show Gd _ _ _); first | with_reducible refine Gd.t ?_ | with_reducible refine Gd.f ?_ | with_reducible refine Gd.dec (fun _ => ?_) (fun _ => ?_) | with_reducible refine Gd.beq (fun _ => ?_) (fun _ => ?_) | with_reducible refine Gd.bne (fun _ => ?_) (fun _ => ?_) | with_reducible refine Gd.not ?_ | refine Gd.t ?_ | refine Gd.f ?_ | with_reducible refine Gd.var (fun _ => ?_) (fun _ => ?_)) <;> first | (exfalso; omega) | skip) | with_reducible refine Sq.mk ?_ | ((with_reducible show Ld1 _ _ _); first | refine Ld1.h H ?_ | refine Ld1.rF ?_ | refine Ld1.r ?_) | ((with_reducible show Ld _ _ _ _); first | refine Ld.h H ?_ | refine Ld.r ?_) | ((with_reducible show Ix _ _ _ _ _); (first | refine Ix.h ?_ | refine Ix.ha ?_)) | (refine Al.hp H ?_; clear H; intro _ _ H _) | (refine St.h H ?_; clear H; intro _ H))
    all_goals first | (exfalso; omega) | skip
    exact ⟨1, ⟨at_val rfl (by simp [val]), rfl, rfl, rfl, rfl, rfl, rfl, trivial⟩, rfl, ⟨by omega, by simp [val], H⟩, by omega⟩
  | succ q =>
    simp only [Nat.add_sub_cancel] at hv
    by_cases hq : q < s.length
    · obtain ⟨c, hc⟩ : ∃ c, s[q]? = some c := ⟨_, List.getElem?_eq_getElem hq⟩
      obtain ⟨hc1, hc2⟩ := List.getElem?_eq_some_iff.1 hc
      have hdc := hd c (List.mem_of_getElem? hc)
      simp only [digit, decide_eq_true_eq] at hdc
      have htk : s.take (q + 1) = s.take q ++ [c] := by rw [List.take_add_one, hc]; rfl
      have hval : val (s.take (q + 1)) = val (s.take q) * 10 + (c.toNat - 48) := by rw [htk]; simp [val]
      repeat' ((conv => whnf); first | (((with_reducible show Gd _ _ _); first | with_reducible refine Gd.t ?_ | with_reducible refine Gd.f ?_ | with_reducible refine Gd.dec (fun _ => ?_) (fun _ => ?_) | with_reducible refine Gd.beq (fun _ => ?_) (fun _ => ?_) | with_reducible refine Gd.bne (fun _ => ?_) (fun _ => ?_) | with_reducible refine Gd.not ?_ | refine Gd.t ?_ | refine Gd.f ?_ | with_reducible refine Gd.var (fun _ => ?_) (fun _ => ?_)) <;> first | (exfalso; omega) | skip) | with_reducible refine Sq.mk ?_ | ((with_reducible show Ld1 _ _ _); first | refine Ld1.h H ?_ | refine Ld1.rF ?_ | refine Ld1.r ?_) | ((with_reducible show Ld _ _ _ _); first | refine Ld.h H ?_ | refine Ld.r ?_) | ((with_reducible show Ix _ _ _ _ _); (first | refine Ix.h ?_ | refine Ix.ha ?_)) | (refine Al.hp H ?_; clear H; intro _ _ H _) | (refine St.h H ?_; clear H; intro _ H))
      refine Sm.snext (b := c) H (show (45 :: s)[q + 1]? = some c from hc) (by omega) (fun w6 H => ?_)
      simp only [List.nil_append] at H
      repeat' ((conv => whnf); first | (((with_reducible show Gd _ _ _); first | with_reducible refine Gd.t ?_ | with_reducible refine Gd.f ?_ | with_reducible refine Gd.dec (fun _ => ?_) (fun _ => ?_) | with_reducible refine Gd.beq (fun _ => ?_) (fun _ => ?_) | with_reducible refine Gd.bne (fun _ => ?_) (fun _ => ?_) | with_reducible refine Gd.not ?_ | refine Gd.t ?_ | refine Gd.f ?_ | with_reducible refine Gd.var (fun _ => ?_) (fun _ => ?_)) <;> first | (exfalso; omega) | skip) | with_reducible refine Sq.mk ?_ | ((with_reducible show Ld1 _ _ _); first | refine Ld1.h H ?_ | refine Ld1.rF ?_ | refine Ld1.r ?_) | ((with_reducible show Ld _ _ _ _); first | refine Ld.h H ?_ | refine Ld.r ?_) | ((with_reducible show Ix _ _ _ _ _); (first | refine Ix.h ?_ | refine Ix.ha ?_)) | (refine Al.hp H ?_; clear H; intro _ _ H _) | (refine St.h H ?_; clear H; intro _ H))
      all_goals first | (exfalso; omega) | skip
      generalize hdn : c.toNat - 48 = d at hval
      have hd9 : d ≤ 9 := by omega
      have hwd : IntKind.i64.wrap (IntKind.i32.wrap ((c.toNat : Int) - 48)) = (d : Int) := by
        rw [show ((c.toNat : Int) - 48) = (d : Int) by omega]
        simp [IntKind.wrap, IntKind.signed, IntKind.bits]
        omega
      (conv => whnf)
      rw [hwd]
      refine Sm.ran (run_quo (by decide) _) ?_
      rw [quo_ten hd9]
      repeat' ((conv => whnf); first | (((with_reducible show Gd _ _ _); first | with_reducible refine Gd.t ?_ | with_reducible refine Gd.f ?_ | with_reducible refine Gd.dec (fun _ => ?_) (fun _ => ?_) | with_reducible refine Gd.beq (fun _ => ?_) (fun _ => ?_) | with_reducible refine Gd.bne (fun _ => ?_) (fun _ => ?_) | with_reducible refine Gd.not ?_ | refine Gd.t ?_ | refine Gd.f ?_ | with_reducible refine Gd.var (fun _ => ?_) (fun _ => ?_)) <;> first | (exfalso; omega) | skip) | with_reducible refine Sq.mk ?_ | ((with_reducible show Ld1 _ _ _); first | refine Ld1.h H ?_ | refine Ld1.rF ?_ | refine Ld1.r ?_) | ((with_reducible show Ld _ _ _ _); first | refine Ld.h H ?_ | refine Ld.r ?_) | ((with_reducible show Ix _ _ _ _ _); (first | refine Ix.h ?_ | refine Ix.ha ?_)) | (refine Al.hp H ?_; clear H; intro _ _ H _) | (refine St.h H ?_; clear H; intro _ H))
      · rename_i hlt
        simp only [Nat.add_sub_cancel] at hlt
        have hvl := val_take s (q + 1)
        repeat' ((conv => whnf); first | (((with_reducible show Gd _ _ _); first | with_reducible refine Gd.t ?_ | with_reducible refine Gd.f ?_ | with_reducible refine Gd.dec (fun _ => ?_) (fun _ => ?_) | with_reducible refine Gd.beq (fun _ => ?_) (fun _ => ?_) | with_reducible refine Gd.bne (fun _ => ?_) (fun _ => ?_) | with_reducible refine Gd.not ?_ | refine Gd.t ?_ | refine Gd.f ?_ | with_reducible refine Gd.var (fun _ => ?_) (fun _ => ?_)) <;> first | (exfalso; omega) | skip) | with_reducible refine Sq.mk ?_ | ((with_reducible show Ld1 _ _ _); first | refine Ld1.h H ?_ | refine Ld1.rF ?_ | refine Ld1.r ?_) | ((with_reducible show Ld _ _ _ _); first | refine Ld.h H ?_ | refine Ld.r ?_) | ((with_reducible show Ix _ _ _ _ _); (first | refine Ix.h ?_ | refine Ix.ha ?_)) | (refine Al.hp H ?_; clear H; intro _ _ H _) | (refine St.h H ?_; clear H; intro _ H))
        exact ⟨0, 4, rfl, .inr ⟨by rw [hfin, if_pos (.inl (by omega))], rfl, by decide⟩, H.e⟩
      · rename_i hlt
        simp only [Nat.add_sub_cancel] at hlt
        repeat' ((conv => whnf); first | (((with_reducible show Gd _ _ _); first | with_reducible refine Gd.t ?_ | with_reducible refine Gd.f ?_ | with_reducible refine Gd.dec (fun _ => ?_) (fun _ => ?_) | with_reducible refine Gd.beq (fun _ => ?_) (fun _ => ?_) | with_reducible refine Gd.bne (fun _ => ?_) (fun _ => ?_) | with_reducible refine Gd.not ?_ | refine Gd.t ?_ | refine Gd.f ?_ | with_reducible refine Gd.var (fun _ => ?_) (fun _ => ?_)) <;> first | (exfalso; omega) | skip) | with_reducible refine Sq.mk ?_ | ((with_reducible show Ld1 _ _ _); first | refine Ld1.h H ?_ | refine Ld1.rF ?_ | refine Ld1.r ?_) | ((with_reducible show Ld _ _ _ _); first | refine Ld.h H ?_ | refine Ld.r ?_) | ((with_reducible show Ix _ _ _ _ _); (first | refine Ix.h ?_ | refine Ix.ha ?_)) | (refine Al.hp H ?_; clear H; intro _ _ H _) | (refine St.h H ?_; clear H; intro _ H))
        have h10 : IntKind.i64.wrap (-(val (s.take q) : Int) * 10) = -((val (s.take q) * 10 : Nat) : Int) := w64 (by omega) (by omega) (by omega)
        have hnew : IntKind.i64.wrap (IntKind.i64.wrap (-(val (s.take q) : Int) * 10) - (d : Int)) = -(val (s.take (q + 1)) : Int) := by
          rw [h10]
          exact w64 (by omega) (by omega) (by omega)
        refine ⟨q + 1 + 1, ⟨at_int rfl hnew, at_val rfl (by simp), at_int rfl (w64 (by omega) (by omega) (by omega)), rfl, rfl, rfl, rfl, trivial⟩, rfl, ⟨by omega, ?_, H⟩, by omega⟩
        show val (s.take (q + 1)) ≤ _
        omega
    · have hql : q = s.length := by omega
      subst hql
      have hs1 : 1 ≤ s.length := by
        cases s with
        | nil => exact absurd rfl hne
        | cons x r => simp
      have htk : s.take (s.length + 1 - 1) = s := by simp
      have hvs : val (s.take (s.length + 1 - 1)) ≤ 9223372036854775808 := by rw [htk]; rwa [List.take_length] at hv
      have hin := neg_itoa hd hne
      repeat' ((conv => whnf); first | (((with_reducible show Gd _ _ _); first | with_reducible refine Gd.t ?_ | with_reducible refine Gd.f ?_ | with_reducible refine Gd.dec (fun _ => ?_) (fun _ => ?_) | with_reducible refine Gd.beq (fun _ => ?_) (fun _ => ?_) | with_reducible refine Gd.bne (fun _ => ?_) (fun _ => ?_) | with_reducible refine Gd.not ?_ | refine Gd.t ?_ | refine Gd.f ?_ | with_reducible refine Gd.var (fun _ => ?_) (fun _ => ?_)) <;> first | (exfalso; omega) | skip) | with_reducible refine Sq.mk ?_ | ((with_reducible show Ld1 _ _ _); first | refine Ld1.h H ?_ | refine Ld1.rF ?_ | refine Ld1.r ?_) | ((with_reducible show Ld _ _ _ _); first | refine Ld.h H ?_ | refine Ld.r ?_) | ((with_reducible show Ix _ _ _ _ _); (first | refine Ix.h ?_ | refine Ix.ha ?_)) | (refine Al.hp H ?_; clear H; intro _ _ H _) | (refine St.h H ?_; clear H; intro _ H))
      refine Sm.send (l := 45 :: s) (p := s.length + 1) H (Nat.le_refl _) ?_
      repeat' ((conv => whnf); first | (((with_reducible show Gd _ _ _); first | with_reducible refine Gd.t ?_ | with_reducible refine Gd.f ?_ | with_reducible refine Gd.dec (fun _ => ?_) (fun _ => ?_) | with_reducible refine Gd.beq (fun _ => ?_) (fun _ => ?_) | with_reducible refine Gd.bne (fun _ => ?_) (fun _ => ?_) | with_reducible refine Gd.not ?_ | refine Gd.t ?_ | refine Gd.f ?_ | with_reducible refine Gd.var (fun _ => ?_) (fun _ => ?_)) <;> first | (exfalso; omega) | skip) | with_reducible refine Sq.mk ?_ | ((with_reducible show Ld1 _ _ _); first | refine Ld1.h H ?_ | refine Ld1.rF ?_ | refine Ld1.r ?_) | ((with_reducible show Ld _ _ _ _); first | refine Ld.h H ?_ | refine Ld.r ?_) | ((with_reducible show Ix _ _ _ _ _); (first | refine Ix.h ?_ | refine Ix.ha ?_)) | (refine Al.hp H ?_; clear H; intro _ _ H _) | (refine St.h H ?_; clear H; intro _ H))
      all_goals first | (exfalso; omega) | skip
      (((conv => whnf); refine Cl.mk (format_c _ _ (by omega) (by omega) (hP _ H.e)) ?_); rintro _ _ ⟨rfl, hx⟩; replace H := H.ext hx; clear hx)
      repeat' ((conv => whnf); first | (((with_reducible show Gd _ _ _); first | with_reducible refine Gd.t ?_ | with_reducible refine Gd.f ?_ | with_reducible refine Gd.dec (fun _ => ?_) (fun _ => ?_) | with_reducible refine Gd.beq (fun _ => ?_) (fun _ => ?_) | with_reducible refine Gd.bne (fun _ => ?_) (fun _ => ?_) | with_reducible refine Gd.not ?_ | refine Gd.t ?_ | refine Gd.f ?_ | with_reducible refine Gd.var (fun _ => ?_) (fun _ => ?_)) <;> first | (exfalso; omega) | skip) | with_reducible refine Sq.mk ?_ | ((with_reducible show Ld1 _ _ _); first | refine Ld1.h H ?_ | refine Ld1.rF ?_ | refine Ld1.r ?_) | ((with_reducible show Ld _ _ _ _); first | refine Ld.h H ?_ | refine Ld.r ?_) | ((with_reducible show Ix _ _ _ _ _); (first | refine Ix.h ?_ | refine Ix.ha ?_)) | (refine Al.hp H ?_; clear H; intro _ _ H _) | (refine St.h H ?_; clear H; intro _ H))
      · rename_i hb
        rw [bs_eq, htk] at hb
        have h1 := hin.1 (of_decide_eq_true hb)
        repeat' ((conv => whnf); first | (((with_reducible show Gd _ _ _); first | with_reducible refine Gd.t ?_ | with_reducible refine Gd.f ?_ | with_reducible refine Gd.dec (fun _ => ?_) (fun _ => ?_) | with_reducible refine Gd.beq (fun _ => ?_) (fun _ => ?_) | with_reducible refine Gd.bne (fun _ => ?_) (fun _ => ?_) | with_reducible refine Gd.not ?_ | refine Gd.t ?_ | refine Gd.f ?_ | with_reducible refine Gd.var (fun _ => ?_) (fun _ => ?_)) <;> first | (exfalso; omega) | skip) | with_reducible refine Sq.mk ?_ | ((with_reducible show Ld1 _ _ _); first | refine Ld1.h H ?_ | refine Ld1.rF ?_ | refine Ld1.r ?_) | ((with_reducible show Ld _ _ _ _); first | refine Ld.h H ?_ | refine Ld.r ?_) | ((with_reducible show Ix _ _ _ _ _); (first | refine Ix.h ?_ | refine Ix.ha ?_)) | (refine Al.hp H ?_; clear H; intro _ _ H _) | (refine St.h H ?_; clear H; intro _ H))
        refine ⟨-(val (s.take (s.length + 1 - 1)) : Int), 0, rfl, .inl ⟨?_, rfl⟩, H.e⟩
        rw [hfin, htk, if_neg]
        rw [htk] at hvs
        intro e
        rcases e with e | e
        · omega
        · exact h1 e
      · rename_i hb
        rw [bs_eq, htk] at hb
        have h1 : s.head?.map UInt8.toNat = some 48 := Classical.byContradiction fun e => of_decide_eq_false hb (hin.2 e)
        repeat' ((conv => whnf); first | (((with_reducible show Gd _ _ _); first | with_reducible refine Gd.t ?_ | with_reducible refine Gd.f ?_ | with_reducible refine Gd.dec (fun _ => ?_) (fun _ => ?_) | with_reducible refine Gd.beq (fun _ => ?_) (fun _ => ?_) | with_reducible refine Gd.bne (fun _ => ?_) (fun _ => ?_) | with_reducible refine Gd.not ?_ | refine Gd.t ?_ | refine Gd.f ?_ | with_reducible refine Gd.var (fun _ => ?_) (fun _ => ?_)) <;> first | (exfalso; omega) | skip) | with_reducible refine Sq.mk ?_ | ((with_reducible show Ld1 _ _ _); first | refine Ld1.h H ?_ | refine Ld1.rF ?_ | refine Ld1.r ?_) | ((with_reducible show Ld _ _ _ _); first | refine Ld.h H ?_ | refine Ld.r ?_) | ((with_reducible show Ix _ _ _ _ _); (first | refine Ix.h ?_ | refine Ix.ha ?_)) | (refine Al.hp H ?_; clear H; intro _ _ H _) | (refine St.h H ?_; clear H; intro _ H))
        exact ⟨0, 4, rfl, .inr ⟨by rw [hfin, if_pos (.inr h1)], rfl, by decide⟩, H.e⟩
end Go.Proofs.YtfnjodpehomgfaaDoor
namespace Go.Sh
open Go.RowKit Go.ChangeShapes
section
variable {H : Type} {enc : TypeId × Value → H} {P : Program}
theorem sameAt_ext {w w' : World} (e : Ext w w') {p : MemPlace} (h : p.block < w.heap.size) : w.sameAt w' p := by
  cases p with
  | cell b off => exact Below.cell e h
  | map b => exact Below.block e b h
theorem trodAll_ext {w w' : World} (e : Ext w w') {base : Nat} {spare : Nat → Bool} {held : Bool} : ∀ {ts : List TypeId} {vs : List Value} {ds : List (DataW H)} {ps : List MemPlace},
    DataW.TrodAll enc P w base spare held ts vs ds ps → (∀ p ∈ ps, p.block < w.heap.size) → DataW.TrodAll enc P w' base spare held ts vs ds ps
  | [], [], [], _, h, _ => h
  | _ :: _, _ :: _, _ :: _, _, ⟨p, q, ⟨n, hn⟩, h2, he⟩, hlt =>
    ⟨p, q, ⟨n, DataW.trod_carry n _ _ _ hn fun x hx => sameAt_ext e (hlt x (by rw [he]; exact List.mem_append_left _ hx))⟩, trodAll_ext e h2 (fun x hx => hlt x (by rw [he]; exact List.mem_append_right _ hx)), he⟩
theorem keptBut_ext {w w' : World} (e : Ext w w') (may : MemPlace → Prop) : w.keptBut w' may := by
  refine ⟨Below.os e, Below.output e, fun i hi => ?_⟩
  rw [Below.block e i hi]
  cases w.heap[i]? with
  | none => rfl
  | some o => cases o <;> first | exact ⟨rfl, rfl, rfl, fun _ _ => rfl⟩ | exact .inr ⟨rfl, rfl⟩ | rfl
/-- what a law's row asks of a call that answers true and writes over nothing -/
theorem post_kept (K : Kids P (· < P.types.size)) (hz : ∀ t e, t < P.types.size → P.underlying t = some (.slice e) → 0 < P.cellsOf e) {f : Func} {s : ChangeSpec} {apart fresh handsOn : Bool} {W W' : World} {args : Array Value} {ds gs : List (DataW H)} {before : List MemPlace} {t : TypeId}
    (hW : DataW.Whole enc P f.params.toList s.vars apart W args.toList ds gs before) (hts : ∀ t ∈ f.params.toList, t < P.types.size) (hv : s.vars = []) (e : Ext W W')
    (hfn : s.fn H (ds ++ []) = { results := [.lit (.bool true)], args := ds }) (hr : f.resultTypes = #[t]) (ht : P.underlying t = some .bool) :
    s.post enc P f apart fresh handsOn false W args (.bool true) W' := by
  have hlt := hW.lt
  have hW0 := hW
  obtain ⟨p, q, h1, h2, rfl, _⟩ := hW0
  rw [hv] at h2
  obtain ⟨rfl, rfl⟩ := trodVars_none h2
  rw [List.append_nil] at hlt
  refine ⟨ds, [], p ++ [], [], p, [], hW, ?_, ?_, ?_, keptBut_ext e _, fun h => by cases h⟩
  · rw [hfn, hr]
    exact ⟨[], [], shut_bool ht true, rfl, rfl⟩
  · rw [hfn]
    refine DataW.TrodAll.respare K hz hts (trodAll_ext e h1 hlt) fun x hx => ?_
    simpa using hlt x hx
  · rw [hfn, hv]; rfl
theorem cell_lt {w : World} {a : Addr} {v : Value} (h : w.cell? a = some v) : a.block < w.heap.size := by
  unfold World.cell? at h
  split at h
  · rename_i h1
    exact (Array.getElem?_eq_some_iff.1 h1).1
  · simp at h
theorem exists_list {α : Type} {Q : Nat → α → Prop} : ∀ (n : Nat), (∀ i, i < n → ∃ a, Q i a) → ∃ l : List α, l.length = n ∧ ∀ (i : Nat) (a : α), l[i]? = some a → Q i a
  | 0, _ => ⟨[], rfl, fun i a h => by simp at h⟩
  | n + 1, h => by
    obtain ⟨l, h1, h2⟩ := exists_list (Q := Q) n fun i hi => h i (by omega)
    obtain ⟨a, ha⟩ := h n (by omega)
    refine ⟨l ++ [a], by simp [h1], fun i b hb => ?_⟩
    rcases Nat.lt_or_ge i l.length with hl | hl
    · rw [List.getElem?_append_left hl] at hb; exact h2 i b hb
    · have : i = l.length := by have := (List.getElem?_eq_some_iff.1 hb).1; simp at this; omega
      subst this
      simp at hb; subst hb
      rw [h1]; exact ha
variable {w : World} {sp : Nat → Bool} {held : Bool} {fuel : Nat} {t : TypeId} {cs : List Value} {x : DataW H × List MemPlace}
theorem read_int {k : IntKind} (ht : P.underlying t = some (.int k)) (h : DataW.trod enc P w 0 sp held fuel t cs = some x) : ∃ n, cs = [.int k n] ∧ (Lit.int k n).wf = true ∧ x.1 = .lit (.int k n) := by
  cases fuel with
  | zero => simp [DataW.trod] at h
  | succ n =>
    unfold DataW.trod at h
    rw [ht] at h
    simp only at h
    split at h <;> try (rename_i he; simp at he; done)
    all_goals first
      | (rename_i k1 k2 m he
         simp only [Option.some.injEq, TypeDesc.int.injEq] at he
         subst he
         split at h
         · rename_i hc
           obtain ⟨rfl, hw⟩ := hc
           simp at h; subst h
           exact ⟨m, rfl, hw, rfl⟩
         · simp at h)
      | simp at h
theorem read_slice {α : Type} {R : World → α → List Value → Prop} {Q : α → DataW H → Prop} {e : TypeId} {sz : Nat} (ht : P.underlying t = some (.slice e)) (hsz : P.cellsOf e = sz) (hpos : 0 < sz)
    (he : ∀ fuel cs y, DataW.trod enc P w 0 sp held fuel e cs = some y → ∃ a, cs.length = sz ∧ R w a cs ∧ Q a y.1) (h : DataW.trod enc P w 0 sp held fuel t cs = some x) :
    ∃ (A : Option Addr) (l : List α) (c : Nat), cs = [.slice A l.length c] ∧ l.length ≤ c ∧ c ≤ maxLen ∧ (A = none → c = 0) ∧ Rd R sz w w.heap.size A l ∧
      (l = [] ∨ ∃ es rest, x.1 = .slice es rest ∧ es.length = l.length ∧ ∀ (i : Nat) (a : α) (d : DataW H), l[i]? = some a → es[i]? = some d → Q a d) := by
  rcases DataW.trod_slice ht h with ⟨rfl, rfl⟩ | ⟨a, len, cap, elems, rest, n, _, rfl, rfl, _, hl, hm, hlen, hel, _⟩
  · exact ⟨none, [], 0, rfl, by simp, by simp, fun _ => rfl, Rd.nil, .inl rfl⟩
  · rw [hsz] at hel
    obtain ⟨l, h1, h2⟩ := exists_list (Q := fun i (b : α) => ∃ vs, vs.length = sz ∧ w.cells? 0 (a.add (i * sz)) sz = some vs ∧ R w b vs ∧ ∀ d, (elems.map (·.1))[i]? = some d → Q b d) len (fun i hi => by
      have hi' : i < elems.length := by omega
      have := hel i hi
      rw [List.getElem?_eq_getElem hi', Option.bind_eq_some_iff] at this
      obtain ⟨vs, hv, hy⟩ := this
      obtain ⟨b, hb1, hb2, hb3⟩ := he _ _ _ hy
      refine ⟨b, vs, hb1, hv, hb2, fun d hd => ?_⟩
      rw [List.getElem?_map, List.getElem?_eq_getElem hi'] at hd
      simp at hd; subst hd; exact hb3)
    have hcell : ∀ i b, l[i]? = some b → ∃ vs, vs.length = sz ∧ R w b vs ∧ ∀ j v, vs[j]? = some v → w.cell? (a.add (i * sz + j)) = some v := by
      intro i b hb
      obtain ⟨vs, g1, g2, g3, _⟩ := h2 i b hb
      refine ⟨vs, g1, g3, fun j v hv => ?_⟩
      unfold World.cells? at g2
      rw [if_pos (Nat.zero_le _)] at g2
      have hj : j < sz := by have := (List.getElem?_eq_some_iff.1 hv).1; omega
      have := Lib.mapM_at g2 j j (by simp [hj])
      obtain ⟨u, hu1, hu2⟩ := this
      rw [hv] at hu1; simp at hu1; subst hu1
      rw [← add_add]; exact hu2
    refine ⟨some a, l, cap, by rw [h1], by omega, hm, fun h => by simp at h, ⟨fun hn => ⟨by simp, ?_⟩, fun i b hb => hcell i b hb⟩, .inr ⟨elems.map (·.1), rest.map (·.1), rfl, by rw [List.length_map, hlen, h1], fun i b d hb hd => ?_⟩⟩
    · obtain ⟨b, hb⟩ : ∃ b, l[0]? = some b := ⟨l[0]'(List.length_pos_iff.2 hn), List.getElem?_eq_getElem _⟩
      obtain ⟨vs, g1, _, g3⟩ := hcell 0 b hb
      have := g3 0 vs[0] (List.getElem?_eq_getElem (by omega))
      simp only [gA]
      rw [← block_add a (0 * sz + 0)]
      exact cell_lt this
    · obtain ⟨_, _, _, _, g⟩ := h2 i b hb
      exact g d hd
end
end Go.Sh
namespace Go.Proofs.YtfnjodpehomgfaaDoor
open Go Go.Sh Go.Tx
set_option linter.unusedVariables false
set_option linter.unusedSimpArgs false
set_option linter.unusedSectionVars false
attribute [local irreducible] Blk Ext RdS
theorem u_string : Tryd.prog.underlying 9 = some .string := (T.ok.1.get (t := 9) (i := T.t9) rfl).1
theorem c_string : Tryd.prog.cellsOf 9 = 1 := by kernel_rfl
abbrev sE : Bs → List Value := fun b => [Value.string (bs b)]
def strD {H : Type} (l : List Bs) : List (DataW H) := l.map fun b => .lit (.string b)
theorem str_cell {H : Type} {enc : TypeId × Value → H} {w : World} {sp : Nat → Bool} {held : Bool} {fuel : Nat} {cs : List Value} {x : DataW H × List MemPlace} {b : Bs} (h : DataW.trod enc Tryd.prog w 0 sp held fuel 9 cs = some x) (hx : x.1 = .lit (.string b)) : cs = [.string (bs b)] := by
  obtain ⟨s, rfl, rfl, _⟩ := DataW.trod_string u_string h
  simp only [DataW.lit.injEq, Lit.string.injEq] at hx
  rw [← hx, ← bs_of]
theorem tab_str {name : String} {g t n : Nat} {l : List Bs} {rest : List (String × DataW Unit)} {w : World} (hg : Tryd.prog.globalNamed name = some g) (hty : (Tryd.prog.globals[g]?).map (·.type) = some t)
    (hu : Tryd.prog.underlying t = some (.array n 9)) (hn : l.length = n) (hct : Tryd.prog.cellsOf t = n) (h : laidMet Tryd.prog ((name, .agg (strD l)) :: rest) w) : RdS sE 1 w (some ⟨g, 0, none⟩) l := by
  obtain ⟨ps, ⟨g', t', cs, fuel, p, q, hg', ht', hvar, hd, _, _⟩, _⟩ := h
  obtain rfl := Option.some.inj (hg.symm.trans hg')
  obtain rfl := Option.some.inj (hty.symm.trans ht')
  obtain ⟨xs, m, _, hx, hl, hxs, hf⟩ := DataW.trod_array hu hd
  rw [hct] at hl
  rw [c_string] at hf
  have hxs2 : xs.map (·.1) = strD l := by
    have := congrArg Prod.fst hx
    simp only [DataW.agg.injEq] at this
    exact this.symm
  have hblk : ∃ tt fr cs0, w.heap[g]? = some (.cells cs0 tt fr) ∧ cs0.toList = cs.toList := by
    simp only [World.var?, hg, Option.bind_some] at hvar
    split at hvar
    · rename_i c1 t1 f1 hh
      simp at hvar; subst hvar
      exact ⟨t1, f1, _, hh, rfl⟩
    · simp at hvar
  obtain ⟨tt, fr, cs0, hb, hcs0⟩ := hblk
  unfold RdS
  refine ⟨fun _ => ⟨by simp, (Array.getElem?_eq_some_iff.1 hb).1⟩, fun i b hb2 => ⟨sE b, rfl, rfl, fun j v hv => ?_⟩⟩
  have hi : i < n := by rw [← hn]; exact (List.getElem?_eq_some_iff.1 hb2).1
  have h3 := hf i hi
  rw [List.getElem?_eq_getElem (by omega)] at h3
  have h4 : (xs.map (·.1))[i]? = some (.lit (.string b)) := by rw [hxs2, strD, List.getElem?_map, hb2]; rfl
  rw [List.getElem?_map, List.getElem?_eq_getElem (by omega)] at h4
  have h5 := str_cell h3 (Option.some.inj h4)
  have hj : j = 0 := by
    have := (List.getElem?_eq_some_iff.1 hv).1
    simp [sE] at this; omega
  subst hj
  simp only [gA]
  rw [add_lit]
  simp only [World.cell?, hb]
  rw [Nat.zero_add, ← Array.getElem?_toList]
  have h6 := congrArg (·[0]?) h5
  simp only [List.getElem?_cons_zero] at h6
  rw [List.getElem?_take_of_lt (by omega), List.getElem?_drop] at h6
  rw [hcs0]
  rw [← hv]
  exact h6
theorem u_strs : Tryd.prog.underlying 22 = some (.slice 9) := (T.ok.1.get (t := 22) (i := T.t22) rfl).1
theorem c_strs : Tryd.prog.cellsOf 22 = 1 := by kernel_rfl
theorem strs_cell {H : Type} {enc : TypeId × Value → H} {w : World} {sp : Nat → Bool} {held : Bool} {fuel : Nat} {cs : List Value} {x : DataW H × List MemPlace} {l : List Bs} {r : List (DataW H)}
    (h : DataW.trod enc Tryd.prog w 0 sp held fuel 22 cs = some x) (hx : x.1 = .slice (strD l) r) : ∃ (A : Option Addr) (c : Nat), cs = [.slice A l.length c] ∧ RdS sE 1 w A l := by
  rcases DataW.trod_slice u_strs h with ⟨rfl, rfl⟩ | ⟨a, len, cap, elems, rest, n, _, rfl, rfl, _, hl, hm, hlen, hel, _⟩
  · simp at hx
  simp only [DataW.slice.injEq] at hx
  have hll : l.length = len := by
    have := congrArg List.length hx.1
    simp only [List.length_map, strD] at this
    omega
  refine ⟨some a, cap, by rw [hll], ?_⟩
  rw [c_string] at hel
  have hcell : ∀ i b, l[i]? = some b → w.cell? (a.add (i * 1)) = some (.string (bs b)) := by
    intro i b hb
    have hi : i < len := by rw [← hll]; exact (List.getElem?_eq_some_iff.1 hb).1
    have h1 := hel i hi
    rw [List.getElem?_eq_getElem (by omega), Option.bind_eq_some_iff] at h1
    obtain ⟨vs, hv, hy⟩ := h1
    have h4 : (elems.map (·.1))[i]? = some (.lit (.string b)) := by rw [hx.1, strD, List.getElem?_map, hb]; rfl
    rw [List.getElem?_map, List.getElem?_eq_getElem (by omega)] at h4
    have h5 := str_cell hy (Option.some.inj h4)
    subst h5
    unfold World.cells? at hv
    rw [if_pos (Nat.zero_le _)] at hv
    obtain ⟨u, hu1, hu2⟩ := Lib.mapM_at hv 0 0 (by simp)
    simp at hu1; subst hu1
    exact hu2
  unfold RdS
  refine ⟨fun hn => ⟨by simp, ?_⟩, fun i b hb => ⟨sE b, rfl, rfl, fun j v hv => ?_⟩⟩
  · obtain ⟨b, hb⟩ : ∃ b, l[0]? = some b := ⟨l[0]'(List.length_pos_iff.2 hn), List.getElem?_eq_getElem _⟩
    have := hcell 0 b hb
    simp only [gA]
    rw [← block_add a (0 * 1)]
    exact cell_lt this
  · have hj : j = 0 := by
      have := (List.getElem?_eq_some_iff.1 hv).1
      simp [sE] at this; omega
    subst hj
    simp only [gA, Nat.add_zero]
    rw [hcell i b hb]
    exact hv
theorem tab_lvl {name : String} {g t n : Nat} {ls : List (List Bs)} {rest : List (String × DataW Unit)} {w : World} (hg : Tryd.prog.globalNamed name = some g) (hty : (Tryd.prog.globals[g]?).map (·.type) = some t)
    (hu : Tryd.prog.underlying t = some (.array n 22)) (hn : ls.length = n) (hct : Tryd.prog.cellsOf t = n) (h : laidMet Tryd.prog ((name, .agg (ls.map fun l => .slice (strD l) [])) :: rest) w) :
    ∃ As : List (Option Addr × Nat), As.length = n ∧ RdS (fun x : Option Addr × Nat × Nat => [Value.slice x.1 x.2.1 x.2.2]) 1 w (some ⟨g, 0, none⟩) ((As.zip ls).map fun x => (x.1.1, x.2.length, x.1.2)) ∧ ∀ x ∈ As.zip ls, RdS sE 1 w x.1.1 x.2 := by
  obtain ⟨ps, ⟨g', t', cs, fuel, p, q, hg', ht', hvar, hd, _, _⟩, _⟩ := h
  obtain rfl := Option.some.inj (hg.symm.trans hg')
  obtain rfl := Option.some.inj (hty.symm.trans ht')
  obtain ⟨xs, m, _, hx, hl, hxs, hf⟩ := DataW.trod_array hu hd
  rw [hct] at hl
  rw [c_strs] at hf
  have hxs2 : xs.map (·.1) = ls.map fun l => .slice (strD l) [] := by
    have := congrArg Prod.fst hx
    simp only [DataW.agg.injEq] at this
    exact this.symm
  have hblk : ∃ tt fr cs0, w.heap[g]? = some (.cells cs0 tt fr) ∧ cs0.toList = cs.toList := by
    simp only [World.var?, hg, Option.bind_some] at hvar
    split at hvar
    · rename_i c1 t1 f1 hh
      simp at hvar; subst hvar
      exact ⟨t1, f1, _, hh, rfl⟩
    · simp at hvar
  obtain ⟨tt, fr, cs0, hb, hcs0⟩ := hblk
  obtain ⟨As, hA1, hA2⟩ := exists_list (α := Option Addr × Nat) (Q := fun i A => ∀ l, ls[i]? = some l → (cs.toList.drop (i * 1)).take 1 = [.slice A.1 l.length A.2] ∧ RdS sE 1 w A.1 l) n (fun i hi => by
    have h3 := hf i hi
    rw [List.getElem?_eq_getElem (by omega)] at h3
    obtain ⟨l, hli⟩ : ∃ l, ls[i]? = some l := ⟨ls[i]'(by omega), List.getElem?_eq_getElem _⟩
    have h4 : (xs.map (·.1))[i]? = some (.slice (strD l) []) := by rw [hxs2, List.getElem?_map, hli]; rfl
    rw [List.getElem?_map, List.getElem?_eq_getElem (by omega)] at h4
    obtain ⟨A, c, h5, h6⟩ := strs_cell h3 (Option.some.inj h4)
    exact ⟨(A, c), fun l' hl' => by rw [hli] at hl'; obtain rfl := Option.some.inj hl'; exact ⟨h5, h6⟩⟩)
  refine ⟨As, hA1, ?_, fun x hx => ?_⟩
  · unfold RdS
    refine ⟨fun _ => ⟨by simp, (Array.getElem?_eq_some_iff.1 hb).1⟩, fun i y hy => ⟨_, rfl, rfl, fun j v hv => ?_⟩⟩
    rw [List.getElem?_map] at hy
    obtain ⟨z, hz1, rfl⟩ := Option.map_eq_some_iff.1 hy
    obtain ⟨h7, h8⟩ := List.getElem?_zip_eq_some.1 hz1
    obtain ⟨h9, _⟩ := hA2 i z.1 h7 z.2 h8
    have hj : j = 0 := by
      have := (List.getElem?_eq_some_iff.1 hv).1
      simp at this; omega
    subst hj
    simp only [gA]
    rw [add_lit]
    simp only [World.cell?, hb]
    rw [Nat.zero_add, ← Array.getElem?_toList]
    have h6 := congrArg (·[0]?) h9
    simp only [List.getElem?_cons_zero] at h6
    rw [List.getElem?_take_of_lt (by omega), List.getElem?_drop] at h6
    rw [hcs0]
    rw [← hv]
    exact h6
  · obtain ⟨i, hi⟩ := List.getElem?_of_mem hx
    obtain ⟨h7, h8⟩ := List.getElem?_zip_eq_some.1 hi
    exact (hA2 i x.1 h7 x.2 h8).2
theorem Pow.ext {w w' : World} (h : Pow w) (e : Ext w w') (hb : ∀ g, Tryd.prog.globalNamed "internal/strconv.uint64pow10" = some g → g < w.heap.size) : Pow w' := by
  unfold Pow Go.Lib.TabIs World.var? at h ⊢
  cases hg : Tryd.prog.globalNamed "internal/strconv.uint64pow10" with
  | none => rw [hg] at h; exact h
  | some g =>
    rw [hg] at h
    simp only [Option.bind_some] at h ⊢
    have e2 := e
    unfold Ext at e2
    rw [Go.RowKit.Below.block e2 g (hb g hg)]
    exact h
theorem Pow.lt {w : World} (h : Pow w) (g : Nat) (hg : Tryd.prog.globalNamed "internal/strconv.uint64pow10" = some g) : g < w.heap.size := by
  unfold Pow Go.Lib.TabIs World.var? at h
  rw [hg] at h
  simp only [Option.bind_some] at h
  rcases Nat.lt_or_ge g w.heap.size with h1 | h1
  · exact h1
  · rw [Array.getElem?_eq_none h1] at h
    simp at h
theorem rg_of {w : World} (hk : RdS sE 1 w (some ⟨3, 0, none⟩) keywords) (hs : RdS sE 1 w (some ⟨1, 0, none⟩) signs) (hn : RdS sE 1 w (some ⟨7, 0, none⟩) opNames)
    (hl : ∃ As : List (Option Addr × Nat), As.length = 8 ∧ RdS (fun x : Option Addr × Nat × Nat => [Value.slice x.1 x.2.1 x.2.2]) 1 w (some ⟨6, 0, none⟩) ((As.zip levels).map fun x => (x.1.1, x.2.length, x.1.2)) ∧ ∀ x ∈ As.zip levels, RdS sE 1 w x.1.1 x.2)
    (hP : Pow w) (hE : EG w) : Rg w :=
  ⟨⟨hk, hs, hn, hl, fun s w' e h1 h2 h3 => parse_c s w' h1 h2 h3 fun w'' e2 => hP.ext (Ext.trans e e2) hP.lt⟩, hE⟩
theorem eg_of {w : World} (h : handlesMet Tryd.prog [("errors.errorType", Rows.laid_errors_errorType)] w) : EG w := by
  obtain ⟨name, u, ty, e1, e2, e3, e4, e5⟩ := h _ (List.mem_singleton.2 rfl)
  have en : name = [101, 114, 114, 111, 114] := (Option.some.inj e1).symm
  subst en
  have hrt : (Tryd.prog.cutTypes.find? (·.1 == "internal/reflectlite.rtype")).map (·.2) = some 108 := by kernel_rfl
  obtain rfl := Option.some.inj (hrt.symm.trans e2)
  have hone : ((List.range Tryd.prog.types.size).filter fun t => Tryd.prog.rowNamed t [101, 114, 114, 111, 114]) = [54] := by kernel_rfl
  have hm : ty ∈ (List.range Tryd.prog.types.size).filter fun t => Tryd.prog.rowNamed t [101, 114, 114, 111, 114] := List.mem_filter.2 ⟨List.mem_range.2 e3, e4⟩
  rw [hone] at hm
  obtain rfl := List.mem_singleton.1 hm
  have hh : typeHandle Tryd.prog 54 = .pointer (some ⟨9, 54, none⟩) := by kernel_rfl
  rw [hh] at e5
  have het : Tryd.prog.globalNamed "errors.errorType" = some 0 := by kernel_rfl
  have := World.var?_cell het e5 0
  unfold EG
  simpa using this
end Go.Proofs.YtfnjodpehomgfaaDoor
namespace Go.Tx
set_option linter.unusedVariables false
set_option linter.unusedSimpArgs false
set_option linter.unusedSectionVars false
/-! ### words -/
def W (l : Bs) (p : Nat) : List Tk := words l (l.length + 1 - p) p
theorem W_step {l : Bs} {p q : Nat} {t : Tk} (hp : p ≤ l.length) (h : readT l p = (t, q)) (he : t.err = 0) (hk : t.kind ≠ k_end) : W l p = t :: W l q := by
  obtain ⟨r, h1, h2⟩ := words_at l hp
  rw [h] at h1 h2
  unfold W
  rw [h1, h2 he hk]
theorem W_end {l : Bs} {p q : Nat} {t : Tk} (hp : p ≤ l.length) (h : readT l p = (t, q)) (hk : t.kind = k_end) : W l p = [t] := by
  unfold W
  rw [show l.length + 1 - p = (l.length - p) + 1 by omega, words_succ, h, if_pos (.inr hk)]
theorem drop_at {l w r : Bs} {p : Nat} (h : l.drop p = w ++ r) : l.drop (p + w.length) = r := by
  rw [← List.drop_drop, h, List.drop_left]
theorem drop_le {l w : Bs} {p : Nat} (hw : w ≠ []) (h : l.drop p = w) : p + w.length = l.length := by
  have h2 := congrArg List.length h
  rw [List.length_drop] at h2
  have : 0 < w.length := List.length_pos_iff.2 hw
  omega
theorem read_blank {l r : Bs} {p : Nat} (h : l.drop p = 32 :: r) : readT l p = readT l (p + 1) := by
  have h2 : l.drop (p + 1) = r := drop_at (w := [32]) h
  have h3 : skp false (l.drop p) p = skp false (l.drop (p + 1)) (p + 1) := by
    rw [h, h2, skp, if_pos (by decide)]
  unfold readT
  rw [h3]
theorem skp_here {c : UInt8} {r : Bs} {p : Nat} (hb : blank c = false) (h47 : c.toNat ≠ 47) : skp false (c :: r) p = p := by
  rw [skp, hb, if_neg (by simp), if_neg (fun h => h47 h.1)]
theorem span_ds {ds : Bs} (hd : Digs ds) : ∀ {r : Bs}, (∀ c r', r = c :: r' → digit c = false) → spanN digit (ds ++ r) = ds.length := by
  induction ds with
  | nil =>
    intro r h
    cases r with
    | nil => rfl
    | cons c r' => simp only [List.nil_append, spanN, h c r' rfl]; rfl
  | cons c ds ih =>
    intro r h
    simp only [List.cons_append, spanN, hd c (by simp), if_true, List.length_cons]
    rw [ih (fun x hx => hd x (by simp [hx])) h]
theorem dig_not {c : UInt8} (h : digit c = true) : letter c = false ∧ blank c = false ∧ c.toNat ≠ 47 := by
  have := dig_range h
  refine ⟨?_, ?_, by omega⟩
  · simp only [letter, decide_eq_false_iff_not]; omega
  · simp only [blank, decide_eq_false_iff_not]; omega
theorem read_digs {l ds r : Bs} {p : Nat} (h : l.drop p = ds ++ r) (hd : Digs ds) (hne : ds ≠ []) (hr : ∀ c r', r = c :: r' → digit c = false) : readT l p = (number ds p, p + ds.length) := by
  cases ds with
  | nil => exact absurd rfl hne
  | cons c ds =>
    obtain ⟨h1, h2, h3⟩ := dig_not (hd c (by simp))
    have hs := span_ds hd hr
    unfold readT
    rw [h, List.cons_append, skp_here h2 h3, h, List.cons_append]
    simp only [h1, hd c (by simp), if_true]
    rw [if_neg (by simp)]
    rw [List.cons_append] at hs
    rw [hs]
    have : List.take (c :: ds).length (c :: (ds ++ r)) = c :: ds := by
      rw [← List.cons_append, List.take_left]
    rw [this]
theorem read_sign {l r : Bs} {p : Nat} {c : UInt8} (h : l.drop p = c :: r) (h1 : letter c = false) (h2 : digit c = false) (h3 : blank c = false) (h4 : c.toNat ≠ 47) (hs : signAt (c :: r) = some [c]) : readT l p = (⟨[c], [c], p, 0, 0⟩, p + 1) := by
  unfold readT
  rw [h, skp_here h3 h4, h]
  simp only [h1, h2, hs]
  rfl
theorem read_end {l : Bs} {p : Nat} (h : l.drop p = []) : readT l p = (⟨k_end, [], l.length, 0, 0⟩, l.length) := by
  unfold readT
  rw [h, skp, h]
/-! ### numbers -/
theorem dec_len : ∀ (k m : Nat), m < 10 ^ (k + 1) → (Go.Lib.decDigits m).length ≤ k + 1
  | 0, m, h => by
    rw [Go.Lib.decDigits, dif_pos (by omega)]; simp
  | k + 1, m, h => by
    rw [Go.Lib.decDigits]
    split
    · simp
    · have := dec_len k (m / 10) (by rw [Nat.pow_succ] at h; omega)
      rw [List.length_append, List.length_singleton]; omega
theorem neg_dec {m : Nat} (h : m ≤ 9223372036854775808) : negOf (Go.Lib.decDigits m) = some (-(m : Int)) := by
  unfold negOf
  by_cases h0 : m = 0
  · subst h0
    rw [if_pos (by rw [Go.Lib.decDigits, dif_pos (by decide)]; rfl)]; rfl
  · have h1 := dec_head m (by omega)
    rw [if_neg (fun e => h1 (by rw [e]; rfl)), if_neg, val_dec]
    rintro (e | e | e)
    · have := dec_len 18 m (by omega)
      omega
    · rw [val_dec] at e; omega
    · exact h1 e
def numT (m p : Nat) : Tk := ⟨k_number, Go.Lib.decDigits m, p, -(m : Int), 0⟩
theorem number_dec {m p : Nat} (h : m ≤ 9223372036854775808) : number (Go.Lib.decDigits m) p = numT m p := by
  unfold number
  rw [neg_dec h]; rfl
/-! ### reading -/
theorem step_ok {a b : Tk} {r : List Tk} {m : Bool} (hb : b.err = 0) (hn : ¬ (b.kind = k_number ∧ b.n = -9223372036854775808 ∧ m = false)) : stepP m (a :: b :: r) = .ok () (b :: r) := by
  simp only [stepP]
  rw [if_neg (fun e => e hb), if_neg hn]
theorem take_ok {k : Bs} {a b : Tk} {r : List Tk} (hk : a.kind = k) (hb : b.err = 0) (hn : ¬ (b.kind = k_number ∧ b.n = -9223372036854775808 ∧ false = false)) : takeP k (a :: b :: r) = .ok a (b :: r) := by
  unfold takeP
  rw [if_neg (fun e => e hk), step_ok hb hn]; rfl
theorem take_c {k k2 t t2 : Bs} {p p2 : Nat} {r : List Tk} (h : k2 ≠ k_number) : takeP k (⟨k, t, p, 0, 0⟩ :: ⟨k2, t2, p2, 0, 0⟩ :: r) = .ok ⟨k, t, p, 0, 0⟩ (⟨k2, t2, p2, 0, 0⟩ :: r) := take_ok rfl rfl fun e => h e.1
theorem un_s (n d : Nat) (ts : List Tk) : (pf (n + 1)).unary d ts = unaryP (pf n) d ts := rfl
theorem pr_s (n d : Nat) (ts : List Tk) : (pf (n + 1)).primary d ts = primaryP (pf n) d ts := rfl
theorem bl_s (n d : Nat) (ts : List Tk) : (pf (n + 1)).block d ts = blockP (pf n) d ts := rfl
theorem bind_ok {α β : Type} {a : α} {ts : List Tk} {k : α → List Tk → Res β} : (Res.ok a ts).bind k = k a ts := rfl
def NoSign (k : Bs) : Prop := ∀ lv, standsB lv k = false
theorem no_semi : NoSign s_semi := fun lv => by
  match lv with
  | 0 | 1 | 2 | 3 | 4 | 5 | 6 | 7 => rfl
  | n + 8 => rfl
theorem no_rp : NoSign s_rp := fun lv => by
  match lv with
  | 0 | 1 | 2 | 3 | 4 | 5 | 6 | 7 => rfl
  | n + 8 => rfl
theorem expr_up {f d : Nat} {ts ts' : List Tk} {e : Ex} (h : (pf f).unary d ts = .ok e ts') (hs : NoSign (curK ts')) : ∀ k, k ≤ 8 → (pf (f + 1 + k)).expr (8 - k) d ts = .ok e ts'
  | 0, _ => by
    show exprP (pf f) 8 d ts = _
    unfold exprP
    rw [if_pos rfl, h]
  | k + 1, hk => by
    show exprP (pf (f + 1 + k)) (8 - (k + 1)) d ts = _
    unfold exprP
    rw [if_neg (by omega), show 8 - (k + 1) + 1 = 8 - k by omega, expr_up h hs k (by omega), bind_ok]
    unfold loopE
    rw [hs, if_neg (by simp)]
theorem expr0 {f d : Nat} {ts ts' : List Tk} {e : Ex} (h : (pf f).unary d ts = .ok e ts') (hs : NoSign (curK ts')) : (pf (f + 9)).expr 0 d ts = .ok e ts' := expr_up h hs 8 (Nat.le_refl _)
/-- a number alone -/
theorem un_num {h d m p : Nat} {b : Tk} {r : List Tk} (hm : m ≤ 9223372036854775807) (hb : b.err = 0) (hk : b.kind ≠ k_number) : (pf (h + 2)).unary d (numT m p :: b :: r) = .ok (.mk 0 0 (m : Int) [] [] []) (b :: r) := by
  rw [show h + 2 = (h + 1) + 1 from rfl, un_s]
  unfold unaryP
  rw [if_pos (show curK (numT m p :: b :: r) ≠ s_minus ∧ curK (numT m p :: b :: r) ≠ s_bang from ⟨by show k_number ≠ s_minus; decide, by show k_number ≠ s_bang; decide⟩)]
  rw [pr_s]
  unfold primaryP
  rw [if_pos (show curK (numT m p :: b :: r) = k_number from rfl), step_ok hb (fun e => hk e.1), bind_ok]
  have : negW (curT (numT m p :: b :: r)).n = (m : Int) := by
    show negW (-(m : Int)) = _
    unfold negW
    rw [if_neg (by omega)]; omega
  rw [this]
theorem un_neg {h d m p q : Nat} {b : Tk} {r : List Tk} (hm : m ≤ 9223372036854775808) (hd : d + 1 ≤ 40) (hb : b.err = 0) (hk : b.kind ≠ k_number) : (pf (h + 2)).unary d (⟨s_minus, s_minus, q, 0, 0⟩ :: numT m p :: b :: r) = .ok (.mk 0 0 (-(m : Int)) [] [] []) (b :: r) := by
  rw [show h + 2 = (h + 1) + 1 from rfl, un_s]
  unfold unaryP
  rw [if_neg (fun e => e.1 rfl)]
  unfold deepP
  rw [if_neg (by omega), bind_ok, step_ok rfl (fun e => by simp [curK] at e), bind_ok]
  rw [if_pos (show curK (⟨s_minus, s_minus, q, 0, 0⟩ :: numT m p :: b :: r) = s_minus ∧ curK (numT m p :: b :: r) = k_number from ⟨rfl, rfl⟩), step_ok hb (fun e => hk e.1), bind_ok]
  rfl
theorem un_par {g d q1 q2 q3 : Nat} {x b : Tk} {xs r : List Tk} {e : Ex} (hd : d + 2 ≤ 40) (hx : x.err = 0) (hn : ¬ (x.kind = k_number ∧ x.n = -9223372036854775808)) (hb : b.err = 0) (hk : b.kind ≠ k_number)
    (h : (pf g).expr 0 (d + 2) (x :: xs) = .ok e (⟨s_rp, s_rp, q3, 0, 0⟩ :: b :: r)) :
    (pf (g + 3)).unary d (⟨s_minus, s_minus, q1, 0, 0⟩ :: ⟨s_lp, s_lp, q2, 0, 0⟩ :: x :: xs) = .ok (.mk 2 0 0 [] [] [e]) (b :: r) := by
  rw [show g + 3 = (g + 2) + 1 from rfl, un_s]
  unfold unaryP
  rw [if_neg (fun e => e.1 rfl)]
  unfold deepP
  rw [if_neg (by omega), bind_ok, step_ok rfl (fun e => absurd e.1 (by show s_lp ≠ k_number; decide)), bind_ok]
  rw [if_neg (fun e => absurd e.2 (by show s_lp ≠ k_number; decide))]
  have h2 : (pf (g + 2)).unary (d + 1) (⟨s_lp, s_lp, q2, 0, 0⟩ :: x :: xs) = .ok e (b :: r) := by
    rw [show g + 2 = (g + 1) + 1 from rfl, un_s]
    unfold unaryP
    rw [if_pos (show curK (⟨s_lp, s_lp, q2, 0, 0⟩ :: x :: xs) ≠ s_minus ∧ curK (⟨s_lp, s_lp, q2, 0, 0⟩ :: x :: xs) ≠ s_bang from ⟨by show s_lp ≠ s_minus; decide, by show s_lp ≠ s_bang; decide⟩)]
    rw [pr_s]
    unfold primaryP
    rw [if_neg (show ¬ curK (⟨s_lp, s_lp, q2, 0, 0⟩ :: x :: xs) = k_number from by show ¬ s_lp = k_number; decide), if_neg (show ¬ curK (⟨s_lp, s_lp, q2, 0, 0⟩ :: x :: xs) = k_name from by show ¬ s_lp = k_name; decide), if_pos (show curK (⟨s_lp, s_lp, q2, 0, 0⟩ :: x :: xs) = s_lp from rfl)]
    unfold deepP
    rw [if_neg (by omega), bind_ok, step_ok hx (fun e => hn ⟨e.1, e.2.1⟩), bind_ok, h, bind_ok, take_ok (k := s_rp) (a := ⟨s_rp, s_rp, q3, 0, 0⟩) rfl hb (fun e => hk e.1), bind_ok]
  rw [h2, bind_ok]
  rfl
/-- the little function around an expression -/
theorem shell {M a0 a1 a2 a3 a4 a5 q1 q2 q3 : Nat} {x : Tk} {xs : List Tk} {e : Ex} {nm : Bs} (hx : x.err = 0) (hn : ¬ (x.kind = k_number ∧ x.n = -9223372036854775808))
    (h : (pf M).expr 0 1 (x :: xs) = .ok e (⟨s_semi, s_semi, q1, 0, 0⟩ :: ⟨s_rb, s_rb, q2, 0, 0⟩ :: ⟨k_end, [], q3, 0, 0⟩ :: [])) :
    functionP (pf (M + 1)) (⟨k_fn, k_fn, a0, 0, 0⟩ :: ⟨k_name, nm, a1, 0, 0⟩ :: ⟨s_lp, s_lp, a2, 0, 0⟩ :: ⟨s_rp, s_rp, a3, 0, 0⟩ :: ⟨s_lb, s_lb, a4, 0, 0⟩ :: ⟨k_return, k_return, a5, 0, 0⟩ :: x :: xs)
      = .ok ⟨nm, [], [.mk 7 [] e [] []]⟩ [⟨k_end, [], q3, 0, 0⟩] := by
  have hst : stmtP (pf M) 1 (⟨k_return, k_return, a5, 0, 0⟩ :: x :: xs) = .ok (.mk 7 [] e [] []) [⟨s_rb, s_rb, q2, 0, 0⟩, ⟨k_end, [], q3, 0, 0⟩] := by
    unfold stmtP
    rw [if_pos (show beginsB (curK (⟨k_return, k_return, a5, 0, 0⟩ :: x :: xs)) = true from rfl)]
    unfold deepP
    rw [if_neg (by decide), bind_ok, if_neg (show ¬ curK (⟨k_return, k_return, a5, 0, 0⟩ :: x :: xs) = k_if from by show ¬ k_return = k_if; decide), if_neg (show ¬ curK (⟨k_return, k_return, a5, 0, 0⟩ :: x :: xs) = k_while from by show ¬ k_return = k_while; decide)]
    have hp : plainP (pf M) 1 (⟨k_return, k_return, a5, 0, 0⟩ :: x :: xs) = .ok (.mk 7 [] e [] []) [⟨s_semi, s_semi, q1, 0, 0⟩, ⟨s_rb, s_rb, q2, 0, 0⟩, ⟨k_end, [], q3, 0, 0⟩] := by
      unfold plainP
      rw [step_ok hx (fun e => hn ⟨e.1, e.2.1⟩), bind_ok]
      rw [if_neg (show ¬ curK (⟨k_return, k_return, a5, 0, 0⟩ :: x :: xs) = k_sync from by show ¬ k_return = k_sync; decide), if_neg (show ¬ curK (⟨k_return, k_return, a5, 0, 0⟩ :: x :: xs) = k_break from by show ¬ k_return = k_break; decide), if_neg (show ¬ curK (⟨k_return, k_return, a5, 0, 0⟩ :: x :: xs) = k_continue from by show ¬ k_return = k_continue; decide), if_neg (show ¬ curK (⟨k_return, k_return, a5, 0, 0⟩ :: x :: xs) = k_do from by show ¬ k_return = k_do; decide), if_pos (show curK (⟨k_return, k_return, a5, 0, 0⟩ :: x :: xs) = k_return from rfl)]
      rw [h, bind_ok]
    rw [hp, bind_ok, take_c (k := s_semi) (k2 := s_rb) (by decide), bind_ok]
  have hbl : (pf (M + 1)).block 1 (⟨s_lb, s_lb, a4, 0, 0⟩ :: ⟨k_return, k_return, a5, 0, 0⟩ :: x :: xs) = .ok [.mk 7 [] e [] []] [⟨k_end, [], q3, 0, 0⟩] := by
    rw [bl_s]
    unfold blockP
    rw [take_c (k := s_lb) (k2 := k_return) (by decide), bind_ok]
    have hlp : loopB (pf M) 1 ((⟨k_return, k_return, a5, 0, 0⟩ :: x :: xs).length + 1) [] (⟨k_return, k_return, a5, 0, 0⟩ :: x :: xs) = .ok [.mk 7 [] e [] []] [⟨s_rb, s_rb, q2, 0, 0⟩, ⟨k_end, [], q3, 0, 0⟩] := by
      rw [List.length_cons]
      unfold loopB
      rw [if_neg (show ¬ curK (⟨k_return, k_return, a5, 0, 0⟩ :: x :: xs) = s_rb from by show ¬ k_return = s_rb; decide), hst, bind_ok]
      unfold loopB
      rw [if_pos (show curK [⟨s_rb, s_rb, q2, 0, 0⟩, ⟨k_end, [], q3, 0, 0⟩] = s_rb from rfl)]
      rfl
    rw [hlp, bind_ok, take_c (k := s_rb) (k2 := k_end) (by decide), bind_ok]
  unfold functionP
  rw [take_c (k := k_fn) (k2 := k_name) (by decide), bind_ok, take_c (k := k_name) (k2 := s_lp) (by decide), bind_ok, take_c (k := s_lp) (k2 := s_rp) (by decide), bind_ok]
  unfold loopN
  rw [if_pos (show curK (⟨s_rp, s_rp, a3, 0, 0⟩ :: ⟨s_lb, s_lb, a4, 0, 0⟩ :: ⟨k_return, k_return, a5, 0, 0⟩ :: x :: xs) = s_rp from rfl), bind_ok, take_c (k := s_rp) (k2 := s_lb) (by decide), bind_ok, hbl, bind_ok]
def preR : Bs := [102, 110, 32, 102, 40, 41, 32, 123, 32, 114, 101, 116, 117, 114, 110, 32]
def postR : Bs := [59, 32, 125]
def sgn (c : UInt8) (p : Nat) : Tk := ⟨[c], [c], p, 0, 0⟩
theorem W_sign {l r : Bs} {p : Nat} {c : UInt8} (h : l.drop p = c :: r) (h1 : letter c = false) (h2 : digit c = false) (h3 : blank c = false) (h4 : c.toNat ≠ 47) (hs : signAt (c :: r) = some [c]) : W l p = sgn c p :: W l (p + 1) := by
  have hp := drop_le (w := c :: r) (by simp) h
  exact W_step (by omega) (read_sign h h1 h2 h3 h4 hs) rfl (by show ([c] : Bs) ≠ k_end; simp [k_end])
theorem W_num {l r : Bs} {p m : Nat} (h : l.drop p = Go.Lib.decDigits m ++ r) (hm : m ≤ 9223372036854775808) (hr : ∀ c r', r = c :: r' → digit c = false) : W l p = numT m p :: W l (p + (Go.Lib.decDigits m).length) := by
  have hne := dec_ne m
  have hp := drop_le (w := Go.Lib.decDigits m ++ r) (by simp [hne]) h
  have h2 := read_digs h (dec_dig m) hne hr
  rw [number_dec hm] at h2
  exact W_step (by omega) h2 rfl (by show k_number ≠ k_end; decide)
theorem W_tail {l : Bs} {p : Nat} (h : l.drop p = postR) : W l p = [⟨s_semi, s_semi, p, 0, 0⟩, ⟨s_rb, s_rb, p + 2, 0, 0⟩, ⟨k_end, [], l.length, 0, 0⟩] := by
  have hp := drop_le (w := postR) (by simp [postR]) h
  have h1 : l.drop (p + 1) = [32, 125] := drop_at (w := [59]) h
  have h2 : l.drop (p + 2) = [125] := drop_at (w := [59, 32]) h
  have h3 : l.drop (p + 3) = [] := drop_at (w := [59, 32, 125]) h
  have hl : postR.length = 3 := rfl
  rw [W_sign (c := 59) h rfl rfl rfl (by decide) rfl]
  rw [W_step (p := p + 1) (by omega) ((read_blank h1).trans (read_sign (c := 125) h2 rfl rfl rfl (by decide) rfl)) rfl (by show ([125] : Bs) ≠ k_end; decide)]
  rw [W_end (p := p + 2 + 1) (by omega) (read_end h3) rfl]
  rfl
theorem W_pre (X : Bs) : words (preR ++ X) ((preR ++ X).length + 1) 0 = ⟨k_fn, k_fn, 0, 0, 0⟩ :: ⟨k_name, [102], 3, 0, 0⟩ :: ⟨s_lp, s_lp, 4, 0, 0⟩ :: ⟨s_rp, s_rp, 5, 0, 0⟩ :: ⟨s_lb, s_lb, 7, 0, 0⟩ :: ⟨k_return, k_return, 9, 0, 0⟩ :: W (preR ++ X) 15 := by
  have hl : (preR ++ X).length = X.length + 16 := by rw [List.length_append, Nat.add_comm]; rfl
  show W (preR ++ X) 0 = _
  rw [W_step (q := 2) (t := ⟨k_fn, k_fn, 0, 0, 0⟩) (by omega) rfl rfl (by decide)]
  rw [W_step (q := 4) (t := ⟨k_name, [102], 3, 0, 0⟩) (by omega) rfl rfl (by decide)]
  rw [W_step (q := 5) (t := ⟨s_lp, s_lp, 4, 0, 0⟩) (by omega) rfl rfl (by decide)]
  rw [W_step (q := 6) (t := ⟨s_rp, s_rp, 5, 0, 0⟩) (by omega) rfl rfl (by decide)]
  rw [W_step (q := 8) (t := ⟨s_lb, s_lb, 7, 0, 0⟩) (by omega) rfl rfl (by decide)]
  rw [W_step (q := 15) (t := ⟨k_return, k_return, 9, 0, 0⟩) (by omega) rfl rfl (by decide)]
theorem law_of {X : Bs} {M q1 q2 q3 : Nat} {x : Tk} {xs : List Tk} {e : Ex} (hW : W (preR ++ X) 15 = x :: xs) (hx : x.err = 0) (hn : ¬ (x.kind = k_number ∧ x.n = -9223372036854775808)) (hM : fuelOf (preR ++ X) = M + 1)
    (h : (pf M).expr 0 1 (x :: xs) = .ok e [⟨s_semi, s_semi, q1, 0, 0⟩, ⟨s_rb, s_rb, q2, 0, 0⟩, ⟨k_end, [], q3, 0, 0⟩]) :
    parseP (preR ++ X) (fuelOf (preR ++ X)) = .ok [⟨[102], [], [.mk 7 [] e [] []]⟩] [⟨k_end, [], q3, 0, 0⟩] := by
  unfold parseP
  rw [W_pre, hW, step_ok rfl (fun e => absurd e.1 (by show k_fn ≠ k_number; decide)), bind_ok, hM, shell hx hn h, bind_ok]
  unfold loopF
  rw [if_pos (show curK [(⟨k_end, [], q3, 0, 0⟩ : Tk)] = k_end from rfl)]
theorem fuel_at (X : Bs) (k : Nat) (h : k + 1 ≤ 228) : ∃ M, fuelOf (preR ++ X) = M + k + 1 := by
  refine ⟨fuelOf (preR ++ X) - (k + 1), ?_⟩
  have hl : (preR ++ X).length = X.length + 16 := by rw [List.length_append, Nat.add_comm]; rfl
  unfold fuelOf
  omega
theorem W_15 (X : Bs) {t : Tk} {q : Nat} (h : readT (preR ++ X) 16 = (t, q)) (he : t.err = 0) (hk : t.kind ≠ k_end) : W (preR ++ X) 15 = t :: W (preR ++ X) q := by
  have hl : (preR ++ X).length = X.length + 16 := by rw [List.length_append, Nat.add_comm]; rfl
  exact W_step (by omega) ((read_blank (l := preR ++ X) (p := 15) (r := X) rfl).trans h) he hk
theorem post_dig : ∀ c r', postR = c :: r' → digit c = false := fun c r' h => by
  injection h with h1 h2
  subst h1; rfl
theorem rp_dig (r : Bs) : ∀ c r', (41 : UInt8) :: r = c :: r' → digit c = false := fun c r' h => by
  injection h with h1 h2
  subst h1; rfl
/-- a number stands for itself -/
theorem law_num {v : Int} (h0 : -9223372036854775808 ≤ v) (h1 : v ≤ 9223372036854775807) : ∃ ts, parseP (preR ++ Go.Lib.itoa v ++ postR) (fuelOf (preR ++ Go.Lib.itoa v ++ postR)) = .ok [⟨[102], [], [.mk 7 [] (.mk 0 0 v [] [] []) [] []]⟩] ts := by
  rw [List.append_assoc]
  obtain ⟨M, hM⟩ := fuel_at (Go.Lib.itoa v ++ postR) 11 (by decide)
  by_cases hv : v < 0
  · have hi : Go.Lib.itoa v = 45 :: Go.Lib.decDigits v.natAbs := by unfold Go.Lib.itoa; rw [if_pos hv]
    have hd : (preR ++ (Go.Lib.itoa v ++ postR)).drop 16 = 45 :: (Go.Lib.decDigits v.natAbs ++ postR) := by rw [hi]; rfl
    have hd2 : (preR ++ (Go.Lib.itoa v ++ postR)).drop 17 = Go.Lib.decDigits v.natAbs ++ postR := drop_at (w := [45]) hd
    have hW := W_15 (Go.Lib.itoa v ++ postR) (read_sign (c := 45) hd rfl rfl rfl (by decide) rfl) rfl (by show ([45] : Bs) ≠ k_end; decide)
    rw [W_num hd2 (by omega) post_dig, W_tail (drop_at hd2)] at hW
    have := un_neg (h := M) (d := 1) (m := v.natAbs) (p := 17) (q := 16) (b := ⟨s_semi, s_semi, 17 + (Go.Lib.decDigits v.natAbs).length, 0, 0⟩) (r := [⟨s_rb, s_rb, 17 + (Go.Lib.decDigits v.natAbs).length + 2, 0, 0⟩, ⟨k_end, [], (preR ++ (Go.Lib.itoa v ++ postR)).length, 0, 0⟩]) (by omega) (by decide) rfl (by show s_semi ≠ k_number; decide)
    rw [show -(v.natAbs : Int) = v by omega] at this
    exact ⟨_, law_of hW rfl (fun e => absurd e.1 (by show ([45] : Bs) ≠ k_number; decide)) hM (expr0 this no_semi)⟩
  · have hi : Go.Lib.itoa v = Go.Lib.decDigits v.toNat := by unfold Go.Lib.itoa; rw [if_neg hv]
    have hd : (preR ++ (Go.Lib.itoa v ++ postR)).drop 16 = Go.Lib.decDigits v.toNat ++ postR := by rw [hi]; rfl
    have hr := read_digs hd (dec_dig _) (dec_ne _) post_dig
    rw [number_dec (by omega)] at hr
    have hW := W_15 (Go.Lib.itoa v ++ postR) hr rfl (by show k_number ≠ k_end; decide)
    rw [W_tail (drop_at hd)] at hW
    have := un_num (h := M) (d := 1) (m := v.toNat) (p := 16) (b := ⟨s_semi, s_semi, 16 + (Go.Lib.decDigits v.toNat).length, 0, 0⟩) (r := [⟨s_rb, s_rb, 16 + (Go.Lib.decDigits v.toNat).length + 2, 0, 0⟩, ⟨k_end, [], (preR ++ (Go.Lib.itoa v ++ postR)).length, 0, 0⟩]) (by omega) rfl (by show s_semi ≠ k_number; decide)
    rw [show (v.toNat : Int) = v by omega] at this
    exact ⟨_, law_of hW rfl (fun e => by have : -(v.toNat : Int) = -9223372036854775808 := e.2; omega) hM (expr0 this no_semi)⟩
/-- a minus and parentheses around it -/
theorem law_par {v : Int} (h0 : -9223372036854775808 ≤ v) (h1 : v ≤ 9223372036854775807) : ∃ ts, parseP (preR ++ ([45, 40] ++ Go.Lib.itoa v ++ [41]) ++ postR) (fuelOf (preR ++ ([45, 40] ++ Go.Lib.itoa v ++ [41]) ++ postR)) = .ok [⟨[102], [], [.mk 7 [] (.mk 2 0 0 [] [] [.mk 0 0 v [] [] []]) [] []]⟩] ts := by
  rw [List.append_assoc]
  obtain ⟨M, hM⟩ := fuel_at ([45, 40] ++ Go.Lib.itoa v ++ [41] ++ postR) 23 (by decide)
  generalize hX : [45, 40] ++ Go.Lib.itoa v ++ [41] ++ postR = X at hM
  have hd0 : (preR ++ X).drop 16 = 45 :: 40 :: (Go.Lib.itoa v ++ (41 :: postR)) := by rw [← hX]; simp [preR]
  have hd1 : (preR ++ X).drop 17 = 40 :: (Go.Lib.itoa v ++ (41 :: postR)) := drop_at (w := [45]) hd0
  have hd : (preR ++ X).drop 18 = Go.Lib.itoa v ++ (41 :: postR) := drop_at (w := [40]) hd1
  have hW := W_15 X (read_sign (c := 45) hd0 rfl rfl rfl (by decide) rfl) rfl (by show ([45] : Bs) ≠ k_end; decide)
  rw [W_sign (c := 40) hd1 rfl rfl rfl (by decide) rfl] at hW
  by_cases hv : v < 0
  · have hi : Go.Lib.itoa v = 45 :: Go.Lib.decDigits v.natAbs := by unfold Go.Lib.itoa; rw [if_pos hv]
    rw [hi] at hd
    have hd2 : (preR ++ X).drop 19 = Go.Lib.decDigits v.natAbs ++ (41 :: postR) := drop_at (w := [45]) hd
    have hd3 := drop_at hd2
    have hd4 : (preR ++ X).drop (19 + (Go.Lib.decDigits v.natAbs).length + 1) = postR := drop_at (w := [41]) hd3
    rw [W_sign (c := 45) hd rfl rfl rfl (by decide) rfl, W_num hd2 (by omega) (rp_dig _), W_sign (c := 41) hd3 rfl rfl rfl (by decide) rfl, W_tail hd4] at hW
    have h2 := un_neg (h := M) (d := 3) (m := v.natAbs) (p := 19) (q := 18) (b := sgn 41 (19 + (Go.Lib.decDigits v.natAbs).length)) (r := [⟨s_semi, s_semi, 19 + (Go.Lib.decDigits v.natAbs).length + 1, 0, 0⟩, ⟨s_rb, s_rb, 19 + (Go.Lib.decDigits v.natAbs).length + 1 + 2, 0, 0⟩, ⟨k_end, [], (preR ++ X).length, 0, 0⟩]) (by omega) (by decide) rfl (by show ([41] : Bs) ≠ k_number; decide)
    rw [show -(v.natAbs : Int) = v by omega] at h2
    have h3 := un_par (g := M + 2 + 9) (d := 1) (q1 := 16) (q2 := 17) (q3 := 19 + (Go.Lib.decDigits v.natAbs).length) (x := ⟨s_minus, s_minus, 18, 0, 0⟩) (by decide) rfl (fun e => absurd e.1 (by show s_minus ≠ k_number; decide)) rfl (by show s_semi ≠ k_number; decide) (expr0 h2 no_rp)
    exact ⟨_, law_of hW rfl (fun e => absurd e.1 (by show ([45] : Bs) ≠ k_number; decide)) hM (expr0 (f := M + 14) h3 no_semi)⟩
  · have hi : Go.Lib.itoa v = Go.Lib.decDigits v.toNat := by unfold Go.Lib.itoa; rw [if_neg hv]
    rw [hi] at hd
    have hd3 := drop_at hd
    have hd4 : (preR ++ X).drop (18 + (Go.Lib.decDigits v.toNat).length + 1) = postR := drop_at (w := [41]) hd3
    rw [W_num hd (by omega) (rp_dig _), W_sign (c := 41) hd3 rfl rfl rfl (by decide) rfl, W_tail hd4] at hW
    have h2 := un_num (h := M) (d := 3) (m := v.toNat) (p := 18) (b := sgn 41 (18 + (Go.Lib.decDigits v.toNat).length)) (r := [⟨s_semi, s_semi, 18 + (Go.Lib.decDigits v.toNat).length + 1, 0, 0⟩, ⟨s_rb, s_rb, 18 + (Go.Lib.decDigits v.toNat).length + 1 + 2, 0, 0⟩, ⟨k_end, [], (preR ++ X).length, 0, 0⟩]) (by omega) rfl (by show ([41] : Bs) ≠ k_number; decide)
    rw [show (v.toNat : Int) = v by omega] at h2
    have h3 := un_par (g := M + 2 + 9) (d := 1) (q1 := 16) (q2 := 17) (q3 := 18 + (Go.Lib.decDigits v.toNat).length) (x := numT v.toNat 18) (by decide) rfl (fun e => by have : -(v.toNat : Int) = -9223372036854775808 := e.2; omega) rfl (by show s_semi ≠ k_number; decide) (expr0 h2 no_rp)
    exact ⟨_, law_of hW rfl (fun e => absurd e.1 (by show ([45] : Bs) ≠ k_number; decide)) hM (expr0 (f := M + 14) h3 no_semi)⟩
theorem itoa_len {v : Int} (h0 : -9223372036854775808 ≤ v) (h1 : v ≤ 9223372036854775807) : (Go.Lib.itoa v).length ≤ 20 := by
  unfold Go.Lib.itoa
  split
  · have := dec_len 18 v.natAbs (by omega)
    rw [List.length_cons]; omega
  · have := dec_len 18 v.toNat (by omega)
    omega
end Go.Tx
namespace Go.Sh
open Go.RowKit
set_option linter.unusedSectionVars false
set_option linter.unusedVariables false
set_option linter.unusedSimpArgs false
inductive Tr where
  | nil
  | tk (i : Nat) (r : Tr)
  | al (i : Nat) (r : Tr)
  | fk (i j : Nat) (ri rj : Tr)
def trB (ops : Array Oper) : Tr → Nat → Array Bool → Bool
  | .nil, g, listed => decide (g = 0) && (Region.ready .any ops listed).isEmpty
  | .tk i r, g, listed => decide (g ≠ 0) && (Region.ready .any ops listed).contains i && Region.free .any ops listed i && trB ops r (g - 1) (listed.setIfInBounds i true)
  | .al i r, g, listed => decide (g ≠ 0) && decide (Region.ready .any ops listed = [i]) && trB ops r (g - 1) (listed.setIfInBounds i true)
  | .fk i j ri rj, g, listed => decide (g ≠ 0) && decide (Region.ready .any ops listed = [i, j]) && trB ops ri (g - 1) (listed.setIfInBounds i true) && trB ops rj (g - 1) (listed.setIfInBounds j true)
def trAll (ops : Array Oper) (ms : Tr) : Bool := Region.noSelect ops && trB ops ms ops.size (Array.replicate ops.size false)
section
variable (P : Program) (T : Tab) (n : Nat) (W : World → Prop)
def trTk (all : List Oper) (i : Nat) (ih : Fr → World → (Fr → World → Prop) → Prop) (F : Fr) (w : World) (kk : Fr → World → Prop) : Prop :=
  match all[i]? with
  | none => False
  | some o => match dstOk n o.dst with
    | false => False
    | true => match o.guard with
      | none => tkOp P T W (evR o F) o (fun v => ih (F.put o.dst v) w kk)
      | some _ => False
def trAl (all : List Oper) (i : Nat) (ih : Fr → World → (Fr → World → Prop) → Prop) (F : Fr) (w : World) (kk : Fr → World → Prop) : Prop :=
  match all[i]? with
  | none => False
  | some o => match dstOk n o.dst with
    | false => False
    | true => match o.guard with
      | none => exOp P T (evR o F) o w (fun v w' => W w' ∧ ih (F.put o.dst v) w' kk) (fun _ _ => False)
      | some _ => False
def trOps (all : List Oper) (ms : Tr) : Fr → World → (Fr → World → Prop) → Prop :=
  Tr.rec (motive := fun _ => Fr → World → (Fr → World → Prop) → Prop) (fun F w k => k F w)
    (fun i _ ih => trTk P T n W all i ih)
    (fun i _ ih => trAl P T n W all i ih)
    (fun i j _ _ ihi ihj F w k => trAl P T n W all i ihi F w k ∧ trAl P T n W all j ihj F w k) ms
end
section
variable {P : Program} {T : Tab} {n : Nat} {W : World → Prop}
theorem trAl_sound (hT : TabOk P T) {all : List Oper} {i : Nat} {ih : Fr → World → (Fr → World → Prop) → Prop} {F : Fr} {a : Act} {w : World} {kk : Fr → World → Prop} {Q : Exit → Act → World → Prop} {K : Act → World → Prop} (ha : Agr n F a)
    (h : trAl P T n W all i ih F w kk) (hK : ∀ F' a' w', Agr n F' a' → W w' → ih F' w' kk → K a' w') : wpOp P all.toArray Q i (fun a w => W w ∧ K a w) a w := by
  unfold trAl at h
  split at h; · exact h.elim
  rename_i o ho
  split at h; · exact h.elim
  rename_i hd
  split at h
  · rename_i hg
    have ho' : all.toArray[i]? = some o := by simpa using ho
    unfold wpOp
    simp only [ho']
    rw [if_pos (wanted_none hg)]
    exact .inl (exOp_sound hT (fun x v h => ha.ev x v (evR_evF h)) h (fun v w' q => ⟨q.1, hK _ _ _ (ha.put hd v) q.1 q.2⟩) (fun ch w' q => q.elim))
  · exact h.elim
theorem trOps_sound (hT : TabOk P T) (all : List Oper) (hsel : Region.noSelect all.toArray = true) {K : Fr → World → Prop} : ∀ (ms : Tr) (g : Nat) (listed : Array Bool) (F : Fr) (a : Act) (w : World),
    Agr n F a → W w → trB all.toArray ms g listed = true → trOps P T n W all ms F w K → wpAnyH P .any all.toArray (Qn n K) W g listed a w
  | .nil, g, listed, F, a, w, ha, _, hB, h => by
    simp only [trB, Bool.and_eq_true, decide_eq_true_eq] at hB
    obtain ⟨rfl, hB⟩ := hB
    exact ⟨List.isEmpty_iff.1 hB, rfl, F, ha, h⟩
  | .tk i r, g, listed, F, a, w, ha, hw, hB, h => by
    have ih := trOps_sound hT all hsel (K := K) r
    change trTk P T n W all i (trOps P T n W all r) F w K at h
    simp only [trB, Bool.and_eq_true, decide_eq_true_eq] at hB
    obtain ⟨⟨⟨hg0, h1⟩, h2⟩, h3⟩ := hB
    obtain ⟨g, rfl⟩ := Nat.exists_eq_succ_of_ne_zero hg0
    simp only [Nat.succ_eq_add_one, Nat.add_sub_cancel] at h3 ⊢
    unfold trTk at h
    split at h; · exact h.elim
    rename_i o ho
    split at h; · exact h.elim
    rename_i hd
    split at h
    · rename_i hg
      obtain ⟨v, hk, hr⟩ := tkOp_run hT h
      have ho' : all.toArray[i]? = some o := by simpa using ho
      exact wpAnyH_take ho' hsel h2 h1 (fun c a w q => nomatch q.1) (.inl ⟨wanted_none hg, hr a (fun x v h => ha.ev x v (evR_evF h))⟩) hw (ih _ _ _ _ _ (ha.put hd v) hw h3 hk)
    · exact h.elim
  | .al i r, g, listed, F, a, w, ha, hw, hB, h => by
    have ih := trOps_sound hT all hsel (K := K) r
    change trAl P T n W all i (trOps P T n W all r) F w K at h
    simp only [trB, Bool.and_eq_true, decide_eq_true_eq] at hB
    obtain ⟨⟨hg0, h1⟩, h3⟩ := hB
    obtain ⟨g, rfl⟩ := Nat.exists_eq_succ_of_ne_zero hg0
    simp only [Nat.succ_eq_add_one, Nat.add_sub_cancel] at h3 ⊢
    refine ⟨fun e => absurd (e.symm.trans h1) (by simp), fun x hx => ?_⟩
    rw [h1] at hx
    have hxi : x = i := by simpa using hx
    subst hxi
    exact trAl_sound hT ha h fun F' a' w' ha' hw' q => ih _ _ _ _ _ ha' hw' h3 q
  | .fk i j ri rj, g, listed, F, a, w, ha, hw, hB, h => by
    have ihi := trOps_sound hT all hsel (K := K) ri
    have ihj := trOps_sound hT all hsel (K := K) rj
    change trAl P T n W all i (trOps P T n W all ri) F w K ∧ trAl P T n W all j (trOps P T n W all rj) F w K at h
    simp only [trB, Bool.and_eq_true, decide_eq_true_eq] at hB
    obtain ⟨⟨⟨hg0, h1⟩, h3⟩, h4⟩ := hB
    obtain ⟨g, rfl⟩ := Nat.exists_eq_succ_of_ne_zero hg0
    simp only [Nat.succ_eq_add_one, Nat.add_sub_cancel] at h3 h4 ⊢
    refine ⟨fun e => absurd (e.symm.trans h1) (by simp), fun x hx => ?_⟩
    rw [h1] at hx
    rcases List.mem_cons.1 hx with hxi | hx
    · subst hxi
      exact trAl_sound hT ha h.1 fun F' a' w' ha' hw' q => ihi _ _ _ _ _ ha' hw' h3 q
    · have hxj : x = j := by simpa using hx
      subst hxj
      exact trAl_sound hT ha h.2 fun F' a' w' ha' hw' q => ihj _ _ _ _ _ ha' hw' h4 q
theorem Dr.tr (hT : TabOk P T) (hm : P.follows .mixedOrders = true) (ms : Tr) {id : Nat} {ops : Array Oper} {F : Fr} {w : World} {K : Exit → Fr → World → Prop} (hB : trAll ops ms = true)
    (h : ∀ W w1, QW W w Ext → (∀ w', Ext w w' → W w') → Ext w w1 → w1.heap.size = w.heap.size → trOps P T n W ops.toList ms F w1 (fun F w => K .normal F w)) : Dr P n id ops F w K := by
  refine ⟨fun a ha => ?_⟩
  obtain ⟨l⟩ := ops
  simp only [trAll, Bool.and_eq_true] at hB
  have e1 : Ext w { w with drawn := w.drawn + 1 } := ⟨rfl, rfl, rfl, Nat.le_refl _, fun _ _ => rfl⟩
  have H := trOps_sound (W := fun w' => Ext w w') hT l hB.1 ms _ _ F a { w with drawn := w.drawn + 1 } ha e1 hB.2
    (h (fun w' => Ext w w') _ ⟨fun _ q => q, fun a b q r => Ext.trans q r⟩ (fun _ q => q) e1 rfl)
  refine wp_region_any hm ?_
  refine wpAny_monoQ (fun a w q => ?_) (fun c a w q => ?_) (fun a w q => ?_) _ _ _ _ (wpAny_of_held _ _ _ _ H)
  · exact q.2
  · exact nomatch q.1
  · exact nomatch q.1
/-- behind a region only what is said is known -/
theorem Dr.cut {id : Nat} {ops : Array Oper} {F : Fr} {w : World} {K : Exit → Fr → World → Prop} {σ : Type} (mk : σ → Env) (I : σ → World → Prop)
    (h1 : Dr P n id ops F w fun e F' w' => e = .normal ∧ ∃ s, Sub (mk s) F' ∧ F.ds = F'.ds ∧ I s w') (h2 : ∀ s w', I s w' → K .normal ⟨mk s, F.ds⟩ w') : Dr P n id ops F w K := by
  refine ⟨fun a ha => wp_mono (h1.out a ha) fun e a' w' q => ?_⟩
  obtain ⟨F', ha', rfl, s, g1, g2, g3⟩ := q
  exact ⟨⟨mk s, F.ds⟩, ⟨ha'.1, ha'.2.1.trans g2.symm, fun t v h => ha'.2.2 t v (g1.look t v h)⟩, h2 s w' g3⟩
end
end Go.Sh
namespace Go.Tx
set_option linter.unusedVariables false
set_option linter.unusedSimpArgs false
set_option linter.unusedSectionVars false
mutual
def sameX : Ex → Ex → Bool
  | .mk k o n a b l, .mk k2 o2 n2 a2 b2 l2 => k == k2 && o == o2 && n == n2 && a == a2 && b == b2 && sameXs l l2
def sameXs : List Ex → List Ex → Bool
  | [], [] => true
  | x :: r, y :: s => sameX x y && sameXs r s
  | [], _ :: _ => false
  | _ :: _, [] => false
end
def retE (s : Bs) : Option Ex := match parseP (preR ++ s ++ postR) (fuelOf (preR ++ s ++ postR)) with
  | .ok [f] _ => match f.body with
    | [.mk k _ e _ _] => if k = 7 then some e else none
    | _ => none
  | _ => none
def binSg : List Bs := [s_orr, s_andd, s_eqq, s_neq, s_lt, s_le, s_bar, s_xor, s_amp, s_shl, s_shr, s_plus, s_minus, s_star, s_slash, s_pct]
def bindN : List Int := [1, 2, 3, 3, 3, 3, 4, 4, 5, 6, 6, 7, 7, 8, 8, 8]
def srcX (a b : Bs) : Bs := [97, 32] ++ a ++ [32, 98, 32] ++ b ++ [32, 99]
def srcY (a b : Bs) : Bs := [40, 97, 32] ++ a ++ [32, 98, 41, 32] ++ b ++ [32, 99]
def srcZ (a b : Bs) : Bs := [97, 32] ++ a ++ [32, 40, 98, 32] ++ b ++ [32, 99, 41]
def lkB : Ex → Bool
  | .mk _ _ _ _ _ [.mk _ _ _ _ _ [.mk _ _ _ a _ _, .mk _ _ _ b _ _], .mk _ _ _ c _ _] => a == [97] && b == [98] && c == [99]
  | _ => false
def rkB : Ex → Bool
  | .mk _ _ _ _ _ [.mk _ _ _ a _ _, .mk _ _ _ _ _ [.mk _ _ _ b _ _, .mk _ _ _ c _ _]] => a == [97] && b == [98] && c == [99]
  | _ => false
def levB (a b : Bs) (p q : Int) : Bool := match retE (srcX a b), retE (srcY a b), retE (srcZ a b) with
  | some x, some y, some z => (sameX y z == false) && lkB y && rkB z && (if q ≤ p then sameX x y else sameX x z)
  | _, _, _ => false
theorem lev_all : ((List.range 16).all fun i => (List.range 16).all fun j => levB (binSg.getD i []) (binSg.getD j []) (bindN.getD i 0) (bindN.getD j 0)) = true := by decide +kernel
theorem lev_at {i j : Nat} (hi : i < 16) (hj : j < 16) : levB (binSg.getD i []) (binSg.getD j []) (bindN.getD i 0) (bindN.getD j 0) = true := by
  have h := List.all_eq_true.1 lev_all i (List.mem_range.2 hi)
  exact List.all_eq_true.1 h j (List.mem_range.2 hj)
end Go.Tx
namespace Go.Proofs.YtfnjodpehomgfaaDoor
open Go Go.Sh Go.Tx
set_option linter.unusedVariables false
set_option linter.unusedSimpArgs false
set_option linter.unusedSectionVars false
attribute [local irreducible] Blk Ext RdS
def binSigns : List Bs := [s_orr, s_andd, s_eqq, s_neq, s_lt, s_le, s_bar, s_xor, s_amp, s_shl, s_shr, s_plus, s_minus, s_star, s_slash, s_pct]
def intE (v : Int) : List Value := [.int .i64 v]
def bindL : List Int := [1, 2, 3, 3, 3, 3, 4, 4, 5, 6, 6, 7, 7, 8, 8, 8]
theorem run_rem {P : Program} {t : Nat} {a b : Int} {xo yo : Operand} (hb : b ≠ 0) (w : World) : (do eqGuard .rem t xo yo (.int .i64 a) (.int .i64 b); binOp .rem t (.int .i64 a) (.int .i64 b) : Sem Value).run P w = .ok (.int .i64 (a.tmod b)) w := by
  have hg : (eqGuard .rem t xo yo (.int .i64 a) (.int .i64 b)).run P w = .ok () w := by unfold eqGuard; simp
  simp [hg, binOp, Op.intDiv, hb]
def modN (x : Int) (n : Nat) : Nat := (if x.tmod n < 0 then x.tmod n + n else x.tmod n).toNat
theorem modN_lt (x : Int) {n : Nat} (h : 0 < n) : modN x n < n := by
  have h1 := Int.tmod_lt_of_pos x (show (0 : Int) < n by omega)
  have h2 := Int.lt_tmod_of_pos x (show (0 : Int) < n by omega)
  unfold modN
  split <;> omega
theorem mod_c (x : Int) (n : Nat) (w : World) (h0 : 0 < n) (h1 : n ≤ 1000000) : Cl Tryd.prog 7 #[.int .i64 x, .int .i64 (n : Int)] w (fun v w' => v = .int .i64 (modN x n : Int) ∧ Ext w w') (fun _ _ => False) := by
  have g1 := Int.tmod_lt_of_pos x (show (0 : Int) < n by omega)
  have g2 := Int.lt_tmod_of_pos x (show (0 : Int) < n by omega)
  refine calls_ex (args := [.int .i64 x, .int .i64 (n : Int)]) T.ok Tryd.func7 rfl rfl rfl rfl ?_
  have H := Hp.begin nw w
  repeat' ((conv => whnf); first | (((with_reducible show Gd _ _ _); first | with_reducible refine Gd.t ?_ | with_reducible refine Gd.f ?_ | with_reducible refine Gd.dec (fun _ => ?_) (fun _ => ?_) | with_reducible refine Gd.beq (fun _ => ?_) (fun _ => ?_) | with_reducible refine Gd.bne (fun _ => ?_) (fun _ => ?_) | with_reducible refine Gd.not ?_ | refine Gd.t ?_ | refine Gd.f ?_ | with_reducible refine Gd.var (fun _ => ?_) (fun _ => ?_)) <;> first | (exfalso; omega) | skip) | with_reducible refine Sq.mk ?_ | ((with_reducible show Ld1 _ _ _); first | refine Ld1.h H ?_ | refine Ld1.rF ?_ | refine Ld1.r ?_) | ((with_reducible show Ld _ _ _ _); first | refine Ld.h H ?_ | refine Ld.r ?_) | ((with_reducible show Ix _ _ _ _ _); (first | refine Ix.h ?_ | refine Ix.ha ?_)) | (refine Al.hp H ?_; clear H; intro _ _ H _) | (refine St.h H ?_; clear H; intro _ H))
  refine Sm.ran (run_rem (by omega) _) ?_
  repeat' ((conv => whnf); first | (((with_reducible show Gd _ _ _); first | with_reducible refine Gd.t ?_ | with_reducible refine Gd.f ?_ | with_reducible refine Gd.dec (fun _ => ?_) (fun _ => ?_) | with_reducible refine Gd.beq (fun _ => ?_) (fun _ => ?_) | with_reducible refine Gd.bne (fun _ => ?_) (fun _ => ?_) | with_reducible refine Gd.not ?_ | refine Gd.t ?_ | refine Gd.f ?_ | with_reducible refine Gd.var (fun _ => ?_) (fun _ => ?_)) <;> first | (exfalso; omega) | skip) | with_reducible refine Sq.mk ?_ | ((with_reducible show Ld1 _ _ _); first | refine Ld1.h H ?_ | refine Ld1.rF ?_ | refine Ld1.r ?_) | ((with_reducible show Ld _ _ _ _); first | refine Ld.h H ?_ | refine Ld.r ?_) | ((with_reducible show Ix _ _ _ _ _); (first | refine Ix.h ?_ | refine Ix.ha ?_)) | (refine Al.hp H ?_; clear H; intro _ _ H _) | (refine St.h H ?_; clear H; intro _ H))
  · refine ⟨i_eq ?_, H.e⟩
    unfold modN
    rw [if_pos (by assumption)]
    exact w64 (by omega) (by omega) (by omega)
  · refine ⟨i_eq ?_, H.e⟩
    unfold modN
    rw [if_neg (by assumption)]
    omega
theorem signs_c (w : World) : Cl Tryd.prog 6 #[] w (fun v w' => ∃ A c, v = .slice A binSigns.length c ∧ Hp nw w w' [qu strE 1 9 A c binSigns]) (fun _ _ => False) := by
  refine calls_ex (args := []) T.ok Tryd.func6 rfl rfl rfl rfl ?_
  have H := Hp.begin nw w
  repeat' ((conv => whnf); first | (((with_reducible show Gd _ _ _); first | with_reducible refine Gd.t ?_ | with_reducible refine Gd.f ?_ | with_reducible refine Gd.dec (fun _ => ?_) (fun _ => ?_) | with_reducible refine Gd.beq (fun _ => ?_) (fun _ => ?_) | with_reducible refine Gd.bne (fun _ => ?_) (fun _ => ?_) | with_reducible refine Gd.not ?_ | refine Gd.t ?_ | refine Gd.f ?_ | with_reducible refine Gd.var (fun _ => ?_) (fun _ => ?_)) <;> first | (exfalso; omega) | skip) | with_reducible refine Sq.mk ?_ | ((with_reducible show Ld1 _ _ _); first | refine Ld1.h H ?_ | refine Ld1.rF ?_ | refine Ld1.r ?_) | ((with_reducible show Ld _ _ _ _); first | refine Ld.h H ?_ | refine Ld.r ?_) | ((with_reducible show Ix _ _ _ _ _); (first | refine Ix.h ?_ | refine Ix.ha ?_)) | (refine Al.hp H ?_; clear H; intro _ _ H _) | (refine St.h H ?_; clear H; intro _ H))
  refine Sm.lith (cs := binSigns.flatMap strE) H T.ok (fun p w4 H _ => ?_)
  repeat' ((conv => whnf); first | (((with_reducible show Gd _ _ _); first | with_reducible refine Gd.t ?_ | with_reducible refine Gd.f ?_ | with_reducible refine Gd.dec (fun _ => ?_) (fun _ => ?_) | with_reducible refine Gd.beq (fun _ => ?_) (fun _ => ?_) | with_reducible refine Gd.bne (fun _ => ?_) (fun _ => ?_) | with_reducible refine Gd.not ?_ | refine Gd.t ?_ | refine Gd.f ?_ | with_reducible refine Gd.var (fun _ => ?_) (fun _ => ?_)) <;> first | (exfalso; omega) | skip) | with_reducible refine Sq.mk ?_ | ((with_reducible show Ld1 _ _ _); first | refine Ld1.h H ?_ | refine Ld1.rF ?_ | refine Ld1.r ?_) | ((with_reducible show Ld _ _ _ _); first | refine Ld.h H ?_ | refine Ld.r ?_) | ((with_reducible show Ix _ _ _ _ _); (first | refine Ix.h ?_ | refine Ix.ha ?_)) | (refine Al.hp H ?_; clear H; intro _ _ H _) | (refine St.h H ?_; clear H; intro _ H))
  exact ⟨some ⟨p, 0, none⟩, 16, rfl, Hp.bq (sz := 1) H (fun z _ => rfl)⟩
theorem binds_c (i : Nat) (w : World) (hi : i < 16) : Cl Tryd.prog 10 #[.int .i64 (i : Int)] w (fun v w' => v = .int .i64 (bindL.getD i 0) ∧ Ext w w') (fun _ _ => False) := by
  refine calls_ex (args := [.int .i64 (i : Int)]) T.ok Tryd.func10 rfl rfl rfl rfl ?_
  have H := Hp.begin nw w
  repeat' ((conv => whnf); first | (((with_reducible show Gd _ _ _); first | with_reducible refine Gd.t ?_ | with_reducible refine Gd.f ?_ | with_reducible refine Gd.dec (fun _ => ?_) (fun _ => ?_) | with_reducible refine Gd.beq (fun _ => ?_) (fun _ => ?_) | with_reducible refine Gd.bne (fun _ => ?_) (fun _ => ?_) | with_reducible refine Gd.not ?_ | refine Gd.t ?_ | refine Gd.f ?_ | with_reducible refine Gd.var (fun _ => ?_) (fun _ => ?_)) <;> first | (exfalso; omega) | skip) | with_reducible refine Sq.mk ?_ | ((with_reducible show Ld1 _ _ _); first | refine Ld1.h H ?_ | refine Ld1.rF ?_ | refine Ld1.r ?_) | ((with_reducible show Ld _ _ _ _); first | refine Ld.h H ?_ | refine Ld.r ?_) | ((with_reducible show Ix _ _ _ _ _); (first | refine Ix.h ?_ | refine Ix.ha ?_)) | (refine Al.hp H ?_; clear H; intro _ _ H _) | (refine St.h H ?_; clear H; intro _ H))
  refine Sm.lith (cs := bindL.flatMap intE) H T.ok (fun p w4 H _ => ?_)
  replace H := Hp.bq (enc := intE) (sz := 1) H (fun z _ => rfl)
  obtain ⟨u, hu⟩ : ∃ u, bindL[i]? = some u := ⟨_, List.getElem?_eq_getElem (show i < bindL.length from hi)⟩
  repeat' ((conv => whnf); first | (((with_reducible show Gd _ _ _); first | with_reducible refine Gd.t ?_ | with_reducible refine Gd.f ?_ | with_reducible refine Gd.dec (fun _ => ?_) (fun _ => ?_) | with_reducible refine Gd.beq (fun _ => ?_) (fun _ => ?_) | with_reducible refine Gd.bne (fun _ => ?_) (fun _ => ?_) | with_reducible refine Gd.not ?_ | refine Gd.t ?_ | refine Gd.f ?_ | with_reducible refine Gd.var (fun _ => ?_) (fun _ => ?_)) <;> first | (exfalso; omega) | skip) | with_reducible refine Sq.mk ?_ | ((with_reducible show Ld1 _ _ _); first | refine Ld1.h H ?_ | refine Ld1.rF ?_ | refine Ld1.r ?_) | ((with_reducible show Ld _ _ _ _); first | refine Ld.h H ?_ | refine Ld.r ?_) | ((with_reducible show Ix _ _ _ _ _); (first | refine Ix.h ?_ | refine Ix.ha ?_)) | (refine Al.hp H ?_; clear H; intro _ _ H _) | (refine St.h H ?_; clear H; intro _ H))
  refine Ix.rs (l := bindL) (H.rdq 0 rfl) rfl hi ?_
  repeat' ((conv => whnf); first | (((with_reducible show Gd _ _ _); first | with_reducible refine Gd.t ?_ | with_reducible refine Gd.f ?_ | with_reducible refine Gd.dec (fun _ => ?_) (fun _ => ?_) | with_reducible refine Gd.beq (fun _ => ?_) (fun _ => ?_) | with_reducible refine Gd.bne (fun _ => ?_) (fun _ => ?_) | with_reducible refine Gd.not ?_ | refine Gd.t ?_ | refine Gd.f ?_ | with_reducible refine Gd.var (fun _ => ?_) (fun _ => ?_)) <;> first | (exfalso; omega) | skip) | with_reducible refine Sq.mk ?_ | ((with_reducible show Ld1 _ _ _); first | refine Ld1.h H ?_ | refine Ld1.rF ?_ | refine Ld1.r ?_) | ((with_reducible show Ld _ _ _ _); first | refine Ld.h H ?_ | refine Ld.r ?_) | ((with_reducible show Ix _ _ _ _ _); (first | refine Ix.h ?_ | refine Ix.ha ?_)) | (refine Al.hp H ?_; clear H; intro _ _ H _) | (refine St.h H ?_; clear H; intro _ H))
  refine ⟨i_eq ?_, H.e⟩
  rw [List.getD, hu]; rfl
theorem ret_of {s : Bs} {e : Ex} (hl : s.length ≤ 900) (h : retE s = some e) : RetIs s e := by
  unfold retE at h
  split at h
  · rename_i f ts hp
    split at h
    · rename_i k nm e' b els hf
      split at h
      · rename_i hk
        simp only [Option.some.injEq] at h
        subst hk h
        obtain ⟨fn, ps, bd⟩ := f
        simp only at hf
        subst hf
        refine ⟨fn, ps, nm, b, els, ts, ?_⟩
        show PR (preR ++ s ++ postR) = _
        unfold PR
        rw [if_neg (by simp [Go.Tx.preR, Go.Tx.postR, preR, postR]; omega)]
        exact hp
      · simp at h
    · simp at h
  · simp at h
mutual
theorem same_X : ∀ (x y : Ex), sameE x y = sameX x y
  | .mk _ _ _ _ _ l, .mk _ _ _ _ _ m => by simp only [sameE, sameX, same_Xs l m]
theorem same_Xs : ∀ (l m : List Ex), sameL l m = sameXs l m
  | [], [] => rfl
  | x :: r, y :: s => by simp only [sameL, sameXs, same_X x y, same_Xs r s]
  | [], _ :: _ => rfl
  | _ :: _, [] => rfl
end
theorem lkT {t : ET} (h : lkB t.e = true) : ∃ k o n nm cb A c k1 o1 n1 nm1 cb1 A1 c1 k2 o2 n2 cb2 A2 c2 l2 k3 o3 n3 cb3 A3 c3 l3 k4 o4 n4 cb4 A4 c4 l4,
    t = .mk k o n nm cb A c [.mk k1 o1 n1 nm1 cb1 A1 c1 [.mk k2 o2 n2 [97] cb2 A2 c2 l2, .mk k3 o3 n3 [98] cb3 A3 c3 l3], .mk k4 o4 n4 [99] cb4 A4 c4 l4] := by
  obtain ⟨k, o, n, nm, cb, A, c, l⟩ := t
  rcases l with _ | ⟨⟨k1, o1, n1, nm1, cb1, A1, c1, l1⟩, _ | ⟨⟨k4, o4, n4, nm4, cb4, A4, c4, l4⟩, _ | ⟨z, r⟩⟩⟩
  · simp [lkB, ET.e, ET.es] at h
  · simp [lkB, ET.e, ET.es] at h
  · rcases l1 with _ | ⟨⟨k2, o2, n2, nm2, cb2, A2, c2, l2⟩, _ | ⟨⟨k3, o3, n3, nm3, cb3, A3, c3, l3⟩, _ | ⟨z, r⟩⟩⟩
    · simp [lkB, ET.e, ET.es] at h
    · simp [lkB, ET.e, ET.es] at h
    · simp only [lkB, ET.e, ET.es, Bool.and_eq_true, beq_iff_eq] at h
      obtain ⟨⟨rfl, rfl⟩, rfl⟩ := h
      exact ⟨k, o, n, nm, cb, A, c, k1, o1, n1, nm1, cb1, A1, c1, k2, o2, n2, cb2, A2, c2, l2, k3, o3, n3, cb3, A3, c3, l3, k4, o4, n4, cb4, A4, c4, l4, rfl⟩
    · simp [lkB, ET.e, ET.es] at h
  · simp [lkB, ET.e, ET.es] at h
theorem rkT {t : ET} (h : rkB t.e = true) : ∃ k o n nm cb A c k1 o1 n1 nm1 cb1 A1 c1 k2 o2 n2 cb2 A2 c2 l2 k3 o3 n3 cb3 A3 c3 l3 k4 o4 n4 cb4 A4 c4 l4,
    t = .mk k o n nm cb A c [.mk k4 o4 n4 [97] cb4 A4 c4 l4, .mk k1 o1 n1 nm1 cb1 A1 c1 [.mk k2 o2 n2 [98] cb2 A2 c2 l2, .mk k3 o3 n3 [99] cb3 A3 c3 l3]] := by
  obtain ⟨k, o, n, nm, cb, A, c, l⟩ := t
  rcases l with _ | ⟨⟨k4, o4, n4, nm4, cb4, A4, c4, l4⟩, _ | ⟨⟨k1, o1, n1, nm1, cb1, A1, c1, l1⟩, _ | ⟨z, r⟩⟩⟩
  · simp [rkB, ET.e, ET.es] at h
  · simp [rkB, ET.e, ET.es] at h
  · rcases l1 with _ | ⟨⟨k2, o2, n2, nm2, cb2, A2, c2, l2⟩, _ | ⟨⟨k3, o3, n3, nm3, cb3, A3, c3, l3⟩, _ | ⟨z, r⟩⟩⟩
    · simp [rkB, ET.e, ET.es] at h
    · simp [rkB, ET.e, ET.es] at h
    · simp only [rkB, ET.e, ET.es, Bool.and_eq_true, beq_iff_eq] at h
      obtain ⟨⟨rfl, rfl⟩, rfl⟩ := h
      exact ⟨k, o, n, nm, cb, A, c, k1, o1, n1, nm1, cb1, A1, c1, k2, o2, n2, cb2, A2, c2, l2, k3, o3, n3, cb3, A3, c3, l3, k4, o4, n4, cb4, A4, c4, l4, rfl⟩
    · simp [rkB, ET.e, ET.es] at h
  · simp [rkB, ET.e, ET.es] at h
set_option maxHeartbeats 4000000 in
theorem textLevels_c (i j : Int) (w : World) (hG : Rg w) :
    Cl Tryd.prog 3 #[.int .i64 i, .int .i64 j] w (fun u w' => u = .bool true ∧ Ext w w') (fun _ _ => False) := by
  refine calls_ex (args := [.int .i64 i, .int .i64 j]) T.ok Tryd.func3 rfl rfl rfl rfl ?_
  have H := Hp.begin nw w
  repeat' ((conv => whnf); first | (((with_reducible show Gd _ _ _); first | with_reducible refine Gd.t ?_ | with_reducible refine Gd.f ?_ | with_reducible refine Gd.dec (fun _ => ?_) (fun _ => ?_) | with_reducible refine Gd.beq (fun _ => ?_) (fun _ => ?_) | with_reducible refine Gd.bne (fun _ => ?_) (fun _ => ?_) | with_reducible refine Gd.not ?_ | refine Gd.t ?_ | refine Gd.f ?_ | with_reducible refine Gd.var (fun _ => ?_) (fun _ => ?_)) <;> first | (exfalso; omega) | skip) | with_reducible refine Sq.mk ?_ | ((with_reducible show Ld1 _ _ _); first | refine Ld1.h H ?_ | refine Ld1.rF ?_ | refine Ld1.r ?_) | ((with_reducible show Ld _ _ _ _); first | refine Ld.h H ?_ | refine Ld.r ?_) | ((with_reducible show Ix _ _ _ _ _); (first | refine Ix.h ?_ | refine Ix.ha ?_)) | (refine Al.hp H ?_; clear H; intro _ _ H _) | (refine St.h H ?_; clear H; intro _ H))
  ((conv => whnf); refine Cl.mk (signs_c _) ?_)
  rintro _ w2 ⟨A, c, rfl, H'⟩
  replace H := H.fr0 H' (.inl rfl)
  clear H'
  repeat' ((conv => whnf); first | (((with_reducible show Gd _ _ _); first | with_reducible refine Gd.t ?_ | with_reducible refine Gd.f ?_ | with_reducible refine Gd.dec (fun _ => ?_) (fun _ => ?_) | with_reducible refine Gd.beq (fun _ => ?_) (fun _ => ?_) | with_reducible refine Gd.bne (fun _ => ?_) (fun _ => ?_) | with_reducible refine Gd.not ?_ | refine Gd.t ?_ | refine Gd.f ?_ | with_reducible refine Gd.var (fun _ => ?_) (fun _ => ?_)) <;> first | (exfalso; omega) | skip) | with_reducible refine Sq.mk ?_ | ((with_reducible show Ld1 _ _ _); first | refine Ld1.h H ?_ | refine Ld1.rF ?_ | refine Ld1.r ?_) | ((with_reducible show Ld _ _ _ _); first | refine Ld.h H ?_ | refine Ld.r ?_) | ((with_reducible show Ix _ _ _ _ _); (first | refine Ix.h ?_ | refine Ix.ha ?_)) | (refine Al.hp H ?_; clear H; intro _ _ H _) | (refine St.h H ?_; clear H; intro _ H))
  (((conv => whnf); refine Cl.mk (mod_c i binSigns.length _ (by decide) (by decide)) ?_); rintro _ _ ⟨rfl, hx⟩; replace H := H.ext hx; clear hx)
  repeat' ((conv => whnf); first | (((with_reducible show Gd _ _ _); first | with_reducible refine Gd.t ?_ | with_reducible refine Gd.f ?_ | with_reducible refine Gd.dec (fun _ => ?_) (fun _ => ?_) | with_reducible refine Gd.beq (fun _ => ?_) (fun _ => ?_) | with_reducible refine Gd.bne (fun _ => ?_) (fun _ => ?_) | with_reducible refine Gd.not ?_ | refine Gd.t ?_ | refine Gd.f ?_ | with_reducible refine Gd.var (fun _ => ?_) (fun _ => ?_)) <;> first | (exfalso; omega) | skip) | with_reducible refine Sq.mk ?_ | ((with_reducible show Ld1 _ _ _); first | refine Ld1.h H ?_ | refine Ld1.rF ?_ | refine Ld1.r ?_) | ((with_reducible show Ld _ _ _ _); first | refine Ld.h H ?_ | refine Ld.r ?_) | ((with_reducible show Ix _ _ _ _ _); (first | refine Ix.h ?_ | refine Ix.ha ?_)) | (refine Al.hp H ?_; clear H; intro _ _ H _) | (refine St.h H ?_; clear H; intro _ H))
  (((conv => whnf); refine Cl.mk (mod_c j binSigns.length _ (by decide) (by decide)) ?_); rintro _ _ ⟨rfl, hx⟩; replace H := H.ext hx; clear hx)
  have ha := modN_lt i (show 0 < binSigns.length by decide)
  have hb := modN_lt j (show 0 < binSigns.length by decide)
  generalize modN i binSigns.length = a at *
  generalize modN j binSigns.length = b at *
  obtain ⟨sa, hsa⟩ : ∃ x, binSigns[a]? = some x := ⟨_, List.getElem?_eq_getElem ha⟩
  obtain ⟨sb, hsb⟩ : ∃ x, binSigns[b]? = some x := ⟨_, List.getElem?_eq_getElem hb⟩
  have hle : ∀ x ∈ binSigns, x.length ≤ 2 := by decide
  have hla := hle sa (List.mem_of_getElem? hsa)
  have hlb := hle sb (List.mem_of_getElem? hsb)
  have hlev := lev_at (i := a) (j := b) ha hb
  rw [show binSg.getD a [] = sa by rw [List.getD, show binSg[a]? = some sa from hsa]; rfl, show binSg.getD b [] = sb by rw [List.getD, show binSg[b]? = some sb from hsb]; rfl] at hlev
  unfold levB at hlev
  split at hlev
  rotate_left
  · cases hlev
  rename_i xe ye ze hxe hye hze
  have hrx := ret_of (by simp [srcX]; omega) hxe
  have hry := ret_of (by simp [srcY]; omega) hye
  have hrz := ret_of (by simp [srcZ]; omega) hze
  rw [Bool.and_eq_true, Bool.and_eq_true, Bool.and_eq_true] at hlev
  obtain ⟨⟨⟨hyz, hlk⟩, hrk⟩, hfin⟩ := hlev
  repeat' ((conv => whnf); first | (((with_reducible show Gd _ _ _); first | with_reducible refine Gd.t ?_ | with_reducible refine Gd.f ?_ | with_reducible refine Gd.dec (fun _ => ?_) (fun _ => ?_) | with_reducible refine Gd.beq (fun _ => ?_) (fun _ => ?_) | with_reducible refine Gd.bne (fun _ => ?_) (fun _ => ?_) | with_reducible refine Gd.not ?_ | refine Gd.t ?_ | refine Gd.f ?_ | with_reducible refine Gd.var (fun _ => ?_) (fun _ => ?_)) <;> first | (exfalso; omega) | skip) | with_reducible refine Sq.mk ?_ | ((with_reducible show Ld1 _ _ _); first | refine Ld1.h H ?_ | refine Ld1.rF ?_ | refine Ld1.r ?_) | ((with_reducible show Ld _ _ _ _); first | refine Ld.h H ?_ | refine Ld.r ?_) | ((with_reducible show Ix _ _ _ _ _); (first | refine Ix.h ?_ | refine Ix.ha ?_)) | (refine Al.hp H ?_; clear H; intro _ _ H _) | (refine St.h H ?_; clear H; intro _ H))
  (conv => whnf)
  refine Dr.cut (σ := ET × Nat) (fun s => [(0, .int .i64 (a : Int)), (1, .int .i64 (b : Int)), (5, .slice A binSigns.length c), (6, .pointer (some ⟨s.2, 0, none⟩)), (7, .bool true)])
    (fun s w' => ET.e s.1 = xe ∧ Hp nw w w' [bk s.2 27 (ET.enc s.1), trs [s.1], qu strE 1 9 A c binSigns]) ?_ (fun s w' hI => ?_)
  · (refine Dr.tr T.ok mixed (.tk 0 (.tk 1 (.tk 2 (.tk 3 (.tk 4 (.tk 5 (.tk 6 (.tk 7 (.tk 8 (.tk 9 (.tk 10 (.tk 11 (.fk 12 16 (.tk 13 (.tk 14 (.tk 15 (.al 16 (.al 17 (.al 18 .nil)))))) (.al 12 (.tk 13 (.tk 14 (.tk 15 (.al 17 (.al 18 .nil))))))))))))))))))) (by kernel_rfl) (fun W w1 hW hmk eT _ => ?_); (repeat' (first | ((conv => whnf); first | (((with_reducible show Gd _ _ _); first | with_reducible refine Gd.t ?_ | with_reducible refine Gd.f ?_ | with_reducible refine Gd.dec (fun _ => ?_) (fun _ => ?_) | with_reducible refine Gd.beq (fun _ => ?_) (fun _ => ?_) | with_reducible refine Gd.bne (fun _ => ?_) (fun _ => ?_) | with_reducible refine Gd.not ?_ | refine Gd.t ?_ | refine Gd.f ?_ | with_reducible refine Gd.var (fun _ => ?_) (fun _ => ?_)) <;> first | (exfalso; omega) | skip) | ((with_reducible show QLd1 _ _ _); first | refine QLd1.h hW H ?_ | refine QLd1.rF hW ?_ | refine QLd1.r hW ?_) | ((with_reducible show QLd _ _ _ _); first | refine QLd.h hW H ?_ | refine QLd.r hW ?_) | ((with_reducible show Ix _ _ _ _ _); (first | refine Ix.h ?_ | refine Ix.ha ?_))) | ((conv => whnf); refine QSm.mk hW (fun w' _ => run_cat (by simp; omega) w') ?_))); (conv => whnf); have H0 := H; replace H := (Hp.begin nw _).ext eT; refine ⟨?_, ?_⟩; rotate_left; (((conv => whnf); refine Al.hp H ?_; clear H; intro p6 _ H _); refine ⟨hmk _ H.e, ?_⟩; ((conv => whnf); refine Cl.mk (returned_c (srcX sa sb) xe _ (hG.ext (Hp.e (Hp.fr0L H0 H (by intro c hc; first | (exact absurd hc (List.not_mem_nil)) | (simp only [List.mem_cons, List.not_mem_nil, or_false] at hc; rcases hc with rfl; exact .inl rfl))))) (by simp [srcX]; omega) hrx) ?_; rintro _ w2 ⟨⟨k1, o1, n1, a1, b1, A1, c1, l1⟩, he, rfl, H'⟩; replace H := H.fr0 H' (.inl rfl); clear H'; refine ⟨hmk _ H.e, ?_⟩); ((conv => whnf); first | (((with_reducible show Gd _ _ _); first | with_reducible refine Gd.t ?_ | with_reducible refine Gd.f ?_ | with_reducible refine Gd.dec (fun _ => ?_) (fun _ => ?_) | with_reducible refine Gd.beq (fun _ => ?_) (fun _ => ?_) | with_reducible refine Gd.bne (fun _ => ?_) (fun _ => ?_) | with_reducible refine Gd.not ?_ | refine Gd.t ?_ | refine Gd.f ?_ | with_reducible refine Gd.var (fun _ => ?_) (fun _ => ?_)) <;> first | (exfalso; omega) | skip) | with_reducible refine Sq.mk ?_ | ((with_reducible show Ld1 _ _ _); first | refine Ld1.h H ?_ | refine Ld1.rF ?_ | refine Ld1.r ?_) | ((with_reducible show Ld _ _ _ _); first | refine Ld.h H ?_ | refine Ld.r ?_) | ((with_reducible show Ix _ _ _ _ _); (first | refine Ix.h ?_ | refine Ix.ha ?_)) | (refine St.h H ?_; clear H; intro _ H)); refine ⟨hmk _ H.e, ?_⟩; (conv => whnf); refine ⟨hmk _ H.e, ?_⟩; (conv => whnf); replace H := Hp.swap H; exact ⟨rfl, (ET.mk k1 o1 n1 a1 b1 A1 c1 l1, p6), (by repeat' (first | exact trivial | refine ⟨rfl, ?_⟩)), rfl, he, Hp.fr0L H0 H (by intro c hc; simp only [List.mem_cons, List.not_mem_nil, or_false] at hc; rcases hc with rfl | rfl <;> exact .inl rfl)⟩); ((conv => whnf); ((conv => whnf); refine Cl.mk (returned_c (srcX sa sb) xe _ (hG.ext (Hp.e (Hp.fr0L H0 H (by intro c hc; first | (exact absurd hc (List.not_mem_nil)) | (simp only [List.mem_cons, List.not_mem_nil, or_false] at hc; rcases hc with rfl; exact .inl rfl))))) (by simp [srcX]; omega) hrx) ?_; rintro _ w2 ⟨⟨k1, o1, n1, a1, b1, A1, c1, l1⟩, he, rfl, H'⟩; replace H := H.fr0 H' (.inl rfl); clear H'; refine ⟨hmk _ H.e, ?_⟩); ((conv => whnf); refine Al.hp H ?_; clear H; intro p6 _ H _); refine ⟨hmk _ H.e, ?_⟩; ((conv => whnf); first | (((with_reducible show Gd _ _ _); first | with_reducible refine Gd.t ?_ | with_reducible refine Gd.f ?_ | with_reducible refine Gd.dec (fun _ => ?_) (fun _ => ?_) | with_reducible refine Gd.beq (fun _ => ?_) (fun _ => ?_) | with_reducible refine Gd.bne (fun _ => ?_) (fun _ => ?_) | with_reducible refine Gd.not ?_ | refine Gd.t ?_ | refine Gd.f ?_ | with_reducible refine Gd.var (fun _ => ?_) (fun _ => ?_)) <;> first | (exfalso; omega) | skip) | with_reducible refine Sq.mk ?_ | ((with_reducible show Ld1 _ _ _); first | refine Ld1.h H ?_ | refine Ld1.rF ?_ | refine Ld1.r ?_) | ((with_reducible show Ld _ _ _ _); first | refine Ld.h H ?_ | refine Ld.r ?_) | ((with_reducible show Ix _ _ _ _ _); (first | refine Ix.h ?_ | refine Ix.ha ?_)) | (refine St.h H ?_; clear H; intro _ H)); refine ⟨hmk _ H.e, ?_⟩; (conv => whnf); refine ⟨hmk _ H.e, ?_⟩; (conv => whnf); exact ⟨rfl, (ET.mk k1 o1 n1 a1 b1 A1 c1 l1, p6), (by repeat' (first | exact trivial | refine ⟨rfl, ?_⟩)), rfl, he, Hp.fr0L H0 H (by intro c hc; simp only [List.mem_cons, List.not_mem_nil, or_false] at hc; rcases hc with rfl | rfl <;> exact .inl rfl)⟩))
  clear H
  obtain ⟨x, p6⟩ := s
  obtain ⟨hx, H⟩ := hI
  simp only at hx H
  (conv => whnf)
  refine Sq.mk ?_
  (conv => whnf)
  refine Dr.cut (σ := ET × Nat) (fun s => [(0, .int .i64 (a : Int)), (1, .int .i64 (b : Int)), (5, .slice A binSigns.length c), (6, .pointer (some ⟨p6, 0, none⟩)), (7, .bool true), (8, .pointer (some ⟨s.2, 0, none⟩)), (9, .bool true)])
    (fun s w' => ET.e s.1 = ye ∧ Hp nw w w' [bk s.2 27 (ET.enc s.1), trs [s.1], bk p6 27 (ET.enc x), trs [x], qu strE 1 9 A c binSigns]) ?_ (fun s w' hI => ?_)
  · (refine Dr.tr T.ok mixed (.tk 0 (.tk 1 (.tk 2 (.tk 3 (.tk 4 (.tk 5 (.tk 6 (.tk 7 (.tk 8 (.tk 9 (.tk 10 (.tk 11 (.fk 12 16 (.tk 13 (.tk 14 (.tk 15 (.al 16 (.al 17 (.al 18 .nil)))))) (.al 12 (.tk 13 (.tk 14 (.tk 15 (.al 17 (.al 18 .nil))))))))))))))))))) (by kernel_rfl) (fun W w1 hW hmk eT _ => ?_); (repeat' (first | ((conv => whnf); first | (((with_reducible show Gd _ _ _); first | with_reducible refine Gd.t ?_ | with_reducible refine Gd.f ?_ | with_reducible refine Gd.dec (fun _ => ?_) (fun _ => ?_) | with_reducible refine Gd.beq (fun _ => ?_) (fun _ => ?_) | with_reducible refine Gd.bne (fun _ => ?_) (fun _ => ?_) | with_reducible refine Gd.not ?_ | refine Gd.t ?_ | refine Gd.f ?_ | with_reducible refine Gd.var (fun _ => ?_) (fun _ => ?_)) <;> first | (exfalso; omega) | skip) | ((with_reducible show QLd1 _ _ _); first | refine QLd1.h hW H ?_ | refine QLd1.rF hW ?_ | refine QLd1.r hW ?_) | ((with_reducible show QLd _ _ _ _); first | refine QLd.h hW H ?_ | refine QLd.r hW ?_) | ((with_reducible show Ix _ _ _ _ _); (first | refine Ix.h ?_ | refine Ix.ha ?_))) | ((conv => whnf); refine QSm.mk hW (fun w' _ => run_cat (by simp; omega) w') ?_))); (conv => whnf); have H0 := H; replace H := (Hp.begin nw _).ext eT; refine ⟨?_, ?_⟩; rotate_left; (((conv => whnf); refine Al.hp H ?_; clear H; intro p6 _ H _); refine ⟨hmk _ H.e, ?_⟩; ((conv => whnf); refine Cl.mk (returned_c (srcY sa sb) ye _ (hG.ext (Hp.e (Hp.fr0L H0 H (by intro c hc; first | (exact absurd hc (List.not_mem_nil)) | (simp only [List.mem_cons, List.not_mem_nil, or_false] at hc; rcases hc with rfl; exact .inl rfl))))) (by simp [srcY]; omega) hry) ?_; rintro _ w2 ⟨⟨k1, o1, n1, a1, b1, A1, c1, l1⟩, he, rfl, H'⟩; replace H := H.fr0 H' (.inl rfl); clear H'; refine ⟨hmk _ H.e, ?_⟩); ((conv => whnf); first | (((with_reducible show Gd _ _ _); first | with_reducible refine Gd.t ?_ | with_reducible refine Gd.f ?_ | with_reducible refine Gd.dec (fun _ => ?_) (fun _ => ?_) | with_reducible refine Gd.beq (fun _ => ?_) (fun _ => ?_) | with_reducible refine Gd.bne (fun _ => ?_) (fun _ => ?_) | with_reducible refine Gd.not ?_ | refine Gd.t ?_ | refine Gd.f ?_ | with_reducible refine Gd.var (fun _ => ?_) (fun _ => ?_)) <;> first | (exfalso; omega) | skip) | with_reducible refine Sq.mk ?_ | ((with_reducible show Ld1 _ _ _); first | refine Ld1.h H ?_ | refine Ld1.rF ?_ | refine Ld1.r ?_) | ((with_reducible show Ld _ _ _ _); first | refine Ld.h H ?_ | refine Ld.r ?_) | ((with_reducible show Ix _ _ _ _ _); (first | refine Ix.h ?_ | refine Ix.ha ?_)) | (refine St.h H ?_; clear H; intro _ H)); refine ⟨hmk _ H.e, ?_⟩; (conv => whnf); refine ⟨hmk _ H.e, ?_⟩; (conv => whnf); replace H := Hp.swap H; exact ⟨rfl, (ET.mk k1 o1 n1 a1 b1 A1 c1 l1, p6), (by repeat' (first | exact trivial | refine ⟨rfl, ?_⟩)), rfl, he, Hp.fr0L H0 H (by intro c hc; simp only [List.mem_cons, List.not_mem_nil, or_false] at hc; rcases hc with rfl | rfl <;> exact .inl rfl)⟩); ((conv => whnf); ((conv => whnf); refine Cl.mk (returned_c (srcY sa sb) ye _ (hG.ext (Hp.e (Hp.fr0L H0 H (by intro c hc; first | (exact absurd hc (List.not_mem_nil)) | (simp only [List.mem_cons, List.not_mem_nil, or_false] at hc; rcases hc with rfl; exact .inl rfl))))) (by simp [srcY]; omega) hry) ?_; rintro _ w2 ⟨⟨k1, o1, n1, a1, b1, A1, c1, l1⟩, he, rfl, H'⟩; replace H := H.fr0 H' (.inl rfl); clear H'; refine ⟨hmk _ H.e, ?_⟩); ((conv => whnf); refine Al.hp H ?_; clear H; intro p6 _ H _); refine ⟨hmk _ H.e, ?_⟩; ((conv => whnf); first | (((with_reducible show Gd _ _ _); first | with_reducible refine Gd.t ?_ | with_reducible refine Gd.f ?_ | with_reducible refine Gd.dec (fun _ => ?_) (fun _ => ?_) | with_reducible refine Gd.beq (fun _ => ?_) (fun _ => ?_) | with_reducible refine Gd.bne (fun _ => ?_) (fun _ => ?_) | with_reducible refine Gd.not ?_ | refine Gd.t ?_ | refine Gd.f ?_ | with_reducible refine Gd.var (fun _ => ?_) (fun _ => ?_)) <;> first | (exfalso; omega) | skip) | with_reducible refine Sq.mk ?_ | ((with_reducible show Ld1 _ _ _); first | refine Ld1.h H ?_ | refine Ld1.rF ?_ | refine Ld1.r ?_) | ((with_reducible show Ld _ _ _ _); first | refine Ld.h H ?_ | refine Ld.r ?_) | ((with_reducible show Ix _ _ _ _ _); (first | refine Ix.h ?_ | refine Ix.ha ?_)) | (refine St.h H ?_; clear H; intro _ H)); refine ⟨hmk _ H.e, ?_⟩; (conv => whnf); refine ⟨hmk _ H.e, ?_⟩; (conv => whnf); exact ⟨rfl, (ET.mk k1 o1 n1 a1 b1 A1 c1 l1, p6), (by repeat' (first | exact trivial | refine ⟨rfl, ?_⟩)), rfl, he, Hp.fr0L H0 H (by intro c hc; simp only [List.mem_cons, List.not_mem_nil, or_false] at hc; rcases hc with rfl | rfl <;> exact .inl rfl)⟩))
  clear H
  obtain ⟨y, p8⟩ := s
  obtain ⟨hy, H⟩ := hI
  simp only at hy H
  (conv => whnf)
  refine Sq.mk ?_
  (conv => whnf)
  refine Dr.cut (σ := ET × Nat) (fun s => [(0, .int .i64 (a : Int)), (1, .int .i64 (b : Int)), (6, .pointer (some ⟨p6, 0, none⟩)), (7, .bool true), (8, .pointer (some ⟨p8, 0, none⟩)), (9, .bool true), (10, .pointer (some ⟨s.2, 0, none⟩)), (11, .bool true)])
    (fun s w' => ET.e s.1 = ze ∧ Hp nw w w' [bk s.2 27 (ET.enc s.1), trs [s.1], bk p8 27 (ET.enc y), trs [y], bk p6 27 (ET.enc x), trs [x], qu strE 1 9 A c binSigns]) ?_ (fun s w' hI => ?_)
  · (refine Dr.tr T.ok mixed (.tk 0 (.tk 1 (.tk 2 (.tk 3 (.tk 4 (.tk 5 (.tk 6 (.tk 7 (.tk 8 (.tk 9 (.tk 10 (.tk 11 (.fk 12 16 (.tk 13 (.tk 14 (.tk 15 (.al 16 (.al 17 (.al 18 .nil)))))) (.al 12 (.tk 13 (.tk 14 (.tk 15 (.al 17 (.al 18 .nil))))))))))))))))))) (by kernel_rfl) (fun W w1 hW hmk eT _ => ?_); (repeat' (first | ((conv => whnf); first | (((with_reducible show Gd _ _ _); first | with_reducible refine Gd.t ?_ | with_reducible refine Gd.f ?_ | with_reducible refine Gd.dec (fun _ => ?_) (fun _ => ?_) | with_reducible refine Gd.beq (fun _ => ?_) (fun _ => ?_) | with_reducible refine Gd.bne (fun _ => ?_) (fun _ => ?_) | with_reducible refine Gd.not ?_ | refine Gd.t ?_ | refine Gd.f ?_ | with_reducible refine Gd.var (fun _ => ?_) (fun _ => ?_)) <;> first | (exfalso; omega) | skip) | ((with_reducible show QLd1 _ _ _); first | refine QLd1.h hW H ?_ | refine QLd1.rF hW ?_ | refine QLd1.r hW ?_) | ((with_reducible show QLd _ _ _ _); first | refine QLd.h hW H ?_ | refine QLd.r hW ?_) | ((with_reducible show Ix _ _ _ _ _); (first | refine Ix.h ?_ | refine Ix.ha ?_))) | ((conv => whnf); refine QSm.mk hW (fun w' _ => run_cat (by simp; omega) w') ?_))); (conv => whnf); have H0 := H; replace H := (Hp.begin nw _).ext eT; refine ⟨?_, ?_⟩; rotate_left; (((conv => whnf); refine Al.hp H ?_; clear H; intro p6 _ H _); refine ⟨hmk _ H.e, ?_⟩; ((conv => whnf); refine Cl.mk (returned_c (srcZ sa sb) ze _ (hG.ext (Hp.e (Hp.fr0L H0 H (by intro c hc; first | (exact absurd hc (List.not_mem_nil)) | (simp only [List.mem_cons, List.not_mem_nil, or_false] at hc; rcases hc with rfl; exact .inl rfl))))) (by simp [srcZ]; omega) hrz) ?_; rintro _ w2 ⟨⟨k1, o1, n1, a1, b1, A1, c1, l1⟩, he, rfl, H'⟩; replace H := H.fr0 H' (.inl rfl); clear H'; refine ⟨hmk _ H.e, ?_⟩); ((conv => whnf); first | (((with_reducible show Gd _ _ _); first | with_reducible refine Gd.t ?_ | with_reducible refine Gd.f ?_ | with_reducible refine Gd.dec (fun _ => ?_) (fun _ => ?_) | with_reducible refine Gd.beq (fun _ => ?_) (fun _ => ?_) | with_reducible refine Gd.bne (fun _ => ?_) (fun _ => ?_) | with_reducible refine Gd.not ?_ | refine Gd.t ?_ | refine Gd.f ?_ | with_reducible refine Gd.var (fun _ => ?_) (fun _ => ?_)) <;> first | (exfalso; omega) | skip) | with_reducible refine Sq.mk ?_ | ((with_reducible show Ld1 _ _ _); first | refine Ld1.h H ?_ | refine Ld1.rF ?_ | refine Ld1.r ?_) | ((with_reducible show Ld _ _ _ _); first | refine Ld.h H ?_ | refine Ld.r ?_) | ((with_reducible show Ix _ _ _ _ _); (first | refine Ix.h ?_ | refine Ix.ha ?_)) | (refine St.h H ?_; clear H; intro _ H)); refine ⟨hmk _ H.e, ?_⟩; (conv => whnf); refine ⟨hmk _ H.e, ?_⟩; (conv => whnf); replace H := Hp.swap H; exact ⟨rfl, (ET.mk k1 o1 n1 a1 b1 A1 c1 l1, p6), (by repeat' (first | exact trivial | refine ⟨rfl, ?_⟩)), rfl, he, Hp.fr0L H0 H (by intro c hc; simp only [List.mem_cons, List.not_mem_nil, or_false] at hc; rcases hc with rfl | rfl <;> exact .inl rfl)⟩); ((conv => whnf); ((conv => whnf); refine Cl.mk (returned_c (srcZ sa sb) ze _ (hG.ext (Hp.e (Hp.fr0L H0 H (by intro c hc; first | (exact absurd hc (List.not_mem_nil)) | (simp only [List.mem_cons, List.not_mem_nil, or_false] at hc; rcases hc with rfl; exact .inl rfl))))) (by simp [srcZ]; omega) hrz) ?_; rintro _ w2 ⟨⟨k1, o1, n1, a1, b1, A1, c1, l1⟩, he, rfl, H'⟩; replace H := H.fr0 H' (.inl rfl); clear H'; refine ⟨hmk _ H.e, ?_⟩); ((conv => whnf); refine Al.hp H ?_; clear H; intro p6 _ H _); refine ⟨hmk _ H.e, ?_⟩; ((conv => whnf); first | (((with_reducible show Gd _ _ _); first | with_reducible refine Gd.t ?_ | with_reducible refine Gd.f ?_ | with_reducible refine Gd.dec (fun _ => ?_) (fun _ => ?_) | with_reducible refine Gd.beq (fun _ => ?_) (fun _ => ?_) | with_reducible refine Gd.bne (fun _ => ?_) (fun _ => ?_) | with_reducible refine Gd.not ?_ | refine Gd.t ?_ | refine Gd.f ?_ | with_reducible refine Gd.var (fun _ => ?_) (fun _ => ?_)) <;> first | (exfalso; omega) | skip) | with_reducible refine Sq.mk ?_ | ((with_reducible show Ld1 _ _ _); first | refine Ld1.h H ?_ | refine Ld1.rF ?_ | refine Ld1.r ?_) | ((with_reducible show Ld _ _ _ _); first | refine Ld.h H ?_ | refine Ld.r ?_) | ((with_reducible show Ix _ _ _ _ _); (first | refine Ix.h ?_ | refine Ix.ha ?_)) | (refine St.h H ?_; clear H; intro _ H)); refine ⟨hmk _ H.e, ?_⟩; (conv => whnf); refine ⟨hmk _ H.e, ?_⟩; (conv => whnf); exact ⟨rfl, (ET.mk k1 o1 n1 a1 b1 A1 c1 l1, p6), (by repeat' (first | exact trivial | refine ⟨rfl, ?_⟩)), rfl, he, Hp.fr0L H0 H (by intro c hc; simp only [List.mem_cons, List.not_mem_nil, or_false] at hc; rcases hc with rfl | rfl <;> exact .inl rfl)⟩))
  clear H
  obtain ⟨z, p10⟩ := s
  obtain ⟨hz, H⟩ := hI
  simp only at hz H
  rw [← hy] at hyz hlk hfin
  rw [← hz] at hyz hrk hfin
  rw [← hx] at hfin
  obtain ⟨k, o, n, nm, cb, A0, c0, k1, o1, n1, nm1, cb1, A1, c1, k2, o2, n2, cb2, A2, c2, l2, k3, o3, n3, cb3, A3, c3, l3, k4, o4, n4, cb4, A4, c4, l4, rfl⟩ := lkT hlk
  obtain ⟨K, O, N, Nm, Cb, B0, C0, K1, O1, N1, Nm1, Cb1, B1, C1, K2, O2, N2, Cb2, B2, C2, L2, K3, O3, N3, Cb3, B3, C3, L3, K4, O4, N4, Cb4, B4, C4, L4, rfl⟩ := rkT hrk
  obtain ⟨kx, ox, nx, nmx, cbx, Ax, cx, lx⟩ := x
  have y0 : [ET.mk k1 o1 n1 nm1 cb1 A1 c1 [.mk k2 o2 n2 [97] cb2 A2 c2 l2, .mk k3 o3 n3 [98] cb3 A3 c3 l3], .mk k4 o4 n4 [99] cb4 A4 c4 l4][0]? = some (.mk k1 o1 n1 nm1 cb1 A1 c1 [.mk k2 o2 n2 [97] cb2 A2 c2 l2, .mk k3 o3 n3 [98] cb3 A3 c3 l3]) := rfl
  have y1 : [ET.mk k1 o1 n1 nm1 cb1 A1 c1 [.mk k2 o2 n2 [97] cb2 A2 c2 l2, .mk k3 o3 n3 [98] cb3 A3 c3 l3], .mk k4 o4 n4 [99] cb4 A4 c4 l4][1]? = some (.mk k4 o4 n4 [99] cb4 A4 c4 l4) := rfl
  have y00 : [ET.mk k2 o2 n2 [97] cb2 A2 c2 l2, .mk k3 o3 n3 [98] cb3 A3 c3 l3][0]? = some (.mk k2 o2 n2 [97] cb2 A2 c2 l2) := rfl
  have y01 : [ET.mk k2 o2 n2 [97] cb2 A2 c2 l2, .mk k3 o3 n3 [98] cb3 A3 c3 l3][1]? = some (.mk k3 o3 n3 [98] cb3 A3 c3 l3) := rfl
  have z0 : [ET.mk K4 O4 N4 [97] Cb4 B4 C4 L4, .mk K1 O1 N1 Nm1 Cb1 B1 C1 [.mk K2 O2 N2 [98] Cb2 B2 C2 L2, .mk K3 O3 N3 [99] Cb3 B3 C3 L3]][0]? = some (.mk K4 O4 N4 [97] Cb4 B4 C4 L4) := rfl
  have z1 : [ET.mk K4 O4 N4 [97] Cb4 B4 C4 L4, .mk K1 O1 N1 Nm1 Cb1 B1 C1 [.mk K2 O2 N2 [98] Cb2 B2 C2 L2, .mk K3 O3 N3 [99] Cb3 B3 C3 L3]][1]? = some (.mk K1 O1 N1 Nm1 Cb1 B1 C1 [.mk K2 O2 N2 [98] Cb2 B2 C2 L2, .mk K3 O3 N3 [99] Cb3 B3 C3 L3]) := rfl
  have z10 : [ET.mk K2 O2 N2 [98] Cb2 B2 C2 L2, .mk K3 O3 N3 [99] Cb3 B3 C3 L3][0]? = some (.mk K2 O2 N2 [98] Cb2 B2 C2 L2) := rfl
  have z11 : [ET.mk K2 O2 N2 [98] Cb2 B2 C2 L2, .mk K3 O3 N3 [99] Cb3 B3 C3 L3][1]? = some (.mk K3 O3 N3 [99] Cb3 B3 C3 L3) := rfl
  repeat' ((conv => whnf); first | (((with_reducible show Gd _ _ _); first | with_reducible refine Gd.t ?_ | with_reducible refine Gd.f ?_ | with_reducible refine Gd.dec (fun _ => ?_) (fun _ => ?_) | with_reducible refine Gd.beq (fun _ => ?_) (fun _ => ?_) | with_reducible refine Gd.bne (fun _ => ?_) (fun _ => ?_) | with_reducible refine Gd.not ?_ | refine Gd.t ?_ | refine Gd.f ?_ | with_reducible refine Gd.var (fun _ => ?_) (fun _ => ?_)) <;> first | (exfalso; omega) | skip) | with_reducible refine Sq.mk ?_ | ((with_reducible show Ld1 _ _ _); first | refine Ld1.h H ?_ | refine Ld1.rF ?_ | refine Ld1.r ?_) | ((with_reducible show Ld _ _ _ _); first | refine Ld.h H ?_ | refine Ld.r ?_) | ((with_reducible show Ix _ _ _ _ _); (first | refine Ix.h ?_ | refine Ix.ha ?_)) | (refine Al.hp H ?_; clear H; intro _ _ H _) | (refine St.h H ?_; clear H; intro _ H))
  (((conv => whnf); refine Cl.mk (sameExpr_c _ _ _ _ (Nat.le_refl _) (H.atC (c := trs [_]) 3 rfl).1.1 (H.atC (c := trs [_]) 1 rfl).1.1) ?_); rintro _ _ ⟨rfl, hx⟩; replace H := H.ext hx; clear hx)
  rw [same_X, eq_of_beq hyz]
  have gz := (H.atC (c := trs [_]) 1 rfl).1.1
  have gy := (H.atC (c := trs [_]) 3 rfl).1.1
  have ry : RdS ET.enc 6 _ A0 _ := gy.1.rd
  have ry1 : RdS ET.enc 6 _ A1 _ := gy.2.1.1.1.rd
  have rz : RdS ET.enc 6 _ B0 _ := gz.1.rd
  have rz1 : RdS ET.enc 6 _ B1 _ := gz.2.1.2.1.1.rd
  repeat' ((conv => whnf); first | (((with_reducible show Gd _ _ _); first | with_reducible refine Gd.t ?_ | with_reducible refine Gd.f ?_ | with_reducible refine Gd.dec (fun _ => ?_) (fun _ => ?_) | with_reducible refine Gd.beq (fun _ => ?_) (fun _ => ?_) | with_reducible refine Gd.bne (fun _ => ?_) (fun _ => ?_) | with_reducible refine Gd.not ?_ | refine Gd.t ?_ | refine Gd.f ?_ | with_reducible refine Gd.var (fun _ => ?_) (fun _ => ?_)) <;> first | (exfalso; omega) | skip) | with_reducible refine Sq.mk ?_ | ((with_reducible show Ld1 _ _ _); first | refine Ld1.h H ?_ | refine Ld1.rF ?_ | refine Ld1.r ?_) | ((with_reducible show Ld _ _ _ _); first | refine Ld.h H ?_ | refine Ld.r ?_) | ((with_reducible show Ix _ _ _ _ _); (first | refine Ix.h ?_ | refine Ix.ha ?_)) | (refine Al.hp H ?_; clear H; intro _ _ H _) | (refine St.h H ?_; clear H; intro _ H))
  all_goals first | (exfalso; exact (by assumption : (_ : Int) ≠ _) rfl) | skip
  clear gz gy ry ry1 rz rz1
  (((conv => whnf); refine Cl.mk (binds_c a _ ha) ?_); rintro _ _ ⟨rfl, hx⟩; replace H := H.ext hx; clear hx)
  repeat' ((conv => whnf); first | (((with_reducible show Gd _ _ _); first | with_reducible refine Gd.t ?_ | with_reducible refine Gd.f ?_ | with_reducible refine Gd.dec (fun _ => ?_) (fun _ => ?_) | with_reducible refine Gd.beq (fun _ => ?_) (fun _ => ?_) | with_reducible refine Gd.bne (fun _ => ?_) (fun _ => ?_) | with_reducible refine Gd.not ?_ | refine Gd.t ?_ | refine Gd.f ?_ | with_reducible refine Gd.var (fun _ => ?_) (fun _ => ?_)) <;> first | (exfalso; omega) | skip) | with_reducible refine Sq.mk ?_ | ((with_reducible show Ld1 _ _ _); first | refine Ld1.h H ?_ | refine Ld1.rF ?_ | refine Ld1.r ?_) | ((with_reducible show Ld _ _ _ _); first | refine Ld.h H ?_ | refine Ld.r ?_) | ((with_reducible show Ix _ _ _ _ _); (first | refine Ix.h ?_ | refine Ix.ha ?_)) | (refine Al.hp H ?_; clear H; intro _ _ H _) | (refine St.h H ?_; clear H; intro _ H))
  (((conv => whnf); refine Cl.mk (binds_c b _ hb) ?_); rintro _ _ ⟨rfl, hx⟩; replace H := H.ext hx; clear hx)
  repeat' ((conv => whnf); first | (((with_reducible show Gd _ _ _); first | with_reducible refine Gd.t ?_ | with_reducible refine Gd.f ?_ | with_reducible refine Gd.dec (fun _ => ?_) (fun _ => ?_) | with_reducible refine Gd.beq (fun _ => ?_) (fun _ => ?_) | with_reducible refine Gd.bne (fun _ => ?_) (fun _ => ?_) | with_reducible refine Gd.not ?_ | refine Gd.t ?_ | refine Gd.f ?_ | with_reducible refine Gd.var (fun _ => ?_) (fun _ => ?_)) <;> first | (exfalso; omega) | skip) | with_reducible refine Sq.mk ?_ | ((with_reducible show Ld1 _ _ _); first | refine Ld1.h H ?_ | refine Ld1.rF ?_ | refine Ld1.r ?_) | ((with_reducible show Ld _ _ _ _); first | refine Ld.h H ?_ | refine Ld.r ?_) | ((with_reducible show Ix _ _ _ _ _); (first | refine Ix.h ?_ | refine Ix.ha ?_)) | (refine Al.hp H ?_; clear H; intro _ _ H _) | (refine St.h H ?_; clear H; intro _ H))
  · rename_i hge
    rw [if_pos (show bindN.getD b 0 ≤ bindN.getD a 0 from hge)] at hfin
    (conv => whnf)
    (((conv => whnf); refine Cl.mk (sameExpr_c _ _ _ _ (Nat.le_refl _) (H.atC (c := trs [_]) 5 rfl).1.1 (H.atC (c := trs [_]) 3 rfl).1.1) ?_); rintro _ _ ⟨rfl, hx⟩; replace H := H.ext hx; clear hx)
    repeat' ((conv => whnf); first | (((with_reducible show Gd _ _ _); first | with_reducible refine Gd.t ?_ | with_reducible refine Gd.f ?_ | with_reducible refine Gd.dec (fun _ => ?_) (fun _ => ?_) | with_reducible refine Gd.beq (fun _ => ?_) (fun _ => ?_) | with_reducible refine Gd.bne (fun _ => ?_) (fun _ => ?_) | with_reducible refine Gd.not ?_ | refine Gd.t ?_ | refine Gd.f ?_ | with_reducible refine Gd.var (fun _ => ?_) (fun _ => ?_)) <;> first | (exfalso; omega) | skip) | with_reducible refine Sq.mk ?_ | ((with_reducible show Ld1 _ _ _); first | refine Ld1.h H ?_ | refine Ld1.rF ?_ | refine Ld1.r ?_) | ((with_reducible show Ld _ _ _ _); first | refine Ld.h H ?_ | refine Ld.r ?_) | ((with_reducible show Ix _ _ _ _ _); (first | refine Ix.h ?_ | refine Ix.ha ?_)) | (refine Al.hp H ?_; clear H; intro _ _ H _) | (refine St.h H ?_; clear H; intro _ H))
    exact ⟨b_eq (by rw [same_X]; exact hfin), H.e⟩
  · rename_i hge
    rw [if_neg (show ¬ bindN.getD b 0 ≤ bindN.getD a 0 from hge)] at hfin
    (conv => whnf)
    (((conv => whnf); refine Cl.mk (sameExpr_c _ _ _ _ (Nat.le_refl _) (H.atC (c := trs [_]) 5 rfl).1.1 (H.atC (c := trs [_]) 1 rfl).1.1) ?_); rintro _ _ ⟨rfl, hx⟩; replace H := H.ext hx; clear hx)
    repeat' ((conv => whnf); first | (((with_reducible show Gd _ _ _); first | with_reducible refine Gd.t ?_ | with_reducible refine Gd.f ?_ | with_reducible refine Gd.dec (fun _ => ?_) (fun _ => ?_) | with_reducible refine Gd.beq (fun _ => ?_) (fun _ => ?_) | with_reducible refine Gd.bne (fun _ => ?_) (fun _ => ?_) | with_reducible refine Gd.not ?_ | refine Gd.t ?_ | refine Gd.f ?_ | with_reducible refine Gd.var (fun _ => ?_) (fun _ => ?_)) <;> first | (exfalso; omega) | skip) | with_reducible refine Sq.mk ?_ | ((with_reducible show Ld1 _ _ _); first | refine Ld1.h H ?_ | refine Ld1.rF ?_ | refine Ld1.r ?_) | ((with_reducible show Ld _ _ _ _); first | refine Ld.h H ?_ | refine Ld.r ?_) | ((with_reducible show Ix _ _ _ _ _); (first | refine Ix.h ?_ | refine Ix.ha ?_)) | (refine Al.hp H ?_; clear H; intro _ _ H _) | (refine St.h H ?_; clear H; intro _ H))
    exact ⟨b_eq (by rw [same_X]; exact hfin), H.e⟩
end Go.Proofs.YtfnjodpehomgfaaDoor
namespace Go.Proofs.YtfnjodpehomgfaaDoor
open Go Go.Sh Go.Tx
set_option linter.unusedVariables false
set_option linter.unusedSimpArgs false
attribute [local irreducible] Blk Ext RdS
theorem kids : Kids Tryd.prog (· < Tryd.prog.types.size) := kids_rows (by kernel_rfl) (by kernel_rfl)
theorem full : ∀ t e, t < Tryd.prog.types.size → Tryd.prog.underlying t = some (.slice e) → 0 < Tryd.prog.cellsOf e := slices_full_of _ (by kernel_rfl)
theorem own : ownKnob Tryd.prog.godebug = none := by kernel_rfl
theorem u_int : Tryd.prog.underlying 3 = some (.int .i64) := (T.ok.1.get (t := 3) (i := T.t3) rfl).1
theorem u_int64 : Tryd.prog.underlying 2 = some (.int .i64) := (T.ok.1.get (t := 2) (i := T.t2) rfl).1
theorem u_bool : Tryd.prog.underlying 4 = some .bool := (T.ok.1.get (t := 4) (i := T.t4) rfl).1
theorem wf64 {n : Int} (h : (Lit.int .i64 n).wf = true) : -9223372036854775808 ≤ n ∧ n ≤ 9223372036854775807 := by
  have h := (Lit.wf_int_iff _ _).1 h
  have e1 : IntKind.i64.min = -9223372036854775808 := by decide
  have e2 : IntKind.i64.max = 9223372036854775807 := by decide
  rw [e1, e2] at h
  exact h
set_option maxRecDepth 100000 in
/-- a number that comes in -/
theorem arg_int {H : Type} {enc : TypeId × Value → H} {w : World} {sp : Nat → Bool} {held : Bool} {v : Value} {d : DataW H} {p : List MemPlace} {r : Go.Reach} {b0 : Nat} (hv : Value.okWide Tryd.prog w r b0 3 v) (h : DataW.Trod enc Tryd.prog w 0 sp held 3 v d p) :
    ∃ n : Int, v = .int .i64 n ∧ -9223372036854775808 ≤ n ∧ n ≤ 9223372036854775807 := by
  obtain ⟨m, h1, _, _, h4⟩ := ChangeShapes.open_int (P := Tryd.prog) (t := 3) u_int hv h
  exact ⟨m, h1, wf64 h4⟩
set_option maxRecDepth 100000 in
theorem arg_int64 {H : Type} {enc : TypeId × Value → H} {w : World} {sp : Nat → Bool} {held : Bool} {v : Value} {d : DataW H} {p : List MemPlace} {r : Go.Reach} {b0 : Nat} (hv : Value.okWide Tryd.prog w r b0 2 v) (h : DataW.Trod enc Tryd.prog w 0 sp held 2 v d p) :
    ∃ n : Int, v = .int .i64 n ∧ -9223372036854775808 ≤ n ∧ n ≤ 9223372036854775807 := by
  obtain ⟨m, h1, _, _, h4⟩ := ChangeShapes.open_int (P := Tryd.prog) (t := 2) u_int64 hv h
  exact ⟨m, h1, wf64 h4⟩
abbrev laidData : List (String × DataW Unit) := [("math/bits.deBruijn32tab", Rows.laid_math_bits_deBruijn32tab), ("math/bits.deBruijn64tab", Rows.laid_math_bits_deBruijn64tab), ("internal/strconv.uint64pow10", Rows.laid_internal_strconv_uint64pow10), ("plunder/ops.names", Rows.laid_plunder_ops_names), ("plunder/text.levels", Rows.laid_plunder_text_levels), ("plunder/text.keywords", Rows.laid_plunder_text_keywords), ("plunder/text.signs", Rows.laid_plunder_text_signs)]
theorem rg_laid {W : World} (h : laidMet Tryd.prog laidData W ∧ handlesMet Tryd.prog [("errors.errorType", Rows.laid_errors_errorType)] W) : Rg W ∧ Pow W := by
  have h1 := laidMet.tail (laidMet.tail h.1)
  have hp : Pow W := Lib.tabIs_of_head (zs := Lib.pow10Tab) (g := 2) (t := 134) (e := 102) (n := 20) (by kernel_rfl) (by kernel_rfl) (by kernel_rfl) (by kernel_rfl) (by kernel_rfl) (by kernel_rfl) h1
  have h2 := laidMet.tail h1
  have hn := tab_str (l := opNames) (g := 7) (n := 16) (by kernel_rfl) rfl (by kernel_rfl) rfl (by kernel_rfl) h2
  have h3 := laidMet.tail h2
  have hl := tab_lvl (ls := levels) (g := 6) (n := 8) (by kernel_rfl) rfl (by kernel_rfl) rfl (by kernel_rfl) h3
  have h4 := laidMet.tail h3
  have hk := tab_str (l := keywords) (g := 3) (n := 15) (by kernel_rfl) rfl (by kernel_rfl) rfl (by kernel_rfl) h4
  have h5 := laidMet.tail h4
  have hs := tab_str (l := signs) (g := 1) (n := 24) (by kernel_rfl) rfl (by kernel_rfl) rfl (by kernel_rfl) h5
  exact ⟨rg_of hk hs hn hl hp (eg_of h.2), hp⟩
def litV : DataW Unit → List Value
  | .lit (.int k n) => [.int k n]
  | .lit (.string s) => [.string (bs s)]
  | _ => []
def litVs : DataW Unit → List Value
  | .agg l => l.flatMap litV
  | _ => []
def setG (cs : List Value) : Obj → Obj
  | .cells _ t frozen => .cells cs.toArray t frozen
  | o => o
/-- a settled world in which the tables are laid -/
noncomputable def laidWorld (os : Os) : World :=
  let w0 := World.holding Tryd.prog os ⟨#[], #[], []⟩
  let n := w0.heap.size
  { w0 with heap := ((((((((w0.heap.modify 4 (setG (litVs Rows.laid_math_bits_deBruijn32tab))).modify 5 (setG (litVs Rows.laid_math_bits_deBruijn64tab))).modify 2 (setG (litVs Rows.laid_internal_strconv_uint64pow10))).modify 7 (setG (litVs Rows.laid_plunder_ops_names))).modify 3 (setG (litVs Rows.laid_plunder_text_keywords))).modify 1 (setG (litVs Rows.laid_plunder_text_signs))).modify 0 (setG [.iface 108 (.agg #[.pointer (some ⟨9, 54, none⟩)])])).modify 6 (setG ((List.range 8).map fun i => .slice (some ⟨n + i, 0, none⟩) ((levels.map List.length).getD i 0) ((levels.map List.length).getD i 0)))) ++ (levels.map fun l => Obj.cells (l.map fun b => Value.string (bs b)).toArray 9 (0, 0)).toArray }
end Go.Proofs.YtfnjodpehomgfaaDoor
