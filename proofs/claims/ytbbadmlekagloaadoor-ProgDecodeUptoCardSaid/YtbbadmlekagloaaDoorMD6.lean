/- own work: PhT, PhU, PiA, ShU, PhV, PiC, PiD, PiE, PiF, ShW -/
import Derived.Test.YtbbadmlekagloaaDoorMD5
namespace Go.Proofs.YtbbadmlekagloaaDoor
open Go Go.Sh
set_option linter.unusedVariables false
set_option linter.unusedSimpArgs false
attribute [local irreducible] Blk Ext RdS
def rdrV (A : Option Addr) (c : Nat) (r : List Int) (bad : Bool) : List Value := [.slice A r.length c, .bool bad]
/-- a reader: the words that are left, whether it went wrong -/
def Rder (wb : World) (pr : Nat) (r : List Int) (bad : Bool) (w : World) : Prop := ∃ A c, RdS ints 1 wb A r ∧ r.length ≤ c ∧ Blk w pr 103 (rdrV A c r bad)
abbrev rr (wb : World) (pr : Nat) (r : List Int) (bad : Bool) : Ck := ⟨(· = pr), Rder wb pr r bad, true, false⟩
theorem rr_ok {wb w : World} {pr : Nat} {r : List Int} {bad : Bool} (h : Rder wb pr r bad w) : (rr wb pr r bad).Ok w := by
  obtain ⟨A, c, h1, h2, h3⟩ := h
  exact ⟨⟨A, c, h1, h2, h3⟩, fun k hk => by subst hk; exact h3.lt, fun w' hs hb => ⟨A, c, h1, h2, (bk_ok h3).loc w' hs hb⟩⟩
/-- a reader's block, seen as a reader -/
theorem Hp.rr {S : Nat → Prop} {wb w0 w : World} {Γ Γ' : List Ck} {pr : Nat} {r : List Int} {bad : Bool} {A : Option Addr} {c : Nat} (H : Hp S w0 w Γ) (hA : RdS ints 1 wb A r) (hc : r.length ≤ c)
    (u : Upd1 Γ (bk pr 103 (rdrV A c r bad)) (rr wb pr r bad) Γ' := by (repeat (first | exact Upd1.head | apply Upd1.tail))) : Hp S w0 w Γ' := by
  obtain ⟨L, R, h1, rfl⟩ := u.sp
  exact H.putS h1 (Hp.start (S := (· = pr)) (rr_ok ⟨A, c, hA, hc, H.mem (c := bk pr 103 (rdrV A c r bad)) (by rw [h1.eq]; simp)⟩) (fun k hk => hk)) rfl (.inl rfl)
def nx (r : List Int) : Int := r.headD 0
theorem next_c (pr : Nat) (r : List Int) (bad : Bool) (wb w : World) (hwb : Ext wb w) (hlo : wb.heap.size ≤ pr) (hr : Rder wb pr r bad w) :
    Cl Tryd.prog 81 #[.pointer (some ⟨pr, 0, none⟩)] w (fun v w' => v = .int .i64 (nx r) ∧ Hp (· = pr) w w' [rr wb pr r.tail (bad || r.isEmpty)]) (fun _ _ => False) := by
  obtain ⟨A, c, hA, hc, hb⟩ := hr
  have HB : BaseOk (· = pr) wb w := ⟨hwb, fun k hk => by subst hk; exact hlo⟩
  refine calls_ex (args := [.pointer (some ⟨pr, 0, none⟩)]) T.ok Tryd.func81 rfl rfl rfl rfl ?_
  have H := Hp.start (S := (· = pr)) (bk_ok hb) (fun k hk => hk)
  cases r with
  | nil =>
    have hne : ((([] : List Int).length : Nat) : Int) = 0 := rfl
    repeat' ((conv => whnf); first | (((with_reducible show Gd _ _ _); first | with_reducible refine Gd.t ?_ | with_reducible refine Gd.f ?_ | with_reducible refine Gd.dec (fun _ => ?_) (fun _ => ?_) | with_reducible refine Gd.beq (fun _ => ?_) (fun _ => ?_) | with_reducible refine Gd.bne (fun _ => ?_) (fun _ => ?_) | with_reducible refine Gd.not ?_ | refine Gd.t ?_ | refine Gd.f ?_ | with_reducible refine Gd.var (fun _ => ?_) (fun _ => ?_)) <;> first | (exfalso; omega) | skip) | with_reducible refine Sq.mk ?_ | ((with_reducible show Ld1 _ _ _); first | refine Ld1.h H ?_ | refine Ld1.rF ?_ | refine Ld1.r ?_) | ((with_reducible show Ld _ _ _ _); first | refine Ld.h H ?_ | refine Ld.r ?_) | ((with_reducible show Ix _ _ _ _ _); (first | refine Ix.h ?_ | refine Ix.ha ?_)) | (refine Al.hp H ?_; clear H; intro _ _ H _) | (refine St.h H ?_; clear H; intro _ H))
    replace H : Hp (· = pr) w _ [bk pr 103 (rdrV A c [] true)] := H
    exact ⟨rfl, by rw [show (bad || List.isEmpty ([] : List Int)) = true by simp]; exact Hp.rr H hA hc⟩
  | cons x r =>
    have hx : (x :: r)[0]? = some x := rfl
    have hne : ((x :: r).length : Int) ≠ 0 := by rw [List.length_cons]; omega
    repeat' ((conv => whnf); first | (((with_reducible show Gd _ _ _); first | with_reducible refine Gd.t ?_ | with_reducible refine Gd.f ?_ | with_reducible refine Gd.dec (fun _ => ?_) (fun _ => ?_) | with_reducible refine Gd.beq (fun _ => ?_) (fun _ => ?_) | with_reducible refine Gd.bne (fun _ => ?_) (fun _ => ?_) | with_reducible refine Gd.not ?_ | refine Gd.t ?_ | refine Gd.f ?_ | with_reducible refine Gd.var (fun _ => ?_) (fun _ => ?_)) <;> first | (exfalso; omega) | skip) | with_reducible refine Sq.mk ?_ | ((with_reducible show Ld1 _ _ _); first | refine Ld1.h H ?_ | refine Ld1.rF ?_ | refine Ld1.r ?_) | ((with_reducible show Ld _ _ _ _); first | refine Ld.h H ?_ | refine Ld.r ?_) | ((with_reducible show Ix _ _ _ _ _); (first | refine Ix.h ?_ | refine Ix.ha ?_)) | (refine Al.hp H ?_; clear H; intro _ _ H _) | (refine St.h H ?_; clear H; intro _ H))
    (conv => whnf)
    refine Sm.cutLo (i := 1) T.ok rfl rfl rfl rfl rfl (by simp) ?_
    repeat' ((conv => whnf); first | (((with_reducible show Gd _ _ _); first | with_reducible refine Gd.t ?_ | with_reducible refine Gd.f ?_ | with_reducible refine Gd.dec (fun _ => ?_) (fun _ => ?_) | with_reducible refine Gd.beq (fun _ => ?_) (fun _ => ?_) | with_reducible refine Gd.bne (fun _ => ?_) (fun _ => ?_) | with_reducible refine Gd.not ?_ | refine Gd.t ?_ | refine Gd.f ?_ | with_reducible refine Gd.var (fun _ => ?_) (fun _ => ?_)) <;> first | (exfalso; omega) | skip) | with_reducible refine Sq.mk ?_ | ((with_reducible show Ld1 _ _ _); first | refine Ld1.h H ?_ | refine Ld1.rF ?_ | refine Ld1.r ?_) | ((with_reducible show Ld _ _ _ _); first | refine Ld.h H ?_ | refine Ld.r ?_) | ((with_reducible show Ix _ _ _ _ _); (first | refine Ix.h ?_ | refine Ix.ha ?_)) | (refine Al.hp H ?_; clear H; intro _ _ H _) | (refine St.h H ?_; clear H; intro _ H))
    have hA2 : RdS ints 1 wb (cutA A c 1 1) r := hA.cut (k := 1) (by rw [List.length_cons]; omega) hc
    have hc2 : r.length ≤ c - 1 := by rw [List.length_cons] at hc; omega
    replace H : Hp (· = pr) w _ [bk pr 103 (rdrV (cutA A c 1 1) (c - 1) r bad)] := H
    exact ⟨rfl, by rw [show (bad || List.isEmpty (x :: r)) = bad by simp]; exact Hp.rr H hA2 hc2⟩
/-- a count: the word, the words left, whether all went well -/
def cntOf (mx : Int) (r : List Int) : Int := if nx r < 1 ∨ mx < nx r then 0 else nx r
def cntBad (mx : Int) (r : List Int) : Bool := r.isEmpty || decide (nx r < 1 ∨ mx < nx r)
theorem count_c (pr : Nat) (mx : Int) (r : List Int) (bad : Bool) (wb w : World) (hwb : Ext wb w) (hlo : wb.heap.size ≤ pr) (hr : Rder wb pr r bad w) :
    Cl Tryd.prog 74 #[.pointer (some ⟨pr, 0, none⟩), .int .i64 mx] w (fun v w' => v = .int .i64 (cntOf mx r) ∧ Hp (· = pr) w w' [rr wb pr r.tail (bad || cntBad mx r)]) (fun _ _ => False) := by
  refine calls_ex (args := [.pointer (some ⟨pr, 0, none⟩), .int .i64 mx]) T.ok Tryd.func74 rfl rfl rfl rfl ?_
  have H := Hp.start (S := (· = pr)) (rr_ok hr) (fun k hk => hk)
  have HB : BaseOk (· = pr) wb w := ⟨hwb, fun k hk => by subst hk; exact hlo⟩
  repeat' ((conv => whnf); first | (((with_reducible show Gd _ _ _); first | with_reducible refine Gd.t ?_ | with_reducible refine Gd.f ?_ | with_reducible refine Gd.dec (fun _ => ?_) (fun _ => ?_) | with_reducible refine Gd.beq (fun _ => ?_) (fun _ => ?_) | with_reducible refine Gd.bne (fun _ => ?_) (fun _ => ?_) | with_reducible refine Gd.not ?_ | refine Gd.t ?_ | refine Gd.f ?_ | with_reducible refine Gd.var (fun _ => ?_) (fun _ => ?_)) <;> first | (exfalso; omega) | skip) | with_reducible refine Sq.mk ?_ | ((with_reducible show Ld1 _ _ _); first | refine Ld1.h H ?_ | refine Ld1.rF ?_ | refine Ld1.r ?_) | ((with_reducible show Ld _ _ _ _); first | refine Ld.h H ?_ | refine Ld.r ?_) | ((with_reducible show Ix _ _ _ _ _); (first | refine Ix.h ?_ | refine Ix.ha ?_)) | (refine Al.hp H ?_; clear H; intro _ _ H _) | (refine St.h H ?_; clear H; intro _ H))
  ((conv => whnf); refine Cl.mk (next_c pr r bad wb _ (H.base2 HB) hlo (H.atC 0 rfl)) ?_)
  rintro _ w2 ⟨rfl, H'⟩
  replace H := H.upd (c := rr wb pr r bad) H' rfl (.inl rfl)
  clear H'
  by_cases hcd : nx r < 1 ∨ mx < nx r
  · obtain ⟨A, c, hA, hc, hb⟩ := H.atC 0 rfl
    replace H : Hp (· = pr) w _ [bk pr 103 (rdrV A c r.tail (bad || r.isEmpty))] := H.upd (c := rr wb pr r.tail (bad || r.isEmpty)) (Hp.start (S := (· = pr)) (bk_ok hb) (fun k hk => hk)) rfl (.inl rfl)
    repeat' ((conv => whnf); first | (((with_reducible show Gd _ _ _); first | with_reducible refine Gd.t ?_ | with_reducible refine Gd.f ?_ | with_reducible refine Gd.dec (fun _ => ?_) (fun _ => ?_) | with_reducible refine Gd.beq (fun _ => ?_) (fun _ => ?_) | with_reducible refine Gd.bne (fun _ => ?_) (fun _ => ?_) | with_reducible refine Gd.not ?_ | refine Gd.t ?_ | refine Gd.f ?_ | with_reducible refine Gd.var (fun _ => ?_) (fun _ => ?_)) <;> first | (exfalso; omega) | skip) | with_reducible refine Sq.mk ?_ | ((with_reducible show Ld1 _ _ _); first | refine Ld1.h H ?_ | refine Ld1.rF ?_ | refine Ld1.r ?_) | ((with_reducible show Ld _ _ _ _); first | refine Ld.h H ?_ | refine Ld.r ?_) | ((with_reducible show Ix _ _ _ _ _); (first | refine Ix.h ?_ | refine Ix.ha ?_)) | (refine Al.hp H ?_; clear H; intro _ _ H _) | (refine St.h H ?_; clear H; intro _ H))
    all_goals (replace H : Hp (· = pr) w _ [bk pr 103 (rdrV A c r.tail true)] := H)
    all_goals exact ⟨by rw [cntOf, if_pos hcd]; rfl, by rw [show (bad || cntBad mx r) = true by simp [cntBad, hcd]]; exact Hp.rr H hA hc⟩
  · repeat' ((conv => whnf); first | (((with_reducible show Gd _ _ _); first | with_reducible refine Gd.t ?_ | with_reducible refine Gd.f ?_ | with_reducible refine Gd.dec (fun _ => ?_) (fun _ => ?_) | with_reducible refine Gd.beq (fun _ => ?_) (fun _ => ?_) | with_reducible refine Gd.bne (fun _ => ?_) (fun _ => ?_) | with_reducible refine Gd.not ?_ | refine Gd.t ?_ | refine Gd.f ?_ | with_reducible refine Gd.var (fun _ => ?_) (fun _ => ?_)) <;> first | (exfalso; omega) | skip) | with_reducible refine Sq.mk ?_ | ((with_reducible show Ld1 _ _ _); first | refine Ld1.h H ?_ | refine Ld1.rF ?_ | refine Ld1.r ?_) | ((with_reducible show Ld _ _ _ _); first | refine Ld.h H ?_ | refine Ld.r ?_) | ((with_reducible show Ix _ _ _ _ _); (first | refine Ix.h ?_ | refine Ix.ha ?_)) | (refine Al.hp H ?_; clear H; intro _ _ H _) | (refine St.h H ?_; clear H; intro _ H))
    exact ⟨by rw [cntOf, if_neg hcd]; rfl, by rw [show (bad || cntBad mx r) = (bad || r.isEmpty) by simp [cntBad, hcd]]; exact H⟩
/-! ### the reader as a plain function -/
abbrev RS := List Int × Bool
def nS (s : RS) : RS := (s.1.tail, s.2 || s.1.isEmpty)
def cS (mx : Int) (s : RS) : RS := (s.1.tail, s.2 || cntBad mx s.1)
def rdI (s : RS) : Ins := ⟨nx s.1, nx (nS s).1, nx (nS (nS s)).1, nx (nS (nS (nS s))).1, nx (nS (nS (nS (nS s)))).1⟩
def n5 (s : RS) : RS := nS (nS (nS (nS (nS s))))
def rdIs (s : RS) : Nat → List Ins × RS
  | 0 => ([], s)
  | n + 1 => ((rdIs s n).1 ++ [rdI (rdIs s n).2], n5 (rdIs s n).2)
def n3 (s : RS) : RS := nS (nS (nS s))
def fnN (s : RS) : Nat := (cntOf 512 (n3 s).1).toNat
def rdF (s : RS) : Fn := ⟨nx s.1, nx (nS s).1, nx (nS (nS s)).1, (rdIs (cS 512 (n3 s)) (fnN s)).1⟩
def nF (s : RS) : RS := (rdIs (cS 512 (n3 s)) (fnN s)).2
theorem cnt_le (mx : Int) (r : List Int) (h : 0 ≤ mx) : 0 ≤ cntOf mx r ∧ cntOf mx r ≤ mx := by
  unfold cntOf
  split <;> omega
theorem rdIs_len (s : RS) : ∀ n, (rdIs s n).1.length = n
  | 0 => rfl
  | n + 1 => by rw [rdIs, List.length_append, rdIs_len s n]; rfl
theorem function_c (pr : Nat) (s : RS) (wb w : World) (hwb : Ext wb w) (hlo : wb.heap.size ≤ pr) (hr : Rder wb pr s.1 s.2 w) :
    Cl Tryd.prog 75 #[.pointer (some ⟨pr, 0, none⟩)] w (fun v w' => ∃ A c, v = (rdF s).v A c ∧ Hp (· = pr) w w' [qu Ins.enc 5 35 A c (rdF s).code, rr wb pr (nF s).1 (nF s).2]) (fun _ _ => False) := by
  have hn := cnt_le 512 (n3 s).1 (by decide)
  have hN : cntOf 512 (n3 s).1 = ((fnN s : Nat) : Int) := by rw [fnN]; omega
  have hN2 : fnN s ≤ 512 := by omega
  refine calls_ex (args := [.pointer (some ⟨pr, 0, none⟩)]) T.ok Tryd.func75 rfl rfl rfl rfl ?_
  have H := Hp.start (S := (· = pr)) (rr_ok hr) (fun k hk => hk)
  have HB : BaseOk (· = pr) wb w := ⟨hwb, fun k hk => by subst hk; exact hlo⟩
  refine Sq.mk ?_
  ((conv => whnf); refine Al.hp H ?_; clear H; intro p2 _ H _)
  repeat' ((conv => whnf); first | (((with_reducible show Gd _ _ _); first | with_reducible refine Gd.t ?_ | with_reducible refine Gd.f ?_ | with_reducible refine Gd.dec (fun _ => ?_) (fun _ => ?_) | with_reducible refine Gd.beq (fun _ => ?_) (fun _ => ?_) | with_reducible refine Gd.bne (fun _ => ?_) (fun _ => ?_) | with_reducible refine Gd.not ?_ | refine Gd.t ?_ | refine Gd.f ?_ | with_reducible refine Gd.var (fun _ => ?_) (fun _ => ?_)) <;> first | (exfalso; omega) | skip) | with_reducible refine Sq.mk ?_ | ((with_reducible show Ld1 _ _ _); first | refine Ld1.h H ?_ | refine Ld1.rF ?_ | refine Ld1.r ?_) | ((with_reducible show Ld _ _ _ _); first | refine Ld.h H ?_ | refine Ld.r ?_) | ((with_reducible show Ix _ _ _ _ _); (first | refine Ix.h ?_ | refine Ix.ha ?_)) | (refine St.h H ?_; clear H; intro _ H))
  ((conv => whnf); refine Al.hp H ?_; clear H; intro p3 _ H _)
  repeat' ((conv => whnf); first | (((with_reducible show Gd _ _ _); first | with_reducible refine Gd.t ?_ | with_reducible refine Gd.f ?_ | with_reducible refine Gd.dec (fun _ => ?_) (fun _ => ?_) | with_reducible refine Gd.beq (fun _ => ?_) (fun _ => ?_) | with_reducible refine Gd.bne (fun _ => ?_) (fun _ => ?_) | with_reducible refine Gd.not ?_ | refine Gd.t ?_ | refine Gd.f ?_ | with_reducible refine Gd.var (fun _ => ?_) (fun _ => ?_)) <;> first | (exfalso; omega) | skip) | with_reducible refine Sq.mk ?_ | ((with_reducible show Ld1 _ _ _); first | refine Ld1.h H ?_ | refine Ld1.rF ?_ | refine Ld1.r ?_) | ((with_reducible show Ld _ _ _ _); first | refine Ld.h H ?_ | refine Ld.r ?_) | ((with_reducible show Ix _ _ _ _ _); (first | refine Ix.h ?_ | refine Ix.ha ?_)) | (refine Al.hp H ?_; clear H; intro _ _ H _) | (refine St.h H ?_; clear H; intro _ H))
  (((conv => whnf); refine Cl.mk (next_c pr s.1 s.2 wb _ (H.base2 HB) hlo (H.atC 2 rfl)) ?_); rintro _ _ ⟨rfl, H'⟩; replace H := H.upd (c := rr wb pr s.1 s.2) H' rfl (.inl rfl); clear H')
  repeat' ((conv => whnf); first | (((with_reducible show Gd _ _ _); first | with_reducible refine Gd.t ?_ | with_reducible refine Gd.f ?_ | with_reducible refine Gd.dec (fun _ => ?_) (fun _ => ?_) | with_reducible refine Gd.beq (fun _ => ?_) (fun _ => ?_) | with_reducible refine Gd.bne (fun _ => ?_) (fun _ => ?_) | with_reducible refine Gd.not ?_ | refine Gd.t ?_ | refine Gd.f ?_ | with_reducible refine Gd.var (fun _ => ?_) (fun _ => ?_)) <;> first | (exfalso; omega) | skip) | with_reducible refine Sq.mk ?_ | ((with_reducible show Ld1 _ _ _); first | refine Ld1.h H ?_ | refine Ld1.rF ?_ | refine Ld1.r ?_) | ((with_reducible show Ld _ _ _ _); first | refine Ld.h H ?_ | refine Ld.r ?_) | ((with_reducible show Ix _ _ _ _ _); (first | refine Ix.h ?_ | refine Ix.ha ?_)) | (refine Al.hp H ?_; clear H; intro _ _ H _) | (refine St.h H ?_; clear H; intro _ H))
  (((conv => whnf); refine Cl.mk (next_c pr (nS s).1 (nS s).2 wb _ (H.base2 HB) hlo (H.atC 2 rfl)) ?_); rintro _ _ ⟨rfl, H'⟩; replace H := H.upd (c := rr wb pr (nS s).1 (nS s).2) H' rfl (.inl rfl); clear H')
  repeat' ((conv => whnf); first | (((with_reducible show Gd _ _ _); first | with_reducible refine Gd.t ?_ | with_reducible refine Gd.f ?_ | with_reducible refine Gd.dec (fun _ => ?_) (fun _ => ?_) | with_reducible refine Gd.beq (fun _ => ?_) (fun _ => ?_) | with_reducible refine Gd.bne (fun _ => ?_) (fun _ => ?_) | with_reducible refine Gd.not ?_ | refine Gd.t ?_ | refine Gd.f ?_ | with_reducible refine Gd.var (fun _ => ?_) (fun _ => ?_)) <;> first | (exfalso; omega) | skip) | with_reducible refine Sq.mk ?_ | ((with_reducible show Ld1 _ _ _); first | refine Ld1.h H ?_ | refine Ld1.rF ?_ | refine Ld1.r ?_) | ((with_reducible show Ld _ _ _ _); first | refine Ld.h H ?_ | refine Ld.r ?_) | ((with_reducible show Ix _ _ _ _ _); (first | refine Ix.h ?_ | refine Ix.ha ?_)) | (refine Al.hp H ?_; clear H; intro _ _ H _) | (refine St.h H ?_; clear H; intro _ H))
  (((conv => whnf); refine Cl.mk (next_c pr (nS (nS s)).1 (nS (nS s)).2 wb _ (H.base2 HB) hlo (H.atC 2 rfl)) ?_); rintro _ _ ⟨rfl, H'⟩; replace H := H.upd (c := rr wb pr (nS (nS s)).1 (nS (nS s)).2) H' rfl (.inl rfl); clear H')
  repeat' ((conv => whnf); first | (((with_reducible show Gd _ _ _); first | with_reducible refine Gd.t ?_ | with_reducible refine Gd.f ?_ | with_reducible refine Gd.dec (fun _ => ?_) (fun _ => ?_) | with_reducible refine Gd.beq (fun _ => ?_) (fun _ => ?_) | with_reducible refine Gd.bne (fun _ => ?_) (fun _ => ?_) | with_reducible refine Gd.not ?_ | refine Gd.t ?_ | refine Gd.f ?_ | with_reducible refine Gd.var (fun _ => ?_) (fun _ => ?_)) <;> first | (exfalso; omega) | skip) | with_reducible refine Sq.mk ?_ | ((with_reducible show Ld1 _ _ _); first | refine Ld1.h H ?_ | refine Ld1.rF ?_ | refine Ld1.r ?_) | ((with_reducible show Ld _ _ _ _); first | refine Ld.h H ?_ | refine Ld.r ?_) | ((with_reducible show Ix _ _ _ _ _); (first | refine Ix.h ?_ | refine Ix.ha ?_)) | (refine Al.hp H ?_; clear H; intro _ _ H _) | (refine St.h H ?_; clear H; intro _ H))
  ((conv => whnf); refine Cl.mk (count_c pr 512 (n3 s).1 (n3 s).2 wb _ (H.base2 HB) hlo (H.atC 2 rfl)) ?_)
  rintro _ _ ⟨rfl, H'⟩
  replace H := H.upd (c := rr wb pr (n3 s).1 (n3 s).2) H' rfl (.inl rfl)
  clear H'
  replace H := H.nil Ins.enc 5 35
  rw [hN]
  generalize hs4 : cS 512 (n3 s) = s4
  have hs41 : ((n3 s).1.tail, (n3 s).2 || cntBad 512 (n3 s).1) = s4 := hs4
  repeat' ((conv => whnf); first | (((with_reducible show Gd _ _ _); first | with_reducible refine Gd.t ?_ | with_reducible refine Gd.f ?_ | with_reducible refine Gd.dec (fun _ => ?_) (fun _ => ?_) | with_reducible refine Gd.beq (fun _ => ?_) (fun _ => ?_) | with_reducible refine Gd.bne (fun _ => ?_) (fun _ => ?_) | with_reducible refine Gd.not ?_ | refine Gd.t ?_ | refine Gd.f ?_ | with_reducible refine Gd.var (fun _ => ?_) (fun _ => ?_)) <;> first | (exfalso; omega) | skip) | with_reducible refine Sq.mk ?_ | ((with_reducible show Ld1 _ _ _); first | refine Ld1.h H ?_ | refine Ld1.rF ?_ | refine Ld1.r ?_) | ((with_reducible show Ld _ _ _ _); first | refine Ld.h H ?_ | refine Ld.r ?_) | ((with_reducible show Ix _ _ _ _ _); (first | refine Ix.h ?_ | refine Ix.ha ?_)) | (refine Al.hp H ?_; clear H; intro _ _ H _) | (refine St.h H ?_; clear H; intro _ H))
  refine Lp.g0 T.ok (σ := Nat × Option Addr × Nat) (fun q => [(16, .int .i64 (q.1 : Int)), (15, .int .i64 (fnN s : Int)), (0, .pointer (some ⟨pr, 0, none⟩)), (3, .pointer (some ⟨p3, 0, none⟩)), (2, .pointer (some ⟨p2, 0, none⟩))])
    (fun q w' => q.1 ≤ fnN s ∧ Hp (· = pr) w w' [qu Ins.enc 5 35 q.2.1 q.2.2 (rdIs s4 q.1).1, bk p3 24 [.int .i64 (nx s.1), .int .i64 (nx (nS s).1), .int .i64 (nx (nS (nS s)).1), .slice q.2.1 (rdIs s4 q.1).1.length q.2.2], bk p2 24 T.t24.zero.cells.toList, rr wb pr (rdIs s4 q.1).2.1 (rdIs s4 q.1).2.2]) (fun q _ => fnN s - q.1) (0, none, 0) rfl ⟨rfl, rfl, rfl, rfl, rfl, trivial⟩ ⟨Nat.zero_le _, by rw [← hs41]; exact H⟩ ?_
  clear H
  rintro ⟨i, D, dc⟩ w5 ⟨hi, H⟩
  simp only at hi H ⊢
  have hil := rdIs_len s4 i
  by_cases hlt : i < fnN s
  · have hq : rdIs s4 (i + 1) = ((rdIs s4 i).1 ++ [rdI (rdIs s4 i).2], n5 (rdIs s4 i).2) := rfl
    generalize (rdIs s4 i).2 = t at *
    generalize (rdIs s4 i).1 = l at *
    repeat' ((conv => whnf); first | (((with_reducible show Gd _ _ _); first | with_reducible refine Gd.t ?_ | with_reducible refine Gd.f ?_ | with_reducible refine Gd.dec (fun _ => ?_) (fun _ => ?_) | with_reducible refine Gd.beq (fun _ => ?_) (fun _ => ?_) | with_reducible refine Gd.bne (fun _ => ?_) (fun _ => ?_) | with_reducible refine Gd.not ?_ | refine Gd.t ?_ | refine Gd.f ?_ | with_reducible refine Gd.var (fun _ => ?_) (fun _ => ?_)) <;> first | (exfalso; omega) | skip) | with_reducible refine Sq.mk ?_ | ((with_reducible show Ld1 _ _ _); first | refine Ld1.h H ?_ | refine Ld1.rF ?_ | refine Ld1.r ?_) | ((with_reducible show Ld _ _ _ _); first | refine Ld.h H ?_ | refine Ld.r ?_) | ((with_reducible show Ix _ _ _ _ _); (first | refine Ix.h ?_ | refine Ix.ha ?_)) | (refine St.h H ?_; clear H; intro _ H))
    ((conv => whnf); refine Al.hp H ?_; clear H; intro p4 _ H _)
    repeat' ((conv => whnf); first | (((with_reducible show Gd _ _ _); first | with_reducible refine Gd.t ?_ | with_reducible refine Gd.f ?_ | with_reducible refine Gd.dec (fun _ => ?_) (fun _ => ?_) | with_reducible refine Gd.beq (fun _ => ?_) (fun _ => ?_) | with_reducible refine Gd.bne (fun _ => ?_) (fun _ => ?_) | with_reducible refine Gd.not ?_ | refine Gd.t ?_ | refine Gd.f ?_ | with_reducible refine Gd.var (fun _ => ?_) (fun _ => ?_)) <;> first | (exfalso; omega) | skip) | with_reducible refine Sq.mk ?_ | ((with_reducible show Ld1 _ _ _); first | refine Ld1.h H ?_ | refine Ld1.rF ?_ | refine Ld1.r ?_) | ((with_reducible show Ld _ _ _ _); first | refine Ld.h H ?_ | refine Ld.r ?_) | ((with_reducible show Ix _ _ _ _ _); (first | refine Ix.h ?_ | refine Ix.ha ?_)) | (refine Al.hp H ?_; clear H; intro _ _ H _) | (refine St.h H ?_; clear H; intro _ H))
    (((conv => whnf); refine Cl.mk (next_c pr t.1 t.2 wb _ (H.base2 HB) hlo (H.atC 4 rfl)) ?_); rintro _ _ ⟨rfl, H'⟩; replace H := H.upd (c := rr wb pr t.1 t.2) H' rfl (.inl rfl); clear H')
    repeat' ((conv => whnf); first | (((with_reducible show Gd _ _ _); first | with_reducible refine Gd.t ?_ | with_reducible refine Gd.f ?_ | with_reducible refine Gd.dec (fun _ => ?_) (fun _ => ?_) | with_reducible refine Gd.beq (fun _ => ?_) (fun _ => ?_) | with_reducible refine Gd.bne (fun _ => ?_) (fun _ => ?_) | with_reducible refine Gd.not ?_ | refine Gd.t ?_ | refine Gd.f ?_ | with_reducible refine Gd.var (fun _ => ?_) (fun _ => ?_)) <;> first | (exfalso; omega) | skip) | with_reducible refine Sq.mk ?_ | ((with_reducible show Ld1 _ _ _); first | refine Ld1.h H ?_ | refine Ld1.rF ?_ | refine Ld1.r ?_) | ((with_reducible show Ld _ _ _ _); first | refine Ld.h H ?_ | refine Ld.r ?_) | ((with_reducible show Ix _ _ _ _ _); (first | refine Ix.h ?_ | refine Ix.ha ?_)) | (refine Al.hp H ?_; clear H; intro _ _ H _) | (refine St.h H ?_; clear H; intro _ H))
    (((conv => whnf); refine Cl.mk (next_c pr (nS t).1 (nS t).2 wb _ (H.base2 HB) hlo (H.atC 4 rfl)) ?_); rintro _ _ ⟨rfl, H'⟩; replace H := H.upd (c := rr wb pr (nS t).1 (nS t).2) H' rfl (.inl rfl); clear H')
    repeat' ((conv => whnf); first | (((with_reducible show Gd _ _ _); first | with_reducible refine Gd.t ?_ | with_reducible refine Gd.f ?_ | with_reducible refine Gd.dec (fun _ => ?_) (fun _ => ?_) | with_reducible refine Gd.beq (fun _ => ?_) (fun _ => ?_) | with_reducible refine Gd.bne (fun _ => ?_) (fun _ => ?_) | with_reducible refine Gd.not ?_ | refine Gd.t ?_ | refine Gd.f ?_ | with_reducible refine Gd.var (fun _ => ?_) (fun _ => ?_)) <;> first | (exfalso; omega) | skip) | with_reducible refine Sq.mk ?_ | ((with_reducible show Ld1 _ _ _); first | refine Ld1.h H ?_ | refine Ld1.rF ?_ | refine Ld1.r ?_) | ((with_reducible show Ld _ _ _ _); first | refine Ld.h H ?_ | refine Ld.r ?_) | ((with_reducible show Ix _ _ _ _ _); (first | refine Ix.h ?_ | refine Ix.ha ?_)) | (refine Al.hp H ?_; clear H; intro _ _ H _) | (refine St.h H ?_; clear H; intro _ H))
    (((conv => whnf); refine Cl.mk (next_c pr (nS (nS t)).1 (nS (nS t)).2 wb _ (H.base2 HB) hlo (H.atC 4 rfl)) ?_); rintro _ _ ⟨rfl, H'⟩; replace H := H.upd (c := rr wb pr (nS (nS t)).1 (nS (nS t)).2) H' rfl (.inl rfl); clear H')
    repeat' ((conv => whnf); first | (((with_reducible show Gd _ _ _); first | with_reducible refine Gd.t ?_ | with_reducible refine Gd.f ?_ | with_reducible refine Gd.dec (fun _ => ?_) (fun _ => ?_) | with_reducible refine Gd.beq (fun _ => ?_) (fun _ => ?_) | with_reducible refine Gd.bne (fun _ => ?_) (fun _ => ?_) | with_reducible refine Gd.not ?_ | refine Gd.t ?_ | refine Gd.f ?_ | with_reducible refine Gd.var (fun _ => ?_) (fun _ => ?_)) <;> first | (exfalso; omega) | skip) | with_reducible refine Sq.mk ?_ | ((with_reducible show Ld1 _ _ _); first | refine Ld1.h H ?_ | refine Ld1.rF ?_ | refine Ld1.r ?_) | ((with_reducible show Ld _ _ _ _); first | refine Ld.h H ?_ | refine Ld.r ?_) | ((with_reducible show Ix _ _ _ _ _); (first | refine Ix.h ?_ | refine Ix.ha ?_)) | (refine Al.hp H ?_; clear H; intro _ _ H _) | (refine St.h H ?_; clear H; intro _ H))
    (((conv => whnf); refine Cl.mk (next_c pr (nS (nS (nS t))).1 (nS (nS (nS t))).2 wb _ (H.base2 HB) hlo (H.atC 4 rfl)) ?_); rintro _ _ ⟨rfl, H'⟩; replace H := H.upd (c := rr wb pr (nS (nS (nS t))).1 (nS (nS (nS t))).2) H' rfl (.inl rfl); clear H')
    repeat' ((conv => whnf); first | (((with_reducible show Gd _ _ _); first | with_reducible refine Gd.t ?_ | with_reducible refine Gd.f ?_ | with_reducible refine Gd.dec (fun _ => ?_) (fun _ => ?_) | with_reducible refine Gd.beq (fun _ => ?_) (fun _ => ?_) | with_reducible refine Gd.bne (fun _ => ?_) (fun _ => ?_) | with_reducible refine Gd.not ?_ | refine Gd.t ?_ | refine Gd.f ?_ | with_reducible refine Gd.var (fun _ => ?_) (fun _ => ?_)) <;> first | (exfalso; omega) | skip) | with_reducible refine Sq.mk ?_ | ((with_reducible show Ld1 _ _ _); first | refine Ld1.h H ?_ | refine Ld1.rF ?_ | refine Ld1.r ?_) | ((with_reducible show Ld _ _ _ _); first | refine Ld.h H ?_ | refine Ld.r ?_) | ((with_reducible show Ix _ _ _ _ _); (first | refine Ix.h ?_ | refine Ix.ha ?_)) | (refine Al.hp H ?_; clear H; intro _ _ H _) | (refine St.h H ?_; clear H; intro _ H))
    (((conv => whnf); refine Cl.mk (next_c pr (nS (nS (nS (nS t)))).1 (nS (nS (nS (nS t)))).2 wb _ (H.base2 HB) hlo (H.atC 4 rfl)) ?_); rintro _ _ ⟨rfl, H'⟩; replace H := H.upd (c := rr wb pr (nS (nS (nS (nS t)))).1 (nS (nS (nS (nS t)))).2) H' rfl (.inl rfl); clear H')
    repeat' ((conv => whnf); first | (((with_reducible show Gd _ _ _); first | with_reducible refine Gd.t ?_ | with_reducible refine Gd.f ?_ | with_reducible refine Gd.dec (fun _ => ?_) (fun _ => ?_) | with_reducible refine Gd.beq (fun _ => ?_) (fun _ => ?_) | with_reducible refine Gd.bne (fun _ => ?_) (fun _ => ?_) | with_reducible refine Gd.not ?_ | refine Gd.t ?_ | refine Gd.f ?_ | with_reducible refine Gd.var (fun _ => ?_) (fun _ => ?_)) <;> first | (exfalso; omega) | skip) | with_reducible refine Sq.mk ?_ | ((with_reducible show Ld1 _ _ _); first | refine Ld1.h H ?_ | refine Ld1.rF ?_ | refine Ld1.r ?_) | ((with_reducible show Ld _ _ _ _); first | refine Ld.h H ?_ | refine Ld.r ?_) | ((with_reducible show Ix _ _ _ _ _); (first | refine Ix.h ?_ | refine Ix.ha ?_)) | (refine Al.hp H ?_; clear H; intro _ _ H _) | (refine St.h H ?_; clear H; intro _ H))
    refine Sm.lith (cs := (rdI t).enc) H T.ok (fun p5 w2 H _ => ?_)
    refine Sm.ap1 (enc := Ins.enc) (rdI t) H T.ok ?_ ?_ (fun D' dc' w3 H => ?_)
    · show (l.length + 1) * 40 ≤ _; omega
    · omega
    simp only [List.cons_append, List.nil_append] at H
    repeat' ((conv => whnf); first | (((with_reducible show Gd _ _ _); first | with_reducible refine Gd.t ?_ | with_reducible refine Gd.f ?_ | with_reducible refine Gd.dec (fun _ => ?_) (fun _ => ?_) | with_reducible refine Gd.beq (fun _ => ?_) (fun _ => ?_) | with_reducible refine Gd.bne (fun _ => ?_) (fun _ => ?_) | with_reducible refine Gd.not ?_ | refine Gd.t ?_ | refine Gd.f ?_ | with_reducible refine Gd.var (fun _ => ?_) (fun _ => ?_)) <;> first | (exfalso; omega) | skip) | with_reducible refine Sq.mk ?_ | ((with_reducible show Ld1 _ _ _); first | refine Ld1.h H ?_ | refine Ld1.rF ?_ | refine Ld1.r ?_) | ((with_reducible show Ld _ _ _ _); first | refine Ld.h H ?_ | refine Ld.r ?_) | ((with_reducible show Ix _ _ _ _ _); (first | refine Ix.h ?_ | refine Ix.ha ?_)) | (refine Al.hp H ?_; clear H; intro _ _ H _) | (refine St.h H ?_; clear H; intro _ H))
    refine ⟨(i + 1, D', dc'), ⟨at_int (m := ((i + 1 : Nat) : Int)) rfl (w64 (by simp) (by omega) (by omega)), rfl, rfl, rfl, rfl, trivial⟩, rfl, ⟨by simp only; omega, ?_⟩, by simp only; omega⟩
    simp only [hq, List.length_append, List.length_cons, List.length_nil]
    exact H.sel [1, 1, 1, 1] rfl
  · have hi : i = fnN s := by omega
    subst hi
    repeat' ((conv => whnf); first | (((with_reducible show Gd _ _ _); first | with_reducible refine Gd.t ?_ | with_reducible refine Gd.f ?_ | with_reducible refine Gd.dec (fun _ => ?_) (fun _ => ?_) | with_reducible refine Gd.beq (fun _ => ?_) (fun _ => ?_) | with_reducible refine Gd.bne (fun _ => ?_) (fun _ => ?_) | with_reducible refine Gd.not ?_ | refine Gd.t ?_ | refine Gd.f ?_ | with_reducible refine Gd.var (fun _ => ?_) (fun _ => ?_)) <;> first | (exfalso; omega) | skip) | with_reducible refine Sq.mk ?_ | ((with_reducible show Ld1 _ _ _); first | refine Ld1.h H ?_ | refine Ld1.rF ?_ | refine Ld1.r ?_) | ((with_reducible show Ld _ _ _ _); first | refine Ld.h H ?_ | refine Ld.r ?_) | ((with_reducible show Ix _ _ _ _ _); (first | refine Ix.h ?_ | refine Ix.ha ?_)) | (refine Al.hp H ?_; clear H; intro _ _ H _) | (refine St.h H ?_; clear H; intro _ H))
    exact ⟨D, dc, by rw [rdF, hs4]; rfl, by rw [rdF, nF, hs4]; exact H.sel [0, 2] rfl⟩
end Go.Proofs.YtbbadmlekagloaaDoor
namespace Go.Proofs.YtbbadmlekagloaaDoor
open Go Go.Sh
set_option linter.unusedVariables false
set_option linter.unusedSimpArgs false
attribute [local irreducible] Blk Ext RdS
def rdFs (s : RS) : Nat → List Fn × RS
  | 0 => ([], s)
  | n + 1 => ((rdFs s n).1 ++ [rdF (rdFs s n).2], nF (rdFs s n).2)
theorem rdFs_len (s : RS) : ∀ n, (rdFs s n).1.length = n
  | 0 => rfl
  | n + 1 => by rw [rdFs, List.length_append, rdFs_len s n]; rfl
/-! ### from the words of a program -/
theorem rdI_app (y : Ins) (r : List Int) (b : Bool) : rdI (insW y ++ r, b) = y ∧ n5 (insW y ++ r, b) = (r, b) := by
  constructor
  · rfl
  · simp [n5, nS, insW]
theorem rdIs_app (code : List Ins) (r : List Int) (b : Bool) : ∀ n, n ≤ code.length → rdIs (code.flatMap insW ++ r, b) n = (code.take n, ((code.drop n).flatMap insW ++ r, b))
  | 0, _ => by simp [rdIs]
  | n + 1, h => by
    have ih := rdIs_app code r b n (by omega)
    have hd : code.drop n = code[n]'(by omega) :: code.drop (n + 1) := List.drop_eq_getElem_cons (by omega)
    rw [hd, List.flatMap_cons, List.append_assoc] at ih
    rw [rdIs, ih]
    obtain ⟨h1, h2⟩ := rdI_app (code[n]'(by omega)) ((code.drop (n + 1)).flatMap insW ++ r) b
    simp only [h1, h2]
    rw [List.take_succ_eq_append_getElem (by omega)]
theorem cnt_in {mx x : Int} {r : List Int} (h1 : 1 ≤ x) (h2 : x ≤ mx) : cntOf mx (x :: r) = x ∧ cntBad mx (x :: r) = false := by
  have hn : ¬ (nx (x :: r) < 1 ∨ mx < nx (x :: r)) := by show ¬ (x < 1 ∨ mx < x); omega
  constructor
  · rw [cntOf, if_neg hn]; rfl
  · simp only [cntBad, decide_eq_false hn]; rfl
theorem rdF_app (f : Fn) (r : List Int) (b : Bool) (h1 : 1 ≤ f.code.length) (h2 : f.code.length ≤ 512) : rdF (imgF f ++ r, b) = f ∧ nF (imgF f ++ r, b) = (r, b) := by
  have e3 : n3 (imgF f ++ r, b) = ((f.code.length : Int) :: (f.code.flatMap insW ++ r), b) := by simp [n3, nS, imgF, funH]
  obtain ⟨c1, c2⟩ := cnt_in (mx := 512) (x := (f.code.length : Int)) (r := f.code.flatMap insW ++ r) (by omega) (by omega)
  have hN : fnN (imgF f ++ r, b) = f.code.length := by
    rw [fnN, e3]
    show (cntOf 512 ((f.code.length : Int) :: (f.code.flatMap insW ++ r))).toNat = _
    rw [c1]; simp
  have hc : cS 512 (n3 (imgF f ++ r, b)) = (f.code.flatMap insW ++ r, b) := by
    rw [e3]
    show ((f.code.flatMap insW ++ r), b || cntBad 512 ((f.code.length : Int) :: (f.code.flatMap insW ++ r))) = _
    rw [c2]; simp
  have hi := rdIs_app f.code r b f.code.length (Nat.le_refl _)
  rw [List.take_length, List.drop_length] at hi
  constructor
  · rw [rdF, hN, hc, hi]
    rfl
  · rw [nF, hN, hc, hi]
    rfl
theorem rdFs_app (fs : List Fn) (r : List Int) (b : Bool) (h : ∀ f ∈ fs, 1 ≤ f.code.length ∧ f.code.length ≤ 512) : ∀ n, n ≤ fs.length → rdFs (fs.flatMap imgF ++ r, b) n = (fs.take n, ((fs.drop n).flatMap imgF ++ r, b))
  | 0, _ => by simp [rdFs]
  | n + 1, hn => by
    have ih := rdFs_app fs r b h n (by omega)
    have hd : fs.drop n = fs[n]'(by omega) :: fs.drop (n + 1) := List.drop_eq_getElem_cons (by omega)
    rw [hd, List.flatMap_cons, List.append_assoc] at ih
    rw [rdFs, ih]
    have hf := h _ (List.getElem_mem (show n < fs.length by omega))
    obtain ⟨h1, h2⟩ := rdF_app (fs[n]'(by omega)) ((fs.drop (n + 1)).flatMap imgF ++ r) b hf.1 hf.2
    simp only [h1, h2]
    rw [List.take_succ_eq_append_getElem (by omega)]
/-! ### back to the words -/
theorem nS_back {s : RS} (h : (nS s).2 = false) : s.2 = false ∧ s.1 = nx s.1 :: (nS s).1 := by
  obtain ⟨r, b⟩ := s
  simp only [nS, Bool.or_eq_false_iff] at h
  obtain ⟨h1, h2⟩ := h
  cases r with
  | nil => simp at h2
  | cons x r => exact ⟨h1, rfl⟩
theorem rdI_back {s : RS} (h : (n5 s).2 = false) : s.2 = false ∧ s.1 = insW (rdI s) ++ (n5 s).1 := by
  obtain ⟨a5, b5⟩ := nS_back (s := nS (nS (nS (nS s)))) h
  obtain ⟨a4, b4⟩ := nS_back (s := nS (nS (nS s))) a5
  obtain ⟨a3, b3⟩ := nS_back (s := nS (nS s)) a4
  obtain ⟨a2, b2⟩ := nS_back (s := nS s) a3
  obtain ⟨a1, b1⟩ := nS_back a2
  refine ⟨a1, ?_⟩
  show s.1 = nx s.1 :: nx (nS s).1 :: nx (nS (nS s)).1 :: nx (nS (nS (nS s))).1 :: nx (nS (nS (nS (nS s)))).1 :: (n5 s).1
  rw [← (show (nS (nS (nS (nS s)))).1 = nx (nS (nS (nS (nS s)))).1 :: (n5 s).1 from b5), ← b4, ← b3, ← b2]
  exact b1
theorem rdIs_back (s : RS) : ∀ n, (rdIs s n).2.2 = false → s.2 = false ∧ s.1 = (rdIs s n).1.flatMap insW ++ (rdIs s n).2.1
  | 0, h => ⟨h, rfl⟩
  | n + 1, h => by
    obtain ⟨h1, h2⟩ := rdI_back (s := (rdIs s n).2) h
    obtain ⟨h3, h4⟩ := rdIs_back s n h1
    refine ⟨h3, ?_⟩
    rw [h4, h2]
    simp [rdIs]
theorem cnt_back {mx : Int} {s : RS} (h : (cS mx s).2 = false) : s.2 = false ∧ 1 ≤ nx s.1 ∧ nx s.1 ≤ mx ∧ cntOf mx s.1 = nx s.1 ∧ s.1 = nx s.1 :: (cS mx s).1 := by
  obtain ⟨r, b⟩ := s
  simp only [cS, cntBad, Bool.or_eq_false_iff, decide_eq_false_iff_not] at h
  obtain ⟨h1, h2, h3⟩ := h
  cases r with
  | nil => simp at h2
  | cons x r => exact ⟨h1, by show 1 ≤ nx (x :: r); omega, by show nx (x :: r) ≤ mx; omega, by rw [cntOf, if_neg h3], rfl⟩
theorem rdF_back {s : RS} (h : (nF s).2 = false) : s.2 = false ∧ s.1 = imgF (rdF s) ++ (nF s).1 := by
  obtain ⟨h1, h2⟩ := rdIs_back (cS 512 (n3 s)) (fnN s) h
  obtain ⟨a4, c1, c2, c3, c4⟩ := cnt_back h1
  obtain ⟨a3, b3⟩ := nS_back (s := nS (nS s)) a4
  obtain ⟨a2, b2⟩ := nS_back (s := nS s) a3
  obtain ⟨a1, b1⟩ := nS_back a2
  have hN : ((fnN s : Nat) : Int) = nx (n3 s).1 := by rw [fnN, c3]; omega
  have hl := rdIs_len (cS 512 (n3 s)) (fnN s)
  refine ⟨a1, ?_⟩
  have e : imgF (rdF s) ++ (nF s).1 = nx s.1 :: nx (nS s).1 :: nx (nS (nS s)).1 :: ((rdIs (cS 512 (n3 s)) (fnN s)).1.length : Int) :: ((rdIs (cS 512 (n3 s)) (fnN s)).1.flatMap insW ++ (rdIs (cS 512 (n3 s)) (fnN s)).2.1) := by
    simp [imgF, funH, rdF, nF]
  rw [e, hl, hN, ← h2, ← c4, show (n3 s).1 = (nS (nS (nS s))).1 from rfl, ← b3, ← b2]
  exact b1
theorem rdFs_back (s : RS) : ∀ n, (rdFs s n).2.2 = false → s.2 = false ∧ s.1 = (rdFs s n).1.flatMap imgF ++ (rdFs s n).2.1
  | 0, h => ⟨h, rfl⟩
  | n + 1, h => by
    obtain ⟨h1, h2⟩ := rdF_back (s := (rdFs s n).2) h
    obtain ⟨h3, h4⟩ := rdFs_back s n h1
    refine ⟨h3, ?_⟩
    rw [h4, h2]
    simp [rdFs]
/-! ### Decode, plain -/
def dcN (m : List Int) : Nat := (cntOf 32 m.tail).toNat
def dcQ (m : List Int) : List Fn × RS := rdFs (cS 32 (m.tail, false)) (dcN m)
/-- of words m and their sum s: the fault, the functions -/
noncomputable def decL (m : List Int) (s : Int) : Int × List Fn :=
  if sumL m ≠ s then (58, []) else if nx m ≠ 1886156142 then (57, []) else if (dcQ m).2.2 = true ∨ (dcQ m).2.1 ≠ [] then (57, []) else if (checkL (dcQ m).1).1 ≠ 0 then ((checkL (dcQ m).1).1, []) else (0, (dcQ m).1)
theorem dec_img {fs : List Fn} (hV : Valid fs) : decL (imgP fs) (sumL (imgP fs)) = (0, fs) := by
  have h1 : ∀ f ∈ fs, 1 ≤ f.code.length ∧ f.code.length ≤ 512 := fun f hf => shaped_len (hV.shaped f hf)
  have hl := hV.len
  obtain ⟨c1, c2⟩ := cnt_in (mx := 32) (x := (fs.length : Int)) (r := fs.flatMap imgF) (by omega) (by omega)
  have ht : (imgP fs).tail = (fs.length : Int) :: fs.flatMap imgF := rfl
  have hN : dcN (imgP fs) = fs.length := by rw [dcN, ht, c1]; simp
  have hs : cS 32 ((imgP fs).tail, false) = (fs.flatMap imgF ++ [], false) := by
    rw [ht]
    show (fs.flatMap imgF, false || cntBad 32 ((fs.length : Int) :: fs.flatMap imgF)) = _
    rw [c2]; simp
  have hq : dcQ (imgP fs) = (fs, ([], false)) := by
    rw [dcQ, hN, hs, rdFs_app fs [] false h1 fs.length (Nat.le_refl _)]
    simp
  have hz := check_ok.2 hV
  unfold decL
  rw [if_neg (by simp), if_neg (by simp [imgP, nx]), hq, if_neg (by simp), if_neg (by simpa using hz)]
theorem img_dec {m : List Int} {s : Int} {fs : List Fn} (h : decL m s = (0, fs)) (hm : m ≠ []) : Valid fs ∧ m ++ [s] = imgS fs := by
  unfold decL at h
  split at h; · simp at h
  rename_i hs
  split at h; · simp at h
  rename_i h0
  split at h; · simp at h
  rename_i hb
  split at h
  · rename_i hz
    simp only [Prod.mk.injEq] at h
    exact absurd h.1 hz
  rename_i hz
  simp only [Prod.mk.injEq, true_and] at h
  have hz := Classical.not_not.1 hz
  rw [h] at hz
  have hV := check_ok.1 hz
  have hb := not_or.1 hb
  have hb2 := Classical.not_not.1 hb.2
  have hb1 : (dcQ m).2.2 = false := by simpa using hb.1
  obtain ⟨h1, h2⟩ := rdFs_back _ _ hb1
  obtain ⟨a, c1, c2, c3, c4⟩ := cnt_back h1
  have hlen := rdFs_len (cS 32 (m.tail, false)) (dcN m)
  have hfl : fs.length = dcN m := by rw [← h]; exact hlen
  have hn : ((dcN m : Nat) : Int) = nx m.tail := by
    have := c3
    rw [dcN]
    show ((cntOf 32 m.tail).toNat : Int) = _
    rw [show cntOf 32 m.tail = nx m.tail from c3]
    simp only at c1
    omega
  obtain ⟨x, r, rfl⟩ := List.exists_cons_of_ne_nil hm
  have h0 := Classical.not_not.1 h0
  have hs := Classical.not_not.1 hs
  have e1 : (cS 32 ((x :: r).tail, false)).1 = fs.flatMap imgF := by
    rw [h2, show (rdFs (cS 32 ((x :: r).tail, false)) (dcN (x :: r))).2.1 = [] from hb2, show (rdFs (cS 32 ((x :: r).tail, false)) (dcN (x :: r))).1 = fs from h]
    simp
  have e2 : r = (fs.length : Int) :: fs.flatMap imgF := by
    have : r = nx r :: (cS 32 ((x :: r).tail, false)).1 := c4
    rw [e1] at this
    rw [hfl, hn]
    exact this
  have e3 : x :: r = imgP fs := by
    rw [show x = 1886156142 from h0, e2]; rfl
  exact ⟨hV, by rw [imgS, ← e3, hs]⟩
end Go.Proofs.YtbbadmlekagloaaDoor
namespace Go.Proofs.YtbbadmlekagloaaDoor
open Go Go.Sh
set_option linter.unusedVariables false
set_option linter.unusedSimpArgs false
attribute [local irreducible] Blk Ext RdS
theorem rdFs_mono {s : RS} {i : Nat} (h : (rdFs s i).2.2 = true) : ∀ j, (rdFs s (i + j)).2.2 = true
  | 0 => h
  | j + 1 => by
    have ih := rdFs_mono h j
    cases hb : (rdFs s (i + (j + 1))).2.2 with
    | true => rfl
    | false =>
      have h1 : (nF (rdFs s (i + j)).2).2 = false := hb
      have := (rdF_back h1).1
      rw [ih] at this; simp at this
theorem rdFs_bad {s : RS} {i n : Nat} (h : (rdFs s i).2.2 = true) (hn : i ≤ n) : (rdFs s n).2.2 = true := by
  have := rdFs_mono h (n - i)
  rwa [show i + (n - i) = n by omega] at this
/-- the words of a function that stands there -/
structure FnAtW (r : List Int) (a b c n : Int) (t : List Int) : Prop where
  eq : r = a :: b :: c :: n :: t
  lo : 1 ≤ n
  hi : n ≤ 512
theorem FnAtW.n3 {r t : List Int} {a b c n : Int} (h : FnAtW r a b c n t) : n3 (r, false) = (n :: t, false) := by rw [h.eq]; rfl
theorem FnAtW.cnt {r t : List Int} {a b c n : Int} (h : FnAtW r a b c n t) : fnN (r, false) = n.toNat ∧ cS 512 (Go.Proofs.YtbbadmlekagloaaDoor.n3 (r, false)) = (t, false) := by
  obtain ⟨c1, c2⟩ := cnt_in (mx := 512) (x := n) (r := t) h.lo h.hi
  constructor
  · rw [fnN, h.n3]
    show (cntOf 512 (n :: t)).toNat = _
    rw [c1]
  · rw [h.n3]
    show (t, false || cntBad 512 (n :: t)) = _
    rw [c2]; rfl
theorem rdIs_ok (t : List Int) : ∀ k, 5 * k ≤ t.length → (rdIs (t, false) k).2 = (t.drop (5 * k), false)
  | 0, _ => rfl
  | k + 1, h => by
    have ih := rdIs_ok t k (by omega)
    obtain ⟨x1, x2, x3, x4, x5, t', ht⟩ : ∃ x1 x2 x3 x4 x5 t', t.drop (5 * k) = x1 :: x2 :: x3 :: x4 :: x5 :: t' := by
      have hl : 5 ≤ (t.drop (5 * k)).length := by rw [List.length_drop]; omega
      match h : t.drop (5 * k), hl with
      | x1 :: x2 :: x3 :: x4 :: x5 :: t', _ => exact ⟨x1, x2, x3, x4, x5, t', rfl⟩
    have h2 : t.drop (5 * (k + 1)) = t' := by
      rw [show 5 * (k + 1) = 5 * k + 5 by omega, ← List.drop_drop, ht]; rfl
    rw [h2]
    show n5 (rdIs (t, false) k).2 = _
    rw [ih, ht]; rfl
theorem rdIs_at {t : List Int} {k : Nat} {x1 x2 x3 x4 x5 : Int} (h : 5 * (k + 1) ≤ t.length) (h1 : t[5 * k]? = some x1) (h2 : t[5 * k + 1]? = some x2) (h3 : t[5 * k + 2]? = some x3) (h4 : t[5 * k + 3]? = some x4) (h5 : t[5 * k + 4]? = some x5) :
    (rdIs (t, false) (k + 1)).1 = (rdIs (t, false) k).1 ++ [⟨x1, x2, x3, x4, x5⟩] := by
  have ih := rdIs_ok t k (by omega)
  show (rdIs (t, false) k).1 ++ [rdI (rdIs (t, false) k).2] = _
  rw [ih]
  congr 1
  have e : t.drop (5 * k) = x1 :: x2 :: x3 :: x4 :: x5 :: t.drop (5 * k + 5) := by
    have g : ∀ (j : Nat) (x : Int), t[j]? = some x → t.drop j = x :: t.drop (j + 1) := fun j x hx => by
      obtain ⟨hj, hx⟩ := List.getElem?_eq_some_iff.1 hx
      rw [List.drop_eq_getElem_cons hj, hx]
    rw [g _ _ h1, g _ _ h2, g _ _ h3, g _ _ h4, g _ _ h5]
  rw [e]; rfl
theorem FnAtW.rd {r t : List Int} {a b c n : Int} (h : FnAtW r a b c n t) (hl : 5 * n.toNat ≤ t.length) : rdF (r, false) = ⟨a, b, c, (rdIs (t, false) n.toNat).1⟩ ∧ nF (r, false) = (t.drop (5 * n.toNat), false) := by
  obtain ⟨h1, h2⟩ := h.cnt
  constructor
  · rw [rdF, h1, h2, h.eq]; rfl
  · rw [nF, h1, h2, rdIs_ok _ _ hl]
/-- if a function can be read there, its words stand there -/
theorem nF_ok {r : List Int} (h : (nF (r, false)).2 = false) : ∃ a b c n t, FnAtW r a b c n t ∧ 5 * n.toNat ≤ t.length := by
  obtain ⟨h1, h2⟩ := rdIs_back (cS 512 (n3 (r, false))) (fnN (r, false)) h
  obtain ⟨a4, c1, c2, c3, c4⟩ := cnt_back h1
  obtain ⟨a3, b3⟩ := nS_back (s := nS (nS (r, false))) a4
  obtain ⟨a2, b2⟩ := nS_back (s := nS (r, false)) a3
  obtain ⟨a1, b1⟩ := nS_back a2
  have hF : FnAtW r (nx r) (nx (nS (r, false)).1) (nx (nS (nS (r, false))).1) (nx (n3 (r, false)).1) (cS 512 (n3 (r, false))).1 := by
    refine ⟨?_, c1, c2⟩
    rw [← c4, show (n3 (r, false)).1 = (nS (nS (nS (r, false)))).1 from rfl, ← b3, ← b2]
    exact b1
  refine ⟨_, _, _, _, _, hF, ?_⟩
  obtain ⟨h3, h4⟩ := hF.cnt
  rw [h2, List.length_append, insW_len, rdIs_len, h3]
  omega
theorem nF_bad {r : List Int} (h : ∀ a b c n t, FnAtW r a b c n t → ¬ 5 * n.toNat ≤ t.length) : (nF (r, false)).2 = true := by
  cases hb : (nF (r, false)).2 with
  | true => rfl
  | false =>
    obtain ⟨a, b, c, n, t, h1, h2⟩ := nF_ok hb
    exact absurd h2 (h a b c n t h1)
/-- what reading in place gives: the functions, or none if something is wrong -/
def wholeL (m : List Int) : Option (List Fn) := if (dcQ m).2.2 = true ∨ (dcQ m).2.1 ≠ [] then none else some (dcQ m).1
theorem decL_whole (m : List Int) (s : Int) : decL m s = if sumL m ≠ s then (58, []) else if nx m ≠ 1886156142 then (57, []) else match wholeL m with
    | none => (57, [])
    | some fs => if (checkL fs).1 ≠ 0 then ((checkL fs).1, []) else (0, fs) := by
  unfold decL wholeL
  split
  · rfl
  · split
    · rfl
    · split <;> rfl
end Go.Proofs.YtbbadmlekagloaaDoor
namespace Go.Sh
open Go.RowKit
set_option linter.unusedVariables false
set_option linter.unusedSimpArgs false
set_option linter.unusedSectionVars false
def pickO (ops : Array Oper) : List Nat → Option (List Oper)
  | [] => some []
  | i :: r => match ops[i]? with
    | some o => match pickO ops r with
      | some l => some (o :: l)
      | none => none
    | none => none
theorem pickO_get {ops : Array Oper} : ∀ {is : List Nat} {l : List Oper}, pickO ops is = some l → ∀ m : Nat, l[m]? = (is[m]?).bind (ops[·]?)
  | [], l, h, m => by simp [pickO] at h; subst h; simp
  | i :: r, l, h, m => by
    unfold pickO at h
    split at h
    · rename_i o ho
      split at h
      · rename_i l' hl'
        simp at h; subst h
        cases m with
        | zero => simp [ho]
        | succ m => simpa using pickO_get hl' m
      · simp at h
    · simp at h
theorem pickO_len {ops : Array Oper} : ∀ {is : List Nat} {l : List Oper}, pickO ops is = some l → l.length = is.length
  | [], l, h => by simp [pickO] at h; subst h; rfl
  | i :: r, l, h => by
    unfold pickO at h
    split at h
    · rename_i o ho
      split at h
      · rename_i l' hl'
        simp at h; subst h
        simp [pickO_len hl']
      · simp at h
    · simp at h
def ChP (ops : Array Oper) (qis cs : List Nat) : Prop :=
  (∀ i ∈ List.range ops.size, ∀ j ∈ afterOf ops i, j < i) ∧
  (∀ i ∈ List.range ops.size, i ∈ qis ∨ i ∈ cs) ∧
  (∀ i ∈ qis, i ∉ cs ∧ i < ops.size) ∧
  (∀ i ∈ cs, i < ops.size) ∧
  qis.Pairwise (· < ·) ∧
  cs.Pairwise (· < ·) ∧
  (∀ a ∈ cs, ∀ b ∈ cs, a < b → a ∈ ancF ops ops.size b) ∧
  (ops.size - 1 ∈ cs) ∧
  (∀ j ∈ List.range (ops.size - 1), j ∈ ancF ops ops.size (ops.size - 1)) ∧
  (∀ i ∈ List.range ops.size, ∀ j ∈ List.range ops.size, i ≠ j → dstOf ops i ≠ none → dstOf ops j ≠ dstOf ops i) ∧
  (∀ i ∈ qis, ∀ j ∈ List.range ops.size, j ≠ i → ∀ t ∈ rdOf ops i, dstOf ops j = some t → j ∈ qis ∧ ((j < i ∧ j ∈ ancF ops ops.size i) ∨ (i < j ∧ i ∈ ancF ops ops.size j))) ∧
  (∀ i ∈ cs, ∀ j ∈ List.range ops.size, j ≠ i → ∀ t ∈ rdOf ops i, dstOf ops j = some t → j ∈ ancF ops ops.size i)
def chB (ops : Array Oper) (qis cs : List Nat) : Bool :=
  decide ((∀ i ∈ List.range ops.size, ∀ j ∈ afterOf ops i, j < i)) &&
  decide ((∀ i ∈ List.range ops.size, i ∈ qis ∨ i ∈ cs)) &&
  decide ((∀ i ∈ qis, i ∉ cs ∧ i < ops.size)) &&
  decide ((∀ i ∈ cs, i < ops.size)) &&
  decide (qis.Pairwise (· < ·)) &&
  decide (cs.Pairwise (· < ·)) &&
  decide ((∀ a ∈ cs, ∀ b ∈ cs, a < b → a ∈ ancF ops ops.size b)) &&
  decide ((ops.size - 1 ∈ cs)) &&
  decide ((∀ j ∈ List.range (ops.size - 1), j ∈ ancF ops ops.size (ops.size - 1))) &&
  decide ((∀ i ∈ List.range ops.size, ∀ j ∈ List.range ops.size, i ≠ j → dstOf ops i ≠ none → dstOf ops j ≠ dstOf ops i)) &&
  decide ((∀ i ∈ qis, ∀ j ∈ List.range ops.size, j ≠ i → ∀ t ∈ rdOf ops i, dstOf ops j = some t → j ∈ qis ∧ ((j < i ∧ j ∈ ancF ops ops.size i) ∨ (i < j ∧ i ∈ ancF ops ops.size j)))) &&
  decide ((∀ i ∈ cs, ∀ j ∈ List.range ops.size, j ≠ i → ∀ t ∈ rdOf ops i, dstOf ops j = some t → j ∈ ancF ops ops.size i))
theorem chB_spec {ops : Array Oper} {qis cs : List Nat} (h : chB ops qis cs = true) : ChP ops qis cs := by
  unfold chB at h
  simp only [Bool.and_eq_true, decide_eq_true_iff] at h
  obtain ⟨⟨⟨⟨⟨⟨⟨⟨⟨⟨⟨h1, h2⟩, h3⟩, h4⟩, h5⟩, h6⟩, h7⟩, h8⟩, h9⟩, h10⟩, h11⟩, h12⟩ := h
  exact ⟨h1, h2, h3, h4, h5, h6, h7, h8, h9, h10, h11, h12⟩
section
variable {P : Program} {T : Tab} {n : Nat} {ops : Array Oper}
def stepCh (P : Program) (T : Tab) (n : Nat) (W : World → Prop) (o : Oper) (_r : List Oper) (ih : Fr → World → (Fr → World → Prop) → Prop) (F : Fr) (w : World) (k : Fr → World → Prop) : Prop :=
  W w ∧ match dstOk n o.dst with
    | false => False
    | true => match o.guard with
      | some _ => False
      | none => exOp P T (evR o F) o w (fun v w' => ih (F.put o.dst v) w' k) (fun _ _ => False)
def chOps (P : Program) (T : Tab) (n : Nat) (W : World → Prop) (l : List Oper) : Fr → World → (Fr → World → Prop) → Prop :=
  List.rec (motive := fun _ => Fr → World → (Fr → World → Prop) → Prop) (fun F w k => k F w) (stepCh P T n W) l
theorem PhiF_cases {F : Fr} {l : List Oper} {vals : Nat → Value} {t : Nat} {u : Value} : ∀ m, PhiF F l vals m t = some u → (∃ j, j < m ∧ (l[j]?).bind (·.dst) = some t ∧ u = vals j) ∨ ((∀ j, j < m → (l[j]?).bind (·.dst) ≠ some t) ∧ look F.env t = some u)
  | 0, h => .inr ⟨by simp, h⟩
  | m + 1, h => by
    rw [PhiF] at h
    split at h
    · rename_i hd
      simp at h
      exact .inl ⟨m, by omega, hd, h.symm⟩
    · rename_i hd
      rcases PhiF_cases m h with ⟨j, h1, h2, h3⟩ | ⟨h1, h2⟩
      · exact .inl ⟨j, by omega, h2, h3⟩
      · exact .inr ⟨fun j hj => by
          by_cases e : j = m
          · subst e; exact hd
          · exact h1 j (by omega), h2⟩
theorem act_put_ne {a : Act} {d : Option Nat} {v : Value} {t : Nat} (h : d ≠ some t) : (a.put d v).tmps[t]? = a.tmps[t]? := by
  cases d with
  | none => rfl
  | some d' =>
    simp only [Act.put]
    exact Array.getElem?_setIfInBounds_ne (fun e => h (by rw [e]))
theorem act_put_eq {a : Act} {t : Nat} {v : Value} (h : dstOk a.tmps.size (some t) = true) : (a.put (some t) v).tmps[t]? = some v := by
  simp only [Act.put]
  exact Array.getElem?_setIfInBounds_self_of_lt (by simpa [dstOk] using h)
theorem act_put_size {a : Act} {d : Option Nat} {v : Value} : (a.put d v).tmps.size = a.tmps.size := by cases d <;> simp [Act.put]
theorem act_put_defers {a : Act} {d : Option Nat} {v : Value} : (a.put d v).defers = a.defers := by cases d <;> simp [Act.put]
theorem look_put_eq {F : Fr} {d : Nat} {v : Value} : look (F.put (some d) v).env d = some v := by simp [Fr.put, look]
theorem look_put_ne {F : Fr} {d : Option Nat} {v : Value} {t : Nat} (h : d ≠ some t) : look (F.put d v).env t = look F.env t := by
  cases d with
  | none => rfl
  | some d =>
    simp only [Fr.put, look]
    split
    · rename_i e; exact absurd (by rw [Nat.eq_of_beq_eq_true e]) h
    · rfl
theorem Dr.ch (hT : TabOk P T) (hm : P.follows .mixedOrders = true) (qis cs : List Nat) {id : Nat} {F : Fr} {w : World} {K : Exit → Fr → World → Prop} {ql cl : List Oper}
    (hB : chB ops qis cs = true) (hql : pickO ops qis = some ql) (hcl : pickO ops cs = some cl) (W : World → Prop)
    (h : ∀ w1, Ext w w1 → w1.heap.size = w.heap.size → quOps P T n W (fun a b => b = a) ops.toList ql F (fun F' => chOps P T n W cl F' w1 (fun F w => K .normal F w))) : Dr P n id ops F w K := by
  obtain ⟨hac0, hcov, hqc, hclt, hqs, hcs, hcan, hlc, hlast0, huq0, hrq, hrc⟩ := chB_spec hB
  have hac : ∀ i, i < ops.size → ∀ j ∈ afterOf ops i, j < i := fun i hi => hac0 i (List.mem_range.2 hi)
  have hlast : ∀ j, j < ops.size - 1 → j ∈ ancF ops ops.size (ops.size - 1) := fun j hj => hlast0 j (List.mem_range.2 hj)
  have huq : ∀ i, i < ops.size → ∀ j, j < ops.size → i ≠ j → ∀ t, dstOf ops i = some t → dstOf ops j ≠ some t := fun i hi j hj hne t ht => by
    have := huq0 i (List.mem_range.2 hi) j (List.mem_range.2 hj) hne (by rw [ht]; simp)
    rwa [ht] at this
  have e1 : Ext w { w with drawn := w.drawn + 1 } := ⟨rfl, rfl, rfl, Nat.le_refl _, fun _ _ => rfl⟩
  obtain ⟨vals, F', hY, hlook, hds, hfin⟩ := quOps_trace hT ql F _ (h { w with drawn := w.drawn + 1 } e1 rfl)
  have hN : ops.size - 1 < ops.size := hclt _ hlc
  have hqget : ∀ m : Nat, (ql[m]?).bind (·.dst) = (qis[m]?).bind (dstOf ops) := fun m => by
    rw [pickO_get hql m]
    cases qis[m]? <;> rfl
  have hqpos : ∀ i, i ∈ qis → ∃ m, qis[m]? = some i := fun i hi => List.getElem?_of_mem hi
  have hqlt : ∀ (m m' i i' : Nat), qis[m]? = some i → qis[m']? = some i' → m < m' → i < i' := fun m m' i i' h1 h2 hlt => by
    obtain ⟨a1, a2⟩ := List.getElem?_eq_some_iff.1 h1
    obtain ⟨b1, b2⟩ := List.getElem?_eq_some_iff.1 h2
    have := List.pairwise_iff_getElem.1 hqs m m' a1 b1 hlt
    omega
  have hqinj : ∀ (m m' i : Nat), qis[m]? = some i → qis[m']? = some i → m = m' := fun m m' i h1 h2 => by
    rcases Nat.lt_trichotomy m m' with e | e | e
    · have := hqlt m m' i i h1 h2 e; omega
    · exact e
    · have := hqlt m' m i i h2 h1 e; omega
  refine ⟨fun a0 ha0 => ?_⟩
  refine wp_region_any hm ?_
  have main : ∀ (fuel : Nat) (listed : Array Bool) (a : Act) (w' : World) (j : Nat) (Fj : Fr), listed.size = ops.size → Closed ops listed → cnt listed ops.size ≤ fuel → ¬ Lst listed (ops.size - 1) →
      a.tmps.size = n → a.defers = F.ds → Fj.ds = F.ds → chOps P T n W (cl.drop j) Fj w' (fun F w => K .normal F w) →
      (∀ m i, cs[m]? = some i → (Lst listed i ↔ m < j)) →
      (∀ m i, qis[m]? = some i → Lst listed i → ∀ d, dstOf ops i = some d → a.tmps[d]? = some (vals m)) →
      (∀ t u, look F.env t = some u → (∀ i, i < ops.size → Lst listed i → dstOf ops i ≠ some t) → a.tmps[t]? = some u) →
      (∀ t u, look Fj.env t = some u → (∃ i, i ∈ qis ∧ ¬ Lst listed i ∧ dstOf ops i = some t) ∨ a.tmps[t]? = some u) →
      (∀ t, (∀ i, i ∈ cs → dstOf ops i ≠ some t) → look Fj.env t = look F'.env t) →
      wpAny P .any ops (Lift n K) fuel listed a w' := by
    intro fuel
    induction fuel with
    | zero => intro listed a w' j Fj _ _ hc hnl; exact absurd (cnt_pos listed _ hnl ops.size hN) (by omega)
    | succ fuel ih =>
      intro listed a w' j Fj hs hcl' hc hnl hsz hdf hdj hch hcj hA hB' hG hFj
      refine ⟨fun hr => ?_, fun i hi => ?_⟩
      · exfalso
        have : ∃ i, i < ops.size ∧ ¬ Lst listed i ∧ ∀ j, j < i → Lst listed j := by
          have : ∀ m, m ≤ ops.size - 1 → (∀ j, j < m → Lst listed j) ∨ ∃ i, i < ops.size ∧ ¬ Lst listed i ∧ ∀ j, j < i → Lst listed j := by
            intro m
            induction m with
            | zero => intro _; exact .inl fun j hj => by omega
            | succ m ihm =>
              intro hm
              rcases ihm (by omega) with h1 | h1
              · by_cases hl : Lst listed m
                · exact .inl fun j hj => (Nat.lt_or_ge j m).elim (h1 j) fun h2 => (show j = m by omega) ▸ hl
                · exact .inr ⟨m, by omega, hl, h1⟩
              · exact .inr h1
          rcases this (ops.size - 1) (Nat.le_refl _) with h1 | h1
          · exact ⟨ops.size - 1, hN, hnl, h1⟩
          · exact h1
        obtain ⟨i, h1, h2, h3⟩ := this
        have := (mem_ready hs hac).2 ⟨h1, h2, fun j hj => h3 j (hac i h1 j hj)⟩
        rw [hr] at this
        exact absurd this (by simp)
      · obtain ⟨hi1, hi2, hi3⟩ := (mem_ready hs hac).1 hi
        have hs' : (listed.setIfInBounds i true).size = ops.size := by simpa using hs
        have hLs : ∀ j, Lst (listed.setIfInBounds i true) j ↔ j = i ∨ Lst listed j := fun j => by
          unfold Lst; rw [getD_set _ _ _ (by omega)]; by_cases e : j = i <;> simp [e]
        have hcl'' : Closed ops (listed.setIfInBounds i true) := fun m hm hl j hj => by
          rw [hLs] at hl ⊢
          rcases hl with rfl | hl
          · exact .inr (hi3 j hj)
          · exact .inr (hcl' m hm hl j hj)
        have hc' : cnt (listed.setIfInBounds i true) ops.size ≤ fuel := by
          have := cnt_set listed i (by omega) hi2 ops.size
          rw [if_pos hi1] at this; omega
        have hanc : ∀ j, j ∈ ancF ops ops.size i → Lst listed j := fun j hj => by
          have := closed_anc hcl'' hac ops.size i j hi1 ((hLs i).2 (.inl rfl)) hj
          rcases (hLs j).1 this with rfl | h1
          · exfalso
            have lt : ∀ (f m j : Nat), m < ops.size → j ∈ ancF ops f m → j < m := by
              intro f
              induction f with
              | zero => intro m j _ h; simp [ancF] at h
              | succ f ihf =>
                intro m j hm h
                simp only [ancF, List.mem_flatMap, List.mem_cons] at h
                obtain ⟨q, hq, h⟩ := h
                have hqm := hac m hm q hq
                rcases h with rfl | h
                · exact hqm
                · have := ihf q j (by omega) h; omega
            have := lt _ _ _ hi1 hj; omega
          · exact h1
        obtain ⟨o, ho⟩ : ∃ o, ops[i]? = some o := ⟨ops[i], Array.getElem?_eq_getElem hi1⟩
        have hdi : dstOf ops i = o.dst := by simp [dstOf, ho]
        have hrdi : rdOf ops i = tmpsOf o ++ gdOf ops o := by unfold rdOf; simp only [ho]
        have hjlt : j < cs.length := by
          obtain ⟨m, hm⟩ := List.getElem?_of_mem hlc
          have h1 := (List.getElem?_eq_some_iff.1 hm).1
          have h2 := hcj m _ hm
          exact Nat.lt_of_not_le fun h3 => hnl (h2.2 (by omega))
        obtain ⟨ci, hci⟩ : ∃ c, cs[j]? = some c := ⟨cs[j], List.getElem?_eq_getElem hjlt⟩
        obtain ⟨oc, hoc⟩ : ∃ o, ops[ci]? = some o := ⟨_, Array.getElem?_eq_getElem (hclt ci (List.mem_of_getElem? hci))⟩
        have hclj : cl[j]? = some oc := by rw [pickO_get hcl j, hci]; exact hoc
        have hdrop : cl.drop j = oc :: cl.drop (j + 1) := by
          obtain ⟨h1, h2⟩ := List.getElem?_eq_some_iff.1 hclj
          rw [List.drop_eq_getElem_cons h1, h2]
        rw [hdrop] at hch
        have hch' : stepCh P T n W oc (cl.drop (j + 1)) (chOps P T n W (cl.drop (j + 1))) Fj w' (fun F w => K .normal F w) := hch
        obtain ⟨hWw, hrest⟩ := hch'
        unfold wpOp
        simp only [ho]
        by_cases hic : i ∈ cs
        · -- the chain's next
          have hii : i = ci := by
            obtain ⟨m, hm⟩ := List.getElem?_of_mem hic
            have hmj : ¬ m < j := fun e => hi2 ((hcj m i hm).2 e)
            rcases Nat.lt_or_ge j m with e | e
            · exfalso
              have h1 := (List.getElem?_eq_some_iff.1 hm)
              have h2 := (List.getElem?_eq_some_iff.1 hci)
              obtain ⟨h1a, h1b⟩ := h1
              obtain ⟨h2a, h2b⟩ := h2
              have hlt := List.pairwise_iff_getElem.1 hcs j m h2a h1a e
              rw [h1b, h2b] at hlt
              have := hanc ci (hcan ci (List.mem_of_getElem? hci) i hic hlt)
              have := (hcj j ci hci).1 this
              omega
            · have : m = j := by omega
              subst this
              rw [hci] at hm; simpa using hm.symm
          subst hii
          rw [ho] at hoc
          obtain rfl : o = oc := by simpa using hoc
          split at hrest
          · exact hrest.elim
          rename_i hdo
          split at hrest
          · exact hrest.elim
          rename_i hgn
          rw [if_pos (wanted_none hgn)]
          refine .inl ?_
          have hev : ∀ x u, evR o Fj x = some u → a.eval x = u := ev_of_phi (Φ := look Fj.env) (fun t => rfl) fun t ht u hu => by
            rcases hG t u hu with ⟨q, hq1, hq2, hq3⟩ | hu'
            · exfalso
              have hqi : q ≠ i := fun e => (hqc q hq1).1 (e ▸ hic)
              exact hq2 (hanc q (hrc i hic q (List.mem_range.2 (hqc q hq1).2) hqi t (by rw [hrdi]; exact List.mem_append_left _ ht) hq3))
            · exact hu'
          refine exOp_sound hT hev hrest (fun v w2 hnx => ?_) (fun ch w2 q => q.elim)
          have hG2 : ∀ t u, look (Fj.put o.dst v).env t = some u → (∃ q, q ∈ qis ∧ ¬ Lst (listed.setIfInBounds i true) q ∧ dstOf ops q = some t) ∨ (a.put o.dst v).tmps[t]? = some u := fun t u ht => by
            by_cases hd : o.dst = some t
            · rw [hd] at ht hdo ⊢
              rw [look_put_eq] at ht
              simp at ht; subst ht
              exact .inr (act_put_eq (by rw [hsz]; exact hdo))
            · rw [act_put_ne hd]
              have ht' : look Fj.env t = some u := by rw [look_put_ne hd] at ht; exact ht
              rcases hG t u ht' with ⟨q, hq1, hq2, hq3⟩ | hu
              · refine .inl ⟨q, hq1, fun e => ?_, hq3⟩
                rcases (hLs q).1 e with e | e
                · exact (hqc q hq1).1 (e ▸ hic)
                · exact hq2 e
              · exact .inr hu
          have hds2 : (Fj.put o.dst v).ds = F.ds := by cases o.dst <;> exact hdj
          by_cases hl' : i = ops.size - 1
          · -- the last
            have hall : ∀ q, q < ops.size → Lst (listed.setIfInBounds i true) q := fun q hq => by
              rw [hLs]
              by_cases e : q = i
              · exact .inl e
              · exact .inr (hanc q (by rw [hl']; exact hlast q (by omega)))
            have hready : Region.ready .any ops (listed.setIfInBounds i true) = [] := by
              rw [List.eq_nil_iff_forall_not_mem]
              intro q hq
              obtain ⟨h1, h2, _⟩ := (mem_ready hs' hac).1 hq
              exact h2 (hall q h1)
            have hagr : Agr n (Fj.put o.dst v) (a.put o.dst v) := ⟨by rw [act_put_size, hsz], by rw [act_put_defers, hds2, hdf], fun t u ht => by
              rcases hG2 t u ht with ⟨q, hq1, hq2, hq3⟩ | hu
              · exact absurd (hall q (hqc q hq1).2) hq2
              · exact hu⟩
            have hend : cl.drop (j + 1) = [] := by
              refine List.drop_eq_nil_of_le ?_
              rw [pickO_len hcl]
              refine Nat.le_of_not_lt fun hlt => ?_
              obtain ⟨c2, hc2⟩ : ∃ c, cs[j + 1]? = some c := ⟨cs[j + 1], List.getElem?_eq_getElem hlt⟩
              obtain ⟨h1a, h1b⟩ := List.getElem?_eq_some_iff.1 hc2
              obtain ⟨h2a, h2b⟩ := List.getElem?_eq_some_iff.1 hci
              have h3 := List.pairwise_iff_getElem.1 hcs j (j + 1) h2a h1a (by omega)
              rw [h1b, h2b] at h3
              have := hclt c2 (List.mem_of_getElem? hc2)
              omega
            rw [hend] at hnx
            have q : Lift n K .normal (a.put o.dst v) w2 := ⟨_, hagr, hnx⟩
            cases fuel with
            | zero => exact ⟨hready, q⟩
            | succ f => exact ⟨fun _ => q, fun j hj => by rw [hready] at hj; exact absurd hj (by simp)⟩
          · refine ih _ _ _ (j + 1) (Fj.put o.dst v) hs' hcl'' hc' (fun e => ?_) (by rw [act_put_size, hsz]) (by rw [act_put_defers, hdf]) hds2 hnx (fun m q hq => ?_) (fun m q hq hl d hd => ?_) (fun t u ht hno => ?_) hG2 (fun t ht => ?_)
            · rcases (hLs _).1 e with e | e
              · exact hl' e.symm
              · exact hnl e
            · rw [hLs, hcj m q hq]
              constructor
              · rintro (e | e)
                · subst e
                  have hmj : m = j := by
                    rcases Nat.lt_trichotomy m j with e | e | e
                    · exact absurd ((hcj m _ hq).2 e) hi2
                    · exact e
                    · obtain ⟨h1a, h1b⟩ := List.getElem?_eq_some_iff.1 hq
                      obtain ⟨h2a, h2b⟩ := List.getElem?_eq_some_iff.1 hci
                      have h3 := List.pairwise_iff_getElem.1 hcs j m h2a h1a e
                      omega
                  omega
                · omega
              · intro e
                by_cases hmj : m = j
                · subst hmj; rw [hci] at hq; simp at hq; exact .inl hq.symm
                · exact .inr (by omega)
            · have hqm := List.mem_of_getElem? hq
              have hqi : q ≠ i := fun e => (hqc q hqm).1 (e ▸ hic)
              rw [act_put_ne (fun e => huq q (hqc q hqm).2 i hi1 hqi d hd (by rw [hdi, e]))]
              exact hA m q hq (((hLs q).1 hl).resolve_left hqi) d hd
            · rw [act_put_ne (fun e => hno i hi1 ((hLs i).2 (.inl rfl)) (by rw [hdi, e]))]
              exact hB' t u ht fun q hq hl => hno q hq ((hLs q).2 (.inr hl))
            · rw [← hFj t ht, look_put_ne (fun e => ht i hic (by rw [hdi, e]))]
        · -- a quiet one
          have hiq : i ∈ qis := (hcov i (List.mem_range.2 hi1)).resolve_right hic
          obtain ⟨m, hmi⟩ := hqpos i hiq
          obtain ⟨hdo, hy⟩ := hY m o (by rw [pickO_get hql m, hmi]; exact ho)
          have hreads : ∀ t ∈ tmpsOf o ++ gdOf ops o, ∀ u, PhiF F ql vals m t = some u → a.tmps[t]? = some u := by
            intro t ht u hu
            rw [← hrdi] at ht
            rcases PhiF_cases m hu with ⟨k, hk, hkd, rfl⟩ | ⟨hno, hu'⟩
            · rw [hqget] at hkd
              cases hqk : qis[k]? with
              | none => rw [hqk] at hkd; simp at hkd
              | some q =>
                rw [hqk] at hkd
                have hqlt' := hqlt k m q i hqk hmi hk
                have hqm := List.mem_of_getElem? hqk
                rcases (hrq i hiq q (List.mem_range.2 (hqc q hqm).2) (by omega) t ht hkd).2 with ⟨_, h2⟩ | ⟨h2, _⟩
                · exact hA k q hqk (hanc q h2) t hkd
                · omega
            · refine hB' t u hu' fun q hq hl hd => ?_
              by_cases hqi : q = i
              · subst hqi; exact hi2 hl
              obtain ⟨h1, h2⟩ := hrq i hiq q (List.mem_range.2 hq) hqi t ht hd
              obtain ⟨k, hk⟩ := hqpos q h1
              rcases h2 with ⟨h2, h3⟩ | ⟨h2, h3⟩
              · have hkm : k < m := by
                  rcases Nat.lt_trichotomy k m with e | e | e
                  · exact e
                  · subst e; rw [hmi] at hk; simp at hk; omega
                  · have := hqlt m k i q hmi hk e; omega
                exact hno k hkm (by rw [hqget, hk]; exact hd)
              · exact hi2 (closed_anc hcl' hac ops.size q i hq hl h3)
          have hnext : wpAny P .any ops (Lift n K) fuel (listed.setIfInBounds i true) (a.put o.dst (vals m)) w' := by
            refine ih _ _ _ j Fj hs' hcl'' hc' (fun e => ?_) (by rw [act_put_size, hsz]) (by rw [act_put_defers, hdf]) hdj (by rw [hdrop]; exact hch) (fun k q hq => ?_) (fun k q hq hl d hd => ?_) (fun t u ht hno => ?_) (fun t u ht => ?_) hFj
            · rcases (hLs _).1 e with e | e
              · exact hic (e ▸ hlc)
              · exact hnl e
            · rw [hLs, ← hcj k q hq]
              exact ⟨fun e => e.resolve_left (fun e => hic (e ▸ List.mem_of_getElem? hq)), .inr⟩
            · by_cases e : q = i
              · subst e
                have := hqinj k m q hq hmi
                subst this
                rw [hdi] at hd
                rw [hd] at hdo ⊢
                exact act_put_eq (by rw [hsz]; exact hdo)
              · have hqm := List.mem_of_getElem? hq
                rw [act_put_ne (fun e' => huq q (hqc q hqm).2 i hi1 e d hd (by rw [hdi, e']))]
                exact hA k q hq (((hLs q).1 hl).resolve_left e) d hd
            · rw [act_put_ne (fun e => hno i hi1 ((hLs i).2 (.inl rfl)) (by rw [hdi, e]))]
              exact hB' t u ht fun q hq hl => hno q hq ((hLs q).2 (.inr hl))
            · by_cases hd : o.dst = some t
              · refine .inr ?_
                have hF' : look F'.env t = some u := by
                  rw [← hFj t (fun q hq e => huq i hi1 q (hclt q hq) (fun e' => hic (e' ▸ hq)) t (by rw [hdi, hd]) e)]
                  exact ht
                rw [hlook] at hF'
                rcases PhiF_cases _ hF' with ⟨k, hk, hkd, rfl⟩ | ⟨hno, _⟩
                · rw [hqget] at hkd
                  cases hqk : qis[k]? with
                  | none => rw [hqk] at hkd; simp at hkd
                  | some q =>
                    rw [hqk] at hkd
                    have hqm := List.mem_of_getElem? hqk
                    have hqi : q = i := Classical.byContradiction fun e => huq i hi1 q (hqc q hqm).2 (fun e' => e e'.symm) t (by rw [hdi, hd]) hkd
                    subst hqi
                    have := hqinj k m q hqk hmi
                    subst this
                    rw [hd] at hdo ⊢
                    exact act_put_eq (by rw [hsz]; exact hdo)
                · exact absurd (by rw [hqget, hmi]; show dstOf ops i = some t; rw [hdi, hd]) (hno m (by rw [pickO_len hql]; exact (List.getElem?_eq_some_iff.1 hmi).1))
              · rw [act_put_ne hd]
                rcases hG t u ht with ⟨q, hq1, hq2, hq3⟩ | hu
                · refine .inl ⟨q, hq1, fun e => ?_, hq3⟩
                  rcases (hLs q).1 e with e | e
                  · exact hd (by rw [← hdi, ← e]; exact hq3)
                  · exact hq2 e
                · exact .inr hu
          rcases hy a hreads with ⟨hno, hv⟩ | ⟨hyes, hrun⟩
          · rw [if_neg (by rw [hno]; simp)]
            rw [← hv]
            exact hnext
          · rw [if_pos hyes]
            refine .inl ?_
            unfold Oper.wp
            rcases hrun w' hWw with e | ⟨f, args, e, hcl2⟩
            · exact upon_val e hnext
            · rw [e]
              refine Calls.mono hcl2.out fun en w'' q => ?_
              cases en with
              | returned u => obtain ⟨q1, q2⟩ := q; subst q1; subst q2; exact hnext
              | panicked ch => exact q.elim
              | outgrown => exact q.elim
  have hf : ∀ i, i < ops.size → ¬ Lst (Array.replicate ops.size false) i := fun i hi hl => absurd hl (by unfold Lst; simp [Array.getD_eq_getD_getElem?, hi])
  refine main ops.size _ a0 _ 0 F' (by simp) (fun i hi hl => absurd hl (hf i hi)) ?_ (hf _ hN) ha0.1 ha0.2.1 hds (by rw [List.drop_zero]; exact hfin) (fun m i hi => ⟨fun hl => absurd hl (hf i (hclt i (List.mem_of_getElem? hi))), fun e => by omega⟩)
    (fun m i hi hl => absurd hl (hf i (hqc i (List.mem_of_getElem? hi)).2)) (fun t u ht _ => ha0.2.2 t u ht) (fun t u ht => ?_) (fun _ _ => rfl)
  · have : ∀ m, m ≤ ops.size → cnt (Array.replicate ops.size false) m ≤ m := by
      intro m
      induction m with
      | zero => intro _; simp [cnt]
      | succ m ihm => intro h; have := ihm (by omega); simp only [cnt]; split <;> omega
    exact this _ (Nat.le_refl _)
  · rw [hlook] at ht
    rcases PhiF_cases _ ht with ⟨k, hk, hkd, rfl⟩ | ⟨_, hu⟩
    · rw [hqget] at hkd
      cases hqk : qis[k]? with
      | none => rw [hqk] at hkd; simp at hkd
      | some q =>
        rw [hqk] at hkd
        have hqm := List.mem_of_getElem? hqk
        exact .inl ⟨q, hqm, hf q (hqc q hqm).2, hkd⟩
    · exact .inr (ha0.2.2 t u hu)
end
end Go.Sh
namespace Go.Sh
open Go.RowKit
theorem QLd1.own {W : World → Prop} {b o : Nat} {t : TypeId} {vs : List Value} {v : Value} {k : Value → Prop} (h : ∀ w', W w' → Blk w' b t vs) (hk : k v) (hv : vs[o]? = some v := by rfl) : QLd1 W ⟨b, o, none⟩ k :=
  ⟨v, fun w' hw' => ((h w' hw').cell o).trans hv, hk⟩
end Go.Sh
namespace Go.Proofs.YtbbadmlekagloaaDoor
open Go Go.Sh
set_option linter.unusedVariables false
set_option linter.unusedSimpArgs false
attribute [local irreducible] Blk Ext RdS
/-- the codes of functions, as one piece -/
abbrev cds (L : List FE) : Ck := ⟨fun k => ∃ x ∈ L, x.1.code ≠ [] ∧ obk x.2.1 = some k, fun w => ∀ x ∈ L, RdC w x.2.1 x.1.code, true, false⟩
theorem cds_ok {L : List FE} {w : World} (h : ∀ x ∈ L, RdC w x.2.1 x.1.code) : (cds L).Ok w :=
  ⟨h, fun k ⟨x, hx, hn, hk⟩ => RdS.lt (h x hx) hn k hk, fun w' hs hb x hx => by
    by_cases hn : x.1.code = []
    · rw [hn]; exact RdS.nil
    · exact RdS.keep (h x hx) hs fun b hb' _ => hb b ⟨x, hx, hn, hb'⟩⟩
theorem Hp.cds0 {S : Nat → Prop} {w0 w : World} {Γ : List Ck} (H : Hp S w0 w Γ) : Hp S w0 w (cds [] :: Γ) :=
  H.fr0 (Hp.one (Tch.refl _ _) (cds_ok (by simp)) (fun k ⟨x, hx, _⟩ => by simp at hx)) (.inl rfl)
theorem Hp.cdsS {S : Nat → Prop} {w0 w : World} {Γ : List Ck} {L : List FE} {f : Fn} {A : Option Addr} {c : Nat} (H : Hp S w0 w (qu Ins.enc 5 35 A c f.code :: cds L :: Γ)) : Hp S w0 w (cds (L ++ [(f, A, c)]) :: Γ) := by
  refine Hp.join2 H rfl rfl (.inl rfl) (fun k ⟨x, hx, hn, hk⟩ => ?_) (fun _ h1 h2 => cds_ok fun x hx => ?_)
  · rcases List.mem_append.1 hx with hx | hx
    · exact .inr ⟨x, hx, hn, hk⟩
    · simp at hx; subst hx; exact .inl hk
  · rcases List.mem_append.1 hx with hx | hx
    · exact h2.holds x hx
    · simp at hx; subst hx; exact Que.rd h1.holds
/-- what Decode answers -/
def Decoded (d : Int × List Fn) (w : World) (v : Value) (w' : World) : Prop := ∃ B c L, v = .tuple #[pv B L.length c, .int .i64 d.1] ∧ fns L = d.2 ∧ Hp nw w w' [qu FE.enc 4 24 B c L, cds L]
theorem Decoded.no {d : Int × List Fn} {e : Int} {w w' : World} {Γ : List Ck} (H : Hp nw w w' Γ) (hd : d = (e, [])) : Decoded d w (.tuple #[.agg #[.slice none 0 0], .int .i64 e]) w' := by
  subst hd
  have H2 := Hp.nil (Hp.cds0 H.non) FE.enc 4 24
  exact ⟨none, 0, [], rfl, rfl, H2⟩
set_option maxHeartbeats 1000000 in
theorem Decode_c (A : Option Addr) (c : Nat) (x : Int) (r : List Int) (s : Int) (w : World) (hG : RdG w) (hA : RdS ints 1 w A (x :: r ++ [s])) (hc : r.length + 2 ≤ c) (hl : 1 ≤ r.length) (hl2 : r.length ≤ 9223372036854775700) :
    Cl Tryd.prog 45 #[.slice A (x :: r ++ [s]).length c] w (Decoded (decL (x :: r) s) w) (fun _ _ => False) := by
  have hlen : (x :: r ++ [s]).length = r.length + 2 := by simp
  have hml : (x :: r).length = r.length + 1 := rfl
  have hw1 : IntKind.i64.wrap (((x :: r ++ [s]).length : Int) - 1) = (((x :: r).length : Nat) : Int) := w64 (by rw [hlen, hml]; omega) (by omega) (by omega)
  have hx : (x :: r ++ [s])[(x :: r).length]? = some s := by rw [List.getElem?_append_right (Nat.le_refl _)]; simp
  have hx0 : (x :: r ++ [s])[0]? = some x := rfl
  have hm : ∀ w', RdS ints 1 w' A (x :: r ++ [s]) → RdS ints 1 w' A (x :: r) := fun w' h => by
    have := RdS.take (k := (x :: r).length) h
    rwa [List.take_left] at this
  have hR : RdS ints 1 w (cutA A c 1 1) r := by
    have h1 := (hm w hA).cut (k := 1) (c := c) (by simp) (by rw [hml]; omega)
    exact h1
  by_cases hs : sumL (x :: r) = s
  case neg =>
    refine ⟨Calls.mono (Decode_bad A c (x :: r) s w hA (by rw [hml]; omega) (by rw [hml]; omega) (by rw [hml]; omega) hs).out fun e w' q => ?_⟩
    cases e with
    | returned v =>
      obtain ⟨rfl, he⟩ := q
      exact Decoded.no ((Hp.begin nw w).ext he) (by unfold decL; rw [if_pos hs])
    | panicked ch => exact q.elim
    | outgrown => exact q.elim
  refine calls_ex (args := [.slice A (x :: r ++ [s]).length c]) T.ok Tryd.func45 rfl rfl rfl rfl ?_
  have H := Hp.begin nw w
  refine Sq.mk ?_
  ((conv => whnf); refine Al.hp H ?_; clear H; intro pp _ H _)
  repeat' ((conv => whnf); first | (((with_reducible show Gd _ _ _); first | with_reducible refine Gd.t ?_ | with_reducible refine Gd.f ?_ | with_reducible refine Gd.dec (fun _ => ?_) (fun _ => ?_) | with_reducible refine Gd.beq (fun _ => ?_) (fun _ => ?_) | with_reducible refine Gd.bne (fun _ => ?_) (fun _ => ?_) | with_reducible refine Gd.not ?_ | refine Gd.t ?_ | refine Gd.f ?_ | with_reducible refine Gd.var (fun _ => ?_) (fun _ => ?_)) <;> first | (exfalso; omega) | skip) | with_reducible refine Sq.mk ?_ | ((with_reducible show Ld1 _ _ _); first | refine Ld1.h H ?_ | refine Ld1.rF ?_ | refine Ld1.r ?_) | ((with_reducible show Ld _ _ _ _); first | refine Ld.h H ?_ | refine Ld.r ?_) | ((with_reducible show Ix _ _ _ _ _); (first | refine Ix.h ?_ | refine Ix.ha ?_)) | (refine Al.hp H ?_; clear H; intro _ _ H _) | (refine St.h H ?_; clear H; intro _ H))
  have hA5 := RdS.from H.e hA
  ((conv => whnf); refine Dr.quiet T.ok mixed (by kernel_rfl) (fun W hW => ?_))
  repeat' (first | ((conv => whnf); first | (((with_reducible show Gd _ _ _); first | with_reducible refine Gd.t ?_ | with_reducible refine Gd.f ?_ | with_reducible refine Gd.dec (fun _ => ?_) (fun _ => ?_) | with_reducible refine Gd.beq (fun _ => ?_) (fun _ => ?_) | with_reducible refine Gd.bne (fun _ => ?_) (fun _ => ?_) | with_reducible refine Gd.not ?_ | refine Gd.t ?_ | refine Gd.f ?_ | with_reducible refine Gd.var (fun _ => ?_) (fun _ => ?_)) <;> first | (exfalso; omega) | skip) | ((with_reducible show QLd1 _ _ _); first | refine QLd1.h hW H ?_ | refine QLd1.rF hW ?_ | refine QLd1.r hW ?_) | ((with_reducible show QLd _ _ _ _); first | refine QLd.h hW H ?_ | refine QLd.r hW ?_) | ((with_reducible show Ix _ _ _ _ _); (first | refine Ix.h ?_ | refine Ix.ha ?_))) | ((conv => whnf); refine QSm.cutHi (i := (x :: r).length) hW T.ok (by omega) ?_) | ((conv => whnf); refine QCl.mk hW (fun _ ee => Cl.mk (psum_c A c (x :: r) _ (hm _ (RdS.from ee hA5)) (by omega)) (fun _ _ h => h)) ?_))
  all_goals first | (exfalso; exact absurd hs (by assumption)) | skip
  (intro _ eT; replace H := H.ext eT; clear hW eT)
  clear hA5
  by_cases h0 : x = 1886156142
  case neg =>
    repeat' ((conv => whnf); first | (((with_reducible show Gd _ _ _); first | with_reducible refine Gd.t ?_ | with_reducible refine Gd.f ?_ | with_reducible refine Gd.dec (fun _ => ?_) (fun _ => ?_) | with_reducible refine Gd.beq (fun _ => ?_) (fun _ => ?_) | with_reducible refine Gd.bne (fun _ => ?_) (fun _ => ?_) | with_reducible refine Gd.not ?_ | refine Gd.t ?_ | refine Gd.f ?_ | with_reducible refine Gd.var (fun _ => ?_) (fun _ => ?_)) <;> first | (exfalso; omega) | skip) | with_reducible refine Sq.mk ?_ | ((with_reducible show Ld1 _ _ _); first | refine Ld1.h H ?_ | refine Ld1.rF ?_ | refine Ld1.r ?_) | ((with_reducible show Ld _ _ _ _); first | refine Ld.h H ?_ | refine Ld.r ?_) | ((with_reducible show Ix _ _ _ _ _); (first | refine Ix.h ?_ | refine Ix.ha ?_)) | (refine Al.hp H ?_; clear H; intro _ _ H _) | (refine St.h H ?_; clear H; intro _ H))
    all_goals first | (exfalso; exact absurd (by assumption) h0) | skip
    exact Decoded.no H (by unfold decL; rw [if_neg (by simpa using hs), if_pos (show nx (x :: r) ≠ 1886156142 from h0)])
  repeat' ((conv => whnf); first | (((with_reducible show Gd _ _ _); first | with_reducible refine Gd.t ?_ | with_reducible refine Gd.f ?_ | with_reducible refine Gd.dec (fun _ => ?_) (fun _ => ?_) | with_reducible refine Gd.beq (fun _ => ?_) (fun _ => ?_) | with_reducible refine Gd.bne (fun _ => ?_) (fun _ => ?_) | with_reducible refine Gd.not ?_ | refine Gd.t ?_ | refine Gd.f ?_ | with_reducible refine Gd.var (fun _ => ?_) (fun _ => ?_)) <;> first | (exfalso; omega) | skip) | with_reducible refine Sq.mk ?_ | ((with_reducible show Ld1 _ _ _); first | refine Ld1.h H ?_ | refine Ld1.rF ?_ | refine Ld1.r ?_) | ((with_reducible show Ld _ _ _ _); first | refine Ld.h H ?_ | refine Ld.r ?_) | ((with_reducible show Ix _ _ _ _ _); (first | refine Ix.h ?_ | refine Ix.ha ?_)) | (refine Al.hp H ?_; clear H; intro _ _ H _) | (refine St.h H ?_; clear H; intro _ H))
  all_goals first | (exfalso; exact absurd h0 (by assumption)) | skip
  (conv => whnf)
  refine Sm.cutLH (i := 1) (j := (x :: r).length) T.ok rfl rfl rfl rfl rfl hw1 (by simp) (by omega) ?_
  repeat' ((conv => whnf); first | (((with_reducible show Gd _ _ _); first | with_reducible refine Gd.t ?_ | with_reducible refine Gd.f ?_ | with_reducible refine Gd.dec (fun _ => ?_) (fun _ => ?_) | with_reducible refine Gd.beq (fun _ => ?_) (fun _ => ?_) | with_reducible refine Gd.bne (fun _ => ?_) (fun _ => ?_) | with_reducible refine Gd.not ?_ | refine Gd.t ?_ | refine Gd.f ?_ | with_reducible refine Gd.var (fun _ => ?_) (fun _ => ?_)) <;> first | (exfalso; omega) | skip) | with_reducible refine Sq.mk ?_ | ((with_reducible show Ld1 _ _ _); first | refine Ld1.h H ?_ | refine Ld1.rF ?_ | refine Ld1.r ?_) | ((with_reducible show Ld _ _ _ _); first | refine Ld.h H ?_ | refine Ld.r ?_) | ((with_reducible show Ix _ _ _ _ _); (first | refine Ix.h ?_ | refine Ix.ha ?_)) | (refine St.h H ?_; clear H; intro _ H))
  ((conv => whnf); refine Al.hp H ?_; clear H; intro pr _ H _)
  repeat' ((conv => whnf); first | (((with_reducible show Gd _ _ _); first | with_reducible refine Gd.t ?_ | with_reducible refine Gd.f ?_ | with_reducible refine Gd.dec (fun _ => ?_) (fun _ => ?_) | with_reducible refine Gd.beq (fun _ => ?_) (fun _ => ?_) | with_reducible refine Gd.bne (fun _ => ?_) (fun _ => ?_) | with_reducible refine Gd.not ?_ | refine Gd.t ?_ | refine Gd.f ?_ | with_reducible refine Gd.var (fun _ => ?_) (fun _ => ?_)) <;> first | (exfalso; omega) | skip) | with_reducible refine Sq.mk ?_ | ((with_reducible show Ld1 _ _ _); first | refine Ld1.h H ?_ | refine Ld1.rF ?_ | refine Ld1.r ?_) | ((with_reducible show Ld _ _ _ _); first | refine Ld.h H ?_ | refine Ld.r ?_) | ((with_reducible show Ix _ _ _ _ _); (first | refine Ix.h ?_ | refine Ix.ha ?_)) | (refine St.h H ?_; clear H; intro _ H))
  ((conv => whnf); refine Al.hp H ?_; clear H; intro p6 _ H _)
  replace H : Hp nw w _ [bk p6 46 (pv none 0 0).cells.toList, bk pr 103 (rdrV (cutA A c 1 1) (c - 1) r false), bk pp 46 T.t46.zero.cells.toList] := H
  replace H := Hp.rr (c := c - 1) (bad := false) (pr := pr) H hR (by omega)
  have hlo : w.heap.size ≤ pr := by assumption
  repeat' ((conv => whnf); first | (((with_reducible show Gd _ _ _); first | with_reducible refine Gd.t ?_ | with_reducible refine Gd.f ?_ | with_reducible refine Gd.dec (fun _ => ?_) (fun _ => ?_) | with_reducible refine Gd.beq (fun _ => ?_) (fun _ => ?_) | with_reducible refine Gd.bne (fun _ => ?_) (fun _ => ?_) | with_reducible refine Gd.not ?_ | refine Gd.t ?_ | refine Gd.f ?_ | with_reducible refine Gd.var (fun _ => ?_) (fun _ => ?_)) <;> first | (exfalso; omega) | skip) | with_reducible refine Sq.mk ?_ | ((with_reducible show Ld1 _ _ _); first | refine Ld1.h H ?_ | refine Ld1.rF ?_ | refine Ld1.r ?_) | ((with_reducible show Ld _ _ _ _); first | refine Ld.h H ?_ | refine Ld.r ?_) | ((with_reducible show Ix _ _ _ _ _); (first | refine Ix.h ?_ | refine Ix.ha ?_)) | (refine Al.hp H ?_; clear H; intro _ _ H _) | (refine St.h H ?_; clear H; intro _ H))
  ((conv => whnf); refine Cl.mk (count_c pr 32 r false w _ H.e hlo (H.atC 1 rfl)) ?_)
  rintro _ _ ⟨rfl, H'⟩
  replace H := H.upd (c := rr w pr r false) H' rfl (.inl rfl)
  clear H'
  have hn := cnt_le 32 r (by decide)
  have hN : cntOf 32 r = ((dcN (x :: r) : Nat) : Int) := by rw [dcN]; show _ = ((cntOf 32 r).toNat : Int); omega
  have hN2 : dcN (x :: r) ≤ 32 := by omega
  rw [hN]
  generalize hs1 : cS 32 (r, false) = s1
  have hs11 : (r.tail, false || cntBad 32 r) = s1 := hs1
  replace H := Hp.nil (Hp.cds0 H) FE.enc 4 24
  repeat' ((conv => whnf); first | (((with_reducible show Gd _ _ _); first | with_reducible refine Gd.t ?_ | with_reducible refine Gd.f ?_ | with_reducible refine Gd.dec (fun _ => ?_) (fun _ => ?_) | with_reducible refine Gd.beq (fun _ => ?_) (fun _ => ?_) | with_reducible refine Gd.bne (fun _ => ?_) (fun _ => ?_) | with_reducible refine Gd.not ?_ | refine Gd.t ?_ | refine Gd.f ?_ | with_reducible refine Gd.var (fun _ => ?_) (fun _ => ?_)) <;> first | (exfalso; omega) | skip) | with_reducible refine Sq.mk ?_ | ((with_reducible show Ld1 _ _ _); first | refine Ld1.h H ?_ | refine Ld1.rF ?_ | refine Ld1.r ?_) | ((with_reducible show Ld _ _ _ _); first | refine Ld.h H ?_ | refine Ld.r ?_) | ((with_reducible show Ix _ _ _ _ _); (first | refine Ix.h ?_ | refine Ix.ha ?_)) | (refine Al.hp H ?_; clear H; intro _ _ H _) | (refine St.h H ?_; clear H; intro _ H))
  refine Lp.g0 T.ok (σ := Nat × Option Addr × Nat × List FE) (fun q => [(37, .int .i64 (q.1 : Int)), (36, .int .i64 (dcN (x :: r) : Int)), (5, .pointer (some ⟨pr, 0, none⟩)), (6, .pointer (some ⟨p6, 0, none⟩)), (2, .pointer (some ⟨pp, 0, none⟩))])
    (fun q w' => q.1 ≤ dcN (x :: r) ∧ fns q.2.2.2 = (rdFs s1 q.1).1 ∧ Hp nw w w' [qu FE.enc 4 24 q.2.1 q.2.2.1 q.2.2.2, cds q.2.2.2, bk p6 46 (pv q.2.1 q.2.2.2.length q.2.2.1).cells.toList, rr w pr (rdFs s1 q.1).2.1 (rdFs s1 q.1).2.2, bk pp 46 T.t46.zero.cells.toList]) (fun q _ => dcN (x :: r) - q.1) (0, none, 0, []) rfl ⟨rfl, rfl, rfl, rfl, rfl, trivial⟩ ⟨Nat.zero_le _, rfl, by rw [← hs11]; exact H⟩ ?_
  clear H
  rintro ⟨i, B, d, L⟩ w5 ⟨hi, hL, H⟩
  simp only at hi hL H ⊢
  have hil : L.length = i := by rw [← fns_len, hL, rdFs_len]
  by_cases hlt : i < dcN (x :: r)
  · have hq : rdFs s1 (i + 1) = ((rdFs s1 i).1 ++ [rdF (rdFs s1 i).2], nF (rdFs s1 i).2) := rfl
    generalize (rdFs s1 i).2 = t at *
    repeat' ((conv => whnf); first | (((with_reducible show Gd _ _ _); first | with_reducible refine Gd.t ?_ | with_reducible refine Gd.f ?_ | with_reducible refine Gd.dec (fun _ => ?_) (fun _ => ?_) | with_reducible refine Gd.beq (fun _ => ?_) (fun _ => ?_) | with_reducible refine Gd.bne (fun _ => ?_) (fun _ => ?_) | with_reducible refine Gd.not ?_ | refine Gd.t ?_ | refine Gd.f ?_ | with_reducible refine Gd.var (fun _ => ?_) (fun _ => ?_)) <;> first | (exfalso; omega) | skip) | with_reducible refine Sq.mk ?_ | ((with_reducible show Ld1 _ _ _); first | refine Ld1.h H ?_ | refine Ld1.rF ?_ | refine Ld1.r ?_) | ((with_reducible show Ld _ _ _ _); first | refine Ld.h H ?_ | refine Ld.r ?_) | ((with_reducible show Ix _ _ _ _ _); (first | refine Ix.h ?_ | refine Ix.ha ?_)) | (refine Al.hp H ?_; clear H; intro _ _ H _) | (refine St.h H ?_; clear H; intro _ H))
    (conv => whnf)
    refine Dr.ch T.ok mixed [0, 1, 2, 6] [3, 4, 5, 7] (by kernel_rfl) rfl rfl (fun w' => Blk w' p6 46 (pv B L.length d).cells.toList) (fun w1 eT _ => ?_)
    replace H := H.ext eT
    repeat' ((conv => whnf); refine QLd1.own (fun _ hw => hw) ?_)
    (conv => whnf)
    refine ⟨H.blk 2 rfl, ?_⟩
    ((conv => whnf); refine Cl.mk (function_c pr t w _ H.e hlo (H.atC 3 rfl)) ?_)
    rintro _ w2 ⟨CA, cc, rfl, H'⟩
    replace H := H.updn (c := rr w pr t.1 t.2) (Hp.swap H') rfl (.inl rfl) (.inl rfl)
    clear H'
    (conv => whnf)
    refine ⟨H.blk 3 rfl, ?_⟩
    refine Sm.lith (cs := FE.enc (rdF t, CA, cc)) H T.ok (fun p5 w3 H _ => ?_)
    (conv => whnf)
    refine ⟨H.blk 4 rfl, ?_⟩
    refine Sm.ap1 (enc := FE.enc) (rdF t, CA, cc) H T.ok ?_ ?_ (fun B' d' w4 H => ?_)
    · show (L.length + 1) * 48 ≤ _; omega
    · omega
    simp only [List.cons_append, List.nil_append] at H
    (conv => whnf)
    refine ⟨H.blk 3 rfl, ?_⟩
    repeat' ((conv => whnf); first | (((with_reducible show Gd _ _ _); first | with_reducible refine Gd.t ?_ | with_reducible refine Gd.f ?_ | with_reducible refine Gd.dec (fun _ => ?_) (fun _ => ?_) | with_reducible refine Gd.beq (fun _ => ?_) (fun _ => ?_) | with_reducible refine Gd.bne (fun _ => ?_) (fun _ => ?_) | with_reducible refine Gd.not ?_ | refine Gd.t ?_ | refine Gd.f ?_ | with_reducible refine Gd.var (fun _ => ?_) (fun _ => ?_)) <;> first | (exfalso; omega) | skip) | with_reducible refine Sq.mk ?_ | ((with_reducible show Ld1 _ _ _); first | refine Ld1.h H ?_ | refine Ld1.rF ?_ | refine Ld1.r ?_) | ((with_reducible show Ld _ _ _ _); first | refine Ld.h H ?_ | refine Ld.r ?_) | ((with_reducible show Ix _ _ _ _ _); (first | refine Ix.h ?_ | refine Ix.ha ?_)) | (refine Al.hp H ?_; clear H; intro _ _ H _) | (refine St.h H ?_; clear H; intro _ H))
    replace H := Hp.swap (Hp.cdsS (H.sel [0, 1, 0, 0, 0, 0] rfl))
    refine ⟨(i + 1, B', d', L ++ [(rdF t, CA, cc)]), ⟨at_int (m := ((i + 1 : Nat) : Int)) rfl (w64 (by simp) (by omega) (by omega)), rfl, rfl, rfl, rfl, trivial⟩, rfl, ⟨by simp only; omega, ?_, ?_⟩, by simp only; omega⟩
    · simp only [hq]; rw [← hL]; simp [fns]
    · simp only [hq, List.length_append, List.length_cons, List.length_nil]
      exact H
  have hi : i = dcN (x :: r) := by omega
  subst hi
  have hQ : dcQ (x :: r) = rdFs s1 (dcN (x :: r)) := by rw [dcQ, ← hs1]; rfl
  rw [← hQ] at H hL
  obtain ⟨A', c', hA', hc', hb'⟩ := H.atC 3 rfl
  replace H := H.upd (c := rr w pr (dcQ (x :: r)).2.1 (dcQ (x :: r)).2.2) (Hp.start (S := (· = pr)) (bk_ok hb') (fun k hk => hk)) rfl (.inl rfl)
  have hd0 : decL (x :: r) s = if (dcQ (x :: r)).2.2 = true ∨ (dcQ (x :: r)).2.1 ≠ [] then (57, []) else if (checkL (dcQ (x :: r)).1).1 ≠ 0 then ((checkL (dcQ (x :: r)).1).1, []) else (0, (dcQ (x :: r)).1) := by
    unfold decL; rw [if_neg (by simpa using hs), if_neg (by simpa [nx] using h0)]
  rw [hd0]
  clear hlt hQ hb' hd0
  generalize dcQ (x :: r) = Q at *
  obtain ⟨fs, rest, bad⟩ := Q
  simp only at H hL ⊢
  cases bad with
  | true =>
    repeat' ((conv => whnf); first | (((with_reducible show Gd _ _ _); first | with_reducible refine Gd.t ?_ | with_reducible refine Gd.f ?_ | with_reducible refine Gd.dec (fun _ => ?_) (fun _ => ?_) | with_reducible refine Gd.beq (fun _ => ?_) (fun _ => ?_) | with_reducible refine Gd.bne (fun _ => ?_) (fun _ => ?_) | with_reducible refine Gd.not ?_ | refine Gd.t ?_ | refine Gd.f ?_ | with_reducible refine Gd.var (fun _ => ?_) (fun _ => ?_)) <;> first | (exfalso; omega) | skip) | with_reducible refine Sq.mk ?_ | ((with_reducible show Ld1 _ _ _); first | refine Ld1.h H ?_ | refine Ld1.rF ?_ | refine Ld1.r ?_) | ((with_reducible show Ld _ _ _ _); first | refine Ld.h H ?_ | refine Ld.r ?_) | ((with_reducible show Ix _ _ _ _ _); (first | refine Ix.h ?_ | refine Ix.ha ?_)) | (refine Al.hp H ?_; clear H; intro _ _ H _) | (refine St.h H ?_; clear H; intro _ H))
    exact Decoded.no H (by rw [if_pos (.inl rfl)])
  | false =>
    cases rest with
    | cons y rest =>
      have hpos : (0 : Int) < ((y :: rest).length : Int) := by rw [List.length_cons]; omega
      repeat' ((conv => whnf); first | (((with_reducible show Gd _ _ _); first | with_reducible refine Gd.t ?_ | with_reducible refine Gd.f ?_ | with_reducible refine Gd.dec (fun _ => ?_) (fun _ => ?_) | with_reducible refine Gd.beq (fun _ => ?_) (fun _ => ?_) | with_reducible refine Gd.bne (fun _ => ?_) (fun _ => ?_) | with_reducible refine Gd.not ?_ | refine Gd.t ?_ | refine Gd.f ?_ | with_reducible refine Gd.var (fun _ => ?_) (fun _ => ?_)) <;> first | (exfalso; omega) | skip) | with_reducible refine Sq.mk ?_ | ((with_reducible show Ld1 _ _ _); first | refine Ld1.h H ?_ | refine Ld1.rF ?_ | refine Ld1.r ?_) | ((with_reducible show Ld _ _ _ _); first | refine Ld.h H ?_ | refine Ld.r ?_) | ((with_reducible show Ix _ _ _ _ _); (first | refine Ix.h ?_ | refine Ix.ha ?_)) | (refine Al.hp H ?_; clear H; intro _ _ H _) | (refine St.h H ?_; clear H; intro _ H))
      exact Decoded.no H (by rw [if_pos (.inr (by simp))])
    | nil =>
      have hz0 : ((([] : List Int).length : Nat) : Int) = 0 := rfl
      rw [if_neg (by simp)]
      repeat' ((conv => whnf); first | (((with_reducible show Gd _ _ _); first | with_reducible refine Gd.t ?_ | with_reducible refine Gd.f ?_ | with_reducible refine Gd.dec (fun _ => ?_) (fun _ => ?_) | with_reducible refine Gd.beq (fun _ => ?_) (fun _ => ?_) | with_reducible refine Gd.bne (fun _ => ?_) (fun _ => ?_) | with_reducible refine Gd.not ?_ | refine Gd.t ?_ | refine Gd.f ?_ | with_reducible refine Gd.var (fun _ => ?_) (fun _ => ?_)) <;> first | (exfalso; omega) | skip) | with_reducible refine Sq.mk ?_ | ((with_reducible show Ld1 _ _ _); first | refine Ld1.h H ?_ | refine Ld1.rF ?_ | refine Ld1.r ?_) | ((with_reducible show Ld _ _ _ _); first | refine Ld.h H ?_ | refine Ld.r ?_) | ((with_reducible show Ix _ _ _ _ _); (first | refine Ix.h ?_ | refine Ix.ha ?_)) | (refine Al.hp H ?_; clear H; intro _ _ H _) | (refine St.h H ?_; clear H; intro _ H))
      (((conv => whnf); refine Cl.mk (Check_c B L d _ (RdS.from H.e hG) ⟨H.rdq 0 rfl, H.atC 1 rfl⟩) ?_); rintro _ _ ⟨rfl, hx⟩; replace H := H.ext hx; clear hx)
      rw [hL]
      ((conv => whnf); refine Al.hp H ?_; clear H; intro p7 _ H _)
      by_cases hz : (checkL fs).1 = 0
      · repeat' ((conv => whnf); first | (((with_reducible show Gd _ _ _); first | with_reducible refine Gd.t ?_ | with_reducible refine Gd.f ?_ | with_reducible refine Gd.dec (fun _ => ?_) (fun _ => ?_) | with_reducible refine Gd.beq (fun _ => ?_) (fun _ => ?_) | with_reducible refine Gd.bne (fun _ => ?_) (fun _ => ?_) | with_reducible refine Gd.not ?_ | refine Gd.t ?_ | refine Gd.f ?_ | with_reducible refine Gd.var (fun _ => ?_) (fun _ => ?_)) <;> first | (exfalso; omega) | skip) | with_reducible refine Sq.mk ?_ | ((with_reducible show Ld1 _ _ _); first | refine Ld1.h H ?_ | refine Ld1.rF ?_ | refine Ld1.r ?_) | ((with_reducible show Ld _ _ _ _); first | refine Ld.h H ?_ | refine Ld.r ?_) | ((with_reducible show Ix _ _ _ _ _); (first | refine Ix.h ?_ | refine Ix.ha ?_)) | (refine Al.hp H ?_; clear H; intro _ _ H _) | (refine St.h H ?_; clear H; intro _ H))
        all_goals first | (exfalso; exact absurd hz (by assumption)) | skip
        all_goals exact ⟨B, d, L, by rw [if_neg (by simpa using hz)]; rfl, by rw [hL, if_neg (by simpa using hz)], H.sel [1, 1] rfl⟩
      · repeat' ((conv => whnf); first | (((with_reducible show Gd _ _ _); first | with_reducible refine Gd.t ?_ | with_reducible refine Gd.f ?_ | with_reducible refine Gd.dec (fun _ => ?_) (fun _ => ?_) | with_reducible refine Gd.beq (fun _ => ?_) (fun _ => ?_) | with_reducible refine Gd.bne (fun _ => ?_) (fun _ => ?_) | with_reducible refine Gd.not ?_ | refine Gd.t ?_ | refine Gd.f ?_ | with_reducible refine Gd.var (fun _ => ?_) (fun _ => ?_)) <;> first | (exfalso; omega) | skip) | with_reducible refine Sq.mk ?_ | ((with_reducible show Ld1 _ _ _); first | refine Ld1.h H ?_ | refine Ld1.rF ?_ | refine Ld1.r ?_) | ((with_reducible show Ld _ _ _ _); first | refine Ld.h H ?_ | refine Ld.r ?_) | ((with_reducible show Ix _ _ _ _ _); (first | refine Ix.h ?_ | refine Ix.ha ?_)) | (refine Al.hp H ?_; clear H; intro _ _ H _) | (refine St.h H ?_; clear H; intro _ H))
        all_goals first | (exfalso; exact absurd (by assumption) hz) | skip
        (conv => whnf)
        refine Dr.ch T.ok mixed [0, 1, 2] [3, 4] (by kernel_rfl) rfl rfl (fun w' => Blk w' p7 48 (fvV (checkL fs)).cells.toList) (fun w1 eT _ => ?_)
        replace H := H.ext eT
        repeat' ((conv => whnf); refine QLd1.own (fun _ hw => hw) ?_)
        (conv => whnf)
        refine ⟨H.blk 0 rfl, ?_⟩
        refine St.h H (fun w2 H => ?_)
        (conv => whnf)
        refine ⟨H.blk 0 rfl, ?_⟩
        repeat' ((conv => whnf); first | (((with_reducible show Gd _ _ _); first | with_reducible refine Gd.t ?_ | with_reducible refine Gd.f ?_ | with_reducible refine Gd.dec (fun _ => ?_) (fun _ => ?_) | with_reducible refine Gd.beq (fun _ => ?_) (fun _ => ?_) | with_reducible refine Gd.bne (fun _ => ?_) (fun _ => ?_) | with_reducible refine Gd.not ?_ | refine Gd.t ?_ | refine Gd.f ?_ | with_reducible refine Gd.var (fun _ => ?_) (fun _ => ?_)) <;> first | (exfalso; omega) | skip) | with_reducible refine Sq.mk ?_ | ((with_reducible show Ld1 _ _ _); first | refine Ld1.h H ?_ | refine Ld1.rF ?_ | refine Ld1.r ?_) | ((with_reducible show Ld _ _ _ _); first | refine Ld.h H ?_ | refine Ld.r ?_) | ((with_reducible show Ix _ _ _ _ _); (first | refine Ix.h ?_ | refine Ix.ha ?_)) | (refine Al.hp H ?_; clear H; intro _ _ H _) | (refine St.h H ?_; clear H; intro _ H))
        refine Decoded.no H ?_
        exact if_pos hz
end Go.Proofs.YtbbadmlekagloaaDoor
namespace Go.Sh
open Go.RowKit
theorem QLd1.rsw {α : Type} {enc : α → List Value} {W : World → Prop} {A : Option Addr} {l : List α} {i : Nat} {x : α} {v : Value} {k : Value → Prop} (h : ∀ w', W w' → RdS enc 1 w' A l) (hk : k v) (hx : l[i]? = some x := by assumption) (hv : (enc x)[0]? = some v := by rfl) : QLd1 W ((gA A).add (i * 1)) k := by
  refine ⟨v, fun w' hw' => ?_, hk⟩
  obtain ⟨vs, h1, h2, h3⟩ := (h w' hw').at_ i x hx
  unfold Fl at h2
  subst h2
  simpa using h3 0 v hv
end Go.Sh
namespace Go.Proofs.YtbbadmlekagloaaDoor
open Go Go.Sh
set_option linter.unusedVariables false
set_option linter.unusedSimpArgs false
attribute [local irreducible] Blk Ext RdS
/-- what reading in place gives, by the words behind the first -/
def whl (r : List Int) : Option (List Fn) := if (rdFs (cS 32 (r, false)) (cntOf 32 r).toNat).2.2 = true ∨ (rdFs (cS 32 (r, false)) (cntOf 32 r).toNat).2.1 ≠ [] then none else some (rdFs (cS 32 (r, false)) (cntOf 32 r).toNat).1
theorem wholeL_eq (m : List Int) : wholeL m = whl m.tail := rfl
theorem whl_bad {r : List Int} {i : Nat} (h : (rdFs (cS 32 (r, false)) i).2.2 = true) (hi : i ≤ (cntOf 32 r).toNat) : whl r = none := by
  unfold whl
  rw [if_pos (.inl (rdFs_bad h hi))]
theorem drop_four {r : List Int} {a : Nat} (h : a + 4 ≤ r.length) : ∃ x y z n, r[a]? = some x ∧ r[a + 1]? = some y ∧ r[a + 2]? = some z ∧ r[a + 3]? = some n ∧ r.drop a = x :: y :: z :: n :: r.drop (a + 4) := by
  have g : ∀ (j : Nat) (hj : j < r.length), r.drop j = r[j] :: r.drop (j + 1) := fun j hj => List.drop_eq_getElem_cons hj
  refine ⟨r[a], r[a + 1], r[a + 2], r[a + 3], List.getElem?_eq_getElem _, List.getElem?_eq_getElem _, List.getElem?_eq_getElem _, List.getElem?_eq_getElem _, ?_⟩
  rw [g a (by omega), g (a + 1) (by omega), g (a + 2) (by omega), g (a + 3) (by omega)]
def Wholed (r : List Int) (w : World) (v : Value) (w' : World) : Prop := ∃ B c L, v = .tuple #[pv B L.length c, .bool (whl r).isSome] ∧ (∀ fs, whl r = some fs → fns L = fs) ∧ Hp nw w w' [qu FE.enc 4 24 B c L, cds L]
theorem Wholed.no {r : List Int} {w w' : World} {B : Option Addr} {c : Nat} {L : List FE} (h : whl r = none) (H : Hp nw w w' [qu FE.enc 4 24 B c L, cds L]) : Wholed r w (.tuple #[pv B L.length c, .bool false]) w' := ⟨B, c, L, by rw [h]; rfl, fun fs hf => by rw [h] at hf; simp at hf, H⟩
set_option maxHeartbeats 2000000 in
theorem whole_c (A : Option Addr) (c : Nat) (r : List Int) (w : World) (hA : RdS ints 1 w A r) (h1 : 1 ≤ r.length) (h2 : r.length ≤ 9223372036854770000) :
    Cl Tryd.prog 73 #[.slice A r.length c] w (Wholed r w) (fun _ _ => False) := by
  obtain ⟨n0, hn0⟩ : ∃ x, r[0]? = some x := ⟨_, List.getElem?_eq_getElem (by omega)⟩
  obtain ⟨n0', r', rfl⟩ := List.exists_cons_of_length_pos (show 0 < r.length by omega)
  have hn0' : n0' = n0 := by simpa using hn0
  subst hn0'
  refine calls_ex (args := [.slice A (n0' :: r').length c]) T.ok Tryd.func73 rfl rfl rfl rfl ?_
  have H := Hp.begin nw w
  refine Sq.mk ?_
  ((conv => whnf); refine Al.hp H ?_; clear H; intro p2 _ H _)
  repeat' ((conv => whnf); first | (((with_reducible show Gd _ _ _); first | with_reducible refine Gd.t ?_ | with_reducible refine Gd.f ?_ | with_reducible refine Gd.dec (fun _ => ?_) (fun _ => ?_) | with_reducible refine Gd.beq (fun _ => ?_) (fun _ => ?_) | with_reducible refine Gd.bne (fun _ => ?_) (fun _ => ?_) | with_reducible refine Gd.not ?_ | refine Gd.t ?_ | refine Gd.f ?_ | with_reducible refine Gd.var (fun _ => ?_) (fun _ => ?_)) <;> first | (exfalso; omega) | skip) | with_reducible refine Sq.mk ?_ | ((with_reducible show Ld1 _ _ _); first | refine Ld1.h H ?_ | refine Ld1.rF ?_ | refine Ld1.r ?_) | ((with_reducible show Ld _ _ _ _); first | refine Ld.h H ?_ | refine Ld.r ?_) | ((with_reducible show Ix _ _ _ _ _); (first | refine Ix.h ?_ | refine Ix.ha ?_)) | (refine St.h H ?_; clear H; intro _ H))
  ((conv => whnf); refine Al.hp H ?_; clear H; intro p4 _ H _)
  by_cases hb : n0' < 1 ∨ 32 < n0'
  · have hbad : whl (n0' :: r') = none := whl_bad (i := 0) (by
      show (false || cntBad 32 (n0' :: r')) = true
      have : decide (nx (n0' :: r') < 1 ∨ 32 < nx (n0' :: r')) = true := decide_eq_true hb
      simp only [cntBad, this, Bool.or_true]) (Nat.zero_le _)
    repeat' ((conv => whnf); first | (((with_reducible show Gd _ _ _); first | with_reducible refine Gd.t ?_ | with_reducible refine Gd.f ?_ | with_reducible refine Gd.dec (fun _ => ?_) (fun _ => ?_) | with_reducible refine Gd.beq (fun _ => ?_) (fun _ => ?_) | with_reducible refine Gd.bne (fun _ => ?_) (fun _ => ?_) | with_reducible refine Gd.not ?_ | refine Gd.t ?_ | refine Gd.f ?_ | with_reducible refine Gd.var (fun _ => ?_) (fun _ => ?_)) <;> first | (exfalso; omega) | skip) | with_reducible refine Sq.mk ?_ | ((with_reducible show Ld1 _ _ _); first | refine Ld1.h H ?_ | refine Ld1.rF ?_ | refine Ld1.r ?_) | ((with_reducible show Ld _ _ _ _); first | refine Ld.h H ?_ | refine Ld.r ?_) | ((with_reducible show Ix _ _ _ _ _); (first | refine Ix.h ?_ | refine Ix.ha ?_)) | (refine Al.hp H ?_; clear H; intro _ _ H _) | (refine St.h H ?_; clear H; intro _ H))
    all_goals first | (exfalso; omega) | skip
    all_goals exact Wholed.no (L := []) hbad (Hp.nil (Hp.cds0 H.non) FE.enc 4 24)
  obtain ⟨N, rfl⟩ : ∃ N : Nat, n0' = N := ⟨n0'.toNat, by omega⟩
  have hN : 1 ≤ N ∧ N ≤ 32 := by omega
  obtain ⟨cn1, cn2⟩ := cnt_in (mx := 32) (x := (N : Int)) (r := r') (by omega) (by omega)
  have hs1 : cS 32 ((N : Int) :: r', false) = (r', false) := by
    show (r', false || cntBad 32 ((N : Int) :: r')) = _
    rw [cn2]; rfl
  have hcn : (cntOf 32 ((N : Int) :: r')).toNat = N := by rw [cn1]; simp
  generalize hr : (N : Int) :: r' = r at *
  have hd1 : r.drop 1 = r' := by rw [← hr]; rfl
  replace H := Hp.nil (Hp.cds0 H) FE.enc 4 24
  repeat' ((conv => whnf); first | (((with_reducible show Gd _ _ _); first | with_reducible refine Gd.t ?_ | with_reducible refine Gd.f ?_ | with_reducible refine Gd.dec (fun _ => ?_) (fun _ => ?_) | with_reducible refine Gd.beq (fun _ => ?_) (fun _ => ?_) | with_reducible refine Gd.bne (fun _ => ?_) (fun _ => ?_) | with_reducible refine Gd.not ?_ | refine Gd.t ?_ | refine Gd.f ?_ | with_reducible refine Gd.var (fun _ => ?_) (fun _ => ?_)) <;> first | (exfalso; omega) | skip) | with_reducible refine Sq.mk ?_ | ((with_reducible show Ld1 _ _ _); first | refine Ld1.h H ?_ | refine Ld1.rF ?_ | refine Ld1.r ?_) | ((with_reducible show Ld _ _ _ _); first | refine Ld.h H ?_ | refine Ld.r ?_) | ((with_reducible show Ix _ _ _ _ _); (first | refine Ix.h ?_ | refine Ix.ha ?_)) | (refine Al.hp H ?_; clear H; intro _ _ H _) | (refine St.h H ?_; clear H; intro _ H))
  all_goals first | (exfalso; omega) | skip
  refine Lp.g0 T.ok (σ := Nat × Nat × Option Addr × Nat × List FE) (fun q => [(6, .int .i64 (q.1 : Int)), (5, .int .i64 (q.2.1 : Int)), (4, .pointer (some ⟨p4, 0, none⟩)), (2, .pointer (some ⟨p2, 0, none⟩)), (0, .slice A r.length c)])
    (fun q w' => q.1 ≤ N ∧ 1 ≤ q.2.1 ∧ q.2.1 ≤ r.length ∧ rdFs (r', false) q.1 = (fns q.2.2.2.2, (r.drop q.2.1, false)) ∧ Hp nw w w' [qu FE.enc 4 24 q.2.2.1 q.2.2.2.1 q.2.2.2.2, cds q.2.2.2.2, bk p4 46 (pv q.2.2.1 q.2.2.2.2.length q.2.2.2.1).cells.toList, bk p2 46 T.t46.zero.cells.toList]) (fun q _ => N - q.1) (0, 1, none, 0, []) rfl ⟨rfl, rfl, rfl, rfl, rfl, trivial⟩ ⟨Nat.zero_le _, Nat.le_refl _, h1, by rw [hd1]; rfl, H⟩ ?_
  clear H
  rintro ⟨i, at0, B, d, L⟩ w5 ⟨hi, ha1, ha2, hL, H⟩
  simp only at hi ha1 ha2 hL H ⊢
  have hil : L.length = i := by rw [← fns_len, ← rdFs_len (r', false) i, hL]
  have hA5 := RdS.from H.e hA
  by_cases hlt : i < N
  case neg =>
    have hi : i = N := by omega
    subst hi
    have hwh : whl r = if r.drop at0 ≠ [] then none else some (fns L) := by
      unfold whl
      rw [hs1, hcn, hL]
      simp
    by_cases hend : at0 = r.length
    · rw [if_neg (by rw [hend, List.drop_length]; simp)] at hwh
      repeat' ((conv => whnf); first | (((with_reducible show Gd _ _ _); first | with_reducible refine Gd.t ?_ | with_reducible refine Gd.f ?_ | with_reducible refine Gd.dec (fun _ => ?_) (fun _ => ?_) | with_reducible refine Gd.beq (fun _ => ?_) (fun _ => ?_) | with_reducible refine Gd.bne (fun _ => ?_) (fun _ => ?_) | with_reducible refine Gd.not ?_ | refine Gd.t ?_ | refine Gd.f ?_ | with_reducible refine Gd.var (fun _ => ?_) (fun _ => ?_)) <;> first | (exfalso; omega) | skip) | with_reducible refine Sq.mk ?_ | ((with_reducible show Ld1 _ _ _); first | refine Ld1.h H ?_ | refine Ld1.rF ?_ | refine Ld1.r ?_) | ((with_reducible show Ld _ _ _ _); first | refine Ld.h H ?_ | refine Ld.r ?_) | ((with_reducible show Ix _ _ _ _ _); (first | refine Ix.h ?_ | refine Ix.ha ?_)) | (refine Al.hp H ?_; clear H; intro _ _ H _) | (refine St.h H ?_; clear H; intro _ H))
      refine ⟨B, d, L, ?_, fun fs hf => by rw [hwh] at hf; simpa using hf, H.sel [0, 0] rfl⟩
      show Value.tuple #[pv B L.length d, .bool ((at0 : Int) == (r.length : Int))] = _
      rw [hwh, hend, beq_self_eq_true]; rfl
    · rw [if_pos (by intro he; have := List.drop_eq_nil_iff.1 he; omega)] at hwh
      repeat' ((conv => whnf); first | (((with_reducible show Gd _ _ _); first | with_reducible refine Gd.t ?_ | with_reducible refine Gd.f ?_ | with_reducible refine Gd.dec (fun _ => ?_) (fun _ => ?_) | with_reducible refine Gd.beq (fun _ => ?_) (fun _ => ?_) | with_reducible refine Gd.bne (fun _ => ?_) (fun _ => ?_) | with_reducible refine Gd.not ?_ | refine Gd.t ?_ | refine Gd.f ?_ | with_reducible refine Gd.var (fun _ => ?_) (fun _ => ?_)) <;> first | (exfalso; omega) | skip) | with_reducible refine Sq.mk ?_ | ((with_reducible show Ld1 _ _ _); first | refine Ld1.h H ?_ | refine Ld1.rF ?_ | refine Ld1.r ?_) | ((with_reducible show Ld _ _ _ _); first | refine Ld.h H ?_ | refine Ld.r ?_) | ((with_reducible show Ix _ _ _ _ _); (first | refine Ix.h ?_ | refine Ix.ha ?_)) | (refine Al.hp H ?_; clear H; intro _ _ H _) | (refine St.h H ?_; clear H; intro _ H))
      have H2 := Wholed.no hwh (H.sel [0, 0] rfl)
      have hbf : ((at0 : Int) == (r.length : Int)) = false := beq_eq_false_iff_ne.2 (by omega)
      rw [← hbf] at H2
      exact H2
  have hwa4 : IntKind.i64.wrap ((at0 : Int) + 4) = ((at0 + 4 : Nat) : Int) := w64 rfl (by omega) (by omega)
  have hbadN : (nF (r.drop at0, false)).2 = true → whl r = none := fun h => by
    refine whl_bad (i := i + 1) ?_ (by omega)
    rw [hs1]
    show (nF (rdFs (r', false) i).2).2 = true
    rw [hL]; exact h
  by_cases ha4 : at0 + 4 ≤ r.length
  case neg =>
    have hbad := hbadN (nF_bad fun a b c n t hF _ => by
      have := congrArg List.length hF.eq
      simp only [List.length_drop, List.length_cons] at this
      omega)
    repeat' ((conv => whnf); first | (((with_reducible show Gd _ _ _); first | with_reducible refine Gd.t ?_ | with_reducible refine Gd.f ?_ | with_reducible refine Gd.dec (fun _ => ?_) (fun _ => ?_) | with_reducible refine Gd.beq (fun _ => ?_) (fun _ => ?_) | with_reducible refine Gd.bne (fun _ => ?_) (fun _ => ?_) | with_reducible refine Gd.not ?_ | refine Gd.t ?_ | refine Gd.f ?_ | with_reducible refine Gd.var (fun _ => ?_) (fun _ => ?_)) <;> first | (exfalso; omega) | skip) | with_reducible refine Sq.mk ?_ | ((with_reducible show Ld1 _ _ _); first | refine Ld1.h H ?_ | refine Ld1.rF ?_ | refine Ld1.r ?_) | ((with_reducible show Ld _ _ _ _); first | refine Ld.h H ?_ | refine Ld.r ?_) | ((with_reducible show Ix _ _ _ _ _); (first | refine Ix.h ?_ | refine Ix.ha ?_)) | (refine Al.hp H ?_; clear H; intro _ _ H _) | (refine St.h H ?_; clear H; intro _ H))
    all_goals first | (exfalso; omega) | skip
    all_goals exact Wholed.no hbad (H.sel [0, 0] rfl)
  obtain ⟨fa, fb, fc, fn, q0, q1, q2, q3, hdr⟩ := drop_four ha4
  have hwa1 : IntKind.i64.wrap ((at0 : Int) + 1) = ((at0 + 1 : Nat) : Int) := w64 rfl (by omega) (by omega)
  have hwa2 : IntKind.i64.wrap ((at0 : Int) + 2) = ((at0 + 2 : Nat) : Int) := w64 rfl (by omega) (by omega)
  have hwa3 : IntKind.i64.wrap ((at0 : Int) + 3) = ((at0 + 3 : Nat) : Int) := w64 rfl (by omega) (by omega)
  by_cases hfn : 1 ≤ fn ∧ fn ≤ 512
  case neg =>
    have hbad := hbadN (nF_bad fun a b c n t hF _ => by
      have he := hF.eq
      rw [hdr] at he
      simp only [List.cons.injEq] at he
      have := hF.lo
      have := hF.hi
      omega)
    repeat' ((conv => whnf); first | (((with_reducible show Gd _ _ _); first | with_reducible refine Gd.t ?_ | with_reducible refine Gd.f ?_ | with_reducible refine Gd.dec (fun _ => ?_) (fun _ => ?_) | with_reducible refine Gd.beq (fun _ => ?_) (fun _ => ?_) | with_reducible refine Gd.bne (fun _ => ?_) (fun _ => ?_) | with_reducible refine Gd.not ?_ | refine Gd.t ?_ | refine Gd.f ?_ | with_reducible refine Gd.var (fun _ => ?_) (fun _ => ?_)) <;> first | (exfalso; omega) | skip) | with_reducible refine Sq.mk ?_ | ((with_reducible show Ld1 _ _ _); first | refine Ld1.h H ?_ | refine Ld1.rF ?_ | refine Ld1.r ?_) | ((with_reducible show Ld _ _ _ _); first | refine Ld.h H ?_ | refine Ld.r ?_) | ((with_reducible show Ix _ _ _ _ _); (first | refine Ix.h ?_ | refine Ix.ha ?_)) | (refine Al.hp H ?_; clear H; intro _ _ H _) | (refine St.h H ?_; clear H; intro _ H))
    all_goals first | (exfalso; omega) | skip
    all_goals exact Wholed.no hbad (H.sel [0, 0] rfl)
  have hF : FnAtW (r.drop at0) fa fb fc fn (r.drop (at0 + 4)) := ⟨hdr, hfn.1, hfn.2⟩
  obtain ⟨m, rfl⟩ : ∃ m : Nat, fn = m := ⟨fn.toNat, by omega⟩
  have hm : 1 ≤ m ∧ m ≤ 512 := by omega
  have hw5 : IntKind.i64.wrap (5 * (m : Int)) = ((5 * m : Nat) : Int) := w64 (by omega) (by omega) (by omega)
  have hw45 : IntKind.i64.wrap (((at0 + 4 : Nat) : Int) + ((5 * m : Nat) : Int)) = ((at0 + 4 + 5 * m : Nat) : Int) := w64 (by omega) (by omega) (by omega)
  repeat' ((conv => whnf); first | (((with_reducible show Gd _ _ _); first | with_reducible refine Gd.t ?_ | with_reducible refine Gd.f ?_ | with_reducible refine Gd.dec (fun _ => ?_) (fun _ => ?_) | with_reducible refine Gd.beq (fun _ => ?_) (fun _ => ?_) | with_reducible refine Gd.bne (fun _ => ?_) (fun _ => ?_) | with_reducible refine Gd.not ?_ | refine Gd.t ?_ | refine Gd.f ?_ | with_reducible refine Gd.var (fun _ => ?_) (fun _ => ?_)) <;> first | (exfalso; omega) | skip) | with_reducible refine Sq.mk ?_ | ((with_reducible show Ld1 _ _ _); first | refine Ld1.h H ?_ | refine Ld1.rF ?_ | refine Ld1.r ?_) | ((with_reducible show Ld _ _ _ _); first | refine Ld.h H ?_ | refine Ld.r ?_) | ((with_reducible show Ix _ _ _ _ _); (first | refine Ix.h ?_ | refine Ix.ha ?_)) | (refine St.h H ?_; clear H; intro _ H))
  all_goals first | (exfalso; omega) | skip
  ((conv => whnf); refine Dr.al T.ok mixed 15 (by kernel_rfl) rfl rfl rfl rfl rfl rfl rfl rfl (fun W hW => ?_))
  repeat' ((conv => whnf); first | (((with_reducible show Gd _ _ _); first | with_reducible refine Gd.t ?_ | with_reducible refine Gd.f ?_ | with_reducible refine Gd.dec (fun _ => ?_) (fun _ => ?_) | with_reducible refine Gd.beq (fun _ => ?_) (fun _ => ?_) | with_reducible refine Gd.bne (fun _ => ?_) (fun _ => ?_) | with_reducible refine Gd.not ?_ | refine Gd.t ?_ | refine Gd.f ?_ | with_reducible refine Gd.var (fun _ => ?_) (fun _ => ?_)) <;> first | (exfalso; omega) | skip) | ((with_reducible show QLd1 _ _ _); first | refine QLd1.h hW H ?_ | refine QLd1.rF hW ?_ | refine QLd1.r hW ?_) | ((with_reducible show QLd _ _ _ _); first | refine QLd.h hW H ?_ | refine QLd.r hW ?_) | ((with_reducible show Ix _ _ _ _ _); (first | refine Ix.h ?_ | refine Ix.ha ?_)))
  (intro p8 _ hlo eT hbT; replace H := H.fr0 (Hp.one (Tch.of_ext eT) (bk_ok hbT) (fun k hk => .inr (by subst hk; exact hlo))) (.inl rfl); clear hbT eT hW)
  rw [← hwa4] at hw45
  rw [← hw5] at hw45
  by_cases h5 : at0 + 4 + 5 * m ≤ r.length
  case neg =>
    have hbad := hbadN (nF_bad fun a b c n t hF' ht => by
      have he := hF'.eq
      rw [hdr] at he
      simp only [List.cons.injEq] at he
      obtain ⟨_, _, _, rfl, rfl⟩ := he
      rw [List.length_drop] at ht
      simp at ht
      omega)
    repeat' ((conv => whnf); first | (((with_reducible show Gd _ _ _); first | with_reducible refine Gd.t ?_ | with_reducible refine Gd.f ?_ | with_reducible refine Gd.dec (fun _ => ?_) (fun _ => ?_) | with_reducible refine Gd.beq (fun _ => ?_) (fun _ => ?_) | with_reducible refine Gd.bne (fun _ => ?_) (fun _ => ?_) | with_reducible refine Gd.not ?_ | refine Gd.t ?_ | refine Gd.f ?_ | with_reducible refine Gd.var (fun _ => ?_) (fun _ => ?_)) <;> first | (exfalso; omega) | skip) | with_reducible refine Sq.mk ?_ | ((with_reducible show Ld1 _ _ _); first | refine Ld1.h H ?_ | refine Ld1.rF ?_ | refine Ld1.r ?_) | ((with_reducible show Ld _ _ _ _); first | refine Ld.h H ?_ | refine Ld.r ?_) | ((with_reducible show Ix _ _ _ _ _); (first | refine Ix.h ?_ | refine Ix.ha ?_)) | (refine Al.hp H ?_; clear H; intro _ _ H _) | (refine St.h H ?_; clear H; intro _ H))
    all_goals first | (exfalso; omega) | skip
    all_goals exact Wholed.no hbad (H.sel [1, 1] rfl)
  repeat' ((conv => whnf); first | (((with_reducible show Gd _ _ _); first | with_reducible refine Gd.t ?_ | with_reducible refine Gd.f ?_ | with_reducible refine Gd.dec (fun _ => ?_) (fun _ => ?_) | with_reducible refine Gd.beq (fun _ => ?_) (fun _ => ?_) | with_reducible refine Gd.bne (fun _ => ?_) (fun _ => ?_) | with_reducible refine Gd.not ?_ | refine Gd.t ?_ | refine Gd.f ?_ | with_reducible refine Gd.var (fun _ => ?_) (fun _ => ?_)) <;> first | (exfalso; omega) | skip) | with_reducible refine Sq.mk ?_ | ((with_reducible show Ld1 _ _ _); first | refine Ld1.h H ?_ | refine Ld1.rF ?_ | refine Ld1.r ?_) | ((with_reducible show Ld _ _ _ _); first | refine Ld.h H ?_ | refine Ld.r ?_) | ((with_reducible show Ix _ _ _ _ _); (first | refine Ix.h ?_ | refine Ix.ha ?_)) | (refine Al.hp H ?_; clear H; intro _ _ H _) | (refine St.h H ?_; clear H; intro _ H))
  all_goals first | (exfalso; omega) | skip
  have hfix : ∀ w', Hp nw w w' [bk p8 24 [.int .i64 fa, .int .i64 fb, .int .i64 fc, .slice none 0 0], qu FE.enc 4 24 B d L, cds L, bk p4 46 (pv B L.length d).cells.toList, bk p2 46 T.t46.zero.cells.toList] → Hp nw w w' [bk p8 24 [.int .i64 fa, .int .i64 fb, .int .i64 fc, .slice none 0 0], qu FE.enc 4 24 B d L, cds L, bk p4 46 (pv B L.length d).cells.toList, bk p2 46 T.t46.zero.cells.toList] := fun _ h => h
  replace H := hfix _ H
  clear hfix
  replace H := Hp.nil H Ins.enc 5 35
  have htl : (r.drop (at0 + 4)).length = r.length - (at0 + 4) := List.length_drop
  refine Lp.g0 T.ok (σ := Nat × Option Addr × Nat) (fun q => [(9, .int .i64 (q.1 : Int)), (8, .pointer (some ⟨p8, 0, none⟩)), (7, .int .i64 (m : Int)), (6, .int .i64 (i : Int)), (5, .int .i64 ((at0 + 4 + 5 * q.1 : Nat) : Int)), (4, .pointer (some ⟨p4, 0, none⟩)), (2, .pointer (some ⟨p2, 0, none⟩)), (0, .slice A r.length c)])
    (fun q w' => q.1 ≤ m ∧ Hp nw w w' [qu Ins.enc 5 35 q.2.1 q.2.2 (rdIs (r.drop (at0 + 4), false) q.1).1, bk p8 24 [.int .i64 fa, .int .i64 fb, .int .i64 fc, .slice q.2.1 (rdIs (r.drop (at0 + 4), false) q.1).1.length q.2.2], qu FE.enc 4 24 B d L, cds L, bk p4 46 (pv B L.length d).cells.toList, bk p2 46 T.t46.zero.cells.toList]) (fun q _ => m - q.1) (0, none, 0) rfl ⟨rfl, rfl, rfl, rfl, at_int rfl hwa4, rfl, rfl, rfl, trivial⟩ ⟨Nat.zero_le _, H⟩ ?_
  clear H
  rintro ⟨k, CA, cc⟩ w6 ⟨hk, H⟩
  simp only at hk H ⊢
  have hkl := rdIs_len (r.drop (at0 + 4), false) k
  by_cases hkm : k < m
  · obtain ⟨e, he⟩ : ∃ e, e = at0 + 4 + 5 * k := ⟨_, rfl⟩
    have hx : ∀ j, j < 5 → ∃ x, r[e + j]? = some x ∧ (r.drop (at0 + 4))[5 * k + j]? = some x := fun j hj => ⟨_, List.getElem?_eq_getElem (by omega), by rw [List.getElem?_drop, show at0 + 4 + (5 * k + j) = e + j by omega]; exact List.getElem?_eq_getElem (by omega)⟩
    obtain ⟨x1, g1, d1⟩ := hx 0 (by omega)
    obtain ⟨x2, g2, d2⟩ := hx 1 (by omega)
    obtain ⟨x3, g3, d3⟩ := hx 2 (by omega)
    obtain ⟨x4, g4, d4⟩ := hx 3 (by omega)
    obtain ⟨x5, g5, d5⟩ := hx 4 (by omega)
    have hnx := rdIs_at (t := r.drop (at0 + 4)) (k := k) (by omega) d1 d2 d3 d4 d5
    have hwe1 : IntKind.i64.wrap ((e : Int) + 1) = ((e + 1 : Nat) : Int) := w64 rfl (by omega) (by omega)
    have hwe2 : IntKind.i64.wrap ((e : Int) + 2) = ((e + 2 : Nat) : Int) := w64 rfl (by omega) (by omega)
    have hwe3 : IntKind.i64.wrap ((e : Int) + 3) = ((e + 3 : Nat) : Int) := w64 rfl (by omega) (by omega)
    have hwe4 : IntKind.i64.wrap ((e : Int) + 4) = ((e + 4 : Nat) : Int) := w64 rfl (by omega) (by omega)
    have hwe5 : IntKind.i64.wrap ((e : Int) + 5) = ((at0 + 4 + 5 * (k + 1) : Nat) : Int) := w64 (by omega) (by omega) (by omega)
    have he1 : e < r.length := by omega
    have he2 : e + 1 < r.length := by omega
    have he3 : e + 2 < r.length := by omega
    have he4 : e + 3 < r.length := by omega
    have he5 : e + 4 < r.length := by omega
    rw [Nat.add_zero] at g1
    rw [← he]
    generalize hl0 : (rdIs (r.drop (at0 + 4), false) k).1 = l0 at *
    repeat' ((conv => whnf); first | (((with_reducible show Gd _ _ _); first | with_reducible refine Gd.t ?_ | with_reducible refine Gd.f ?_ | with_reducible refine Gd.dec (fun _ => ?_) (fun _ => ?_) | with_reducible refine Gd.beq (fun _ => ?_) (fun _ => ?_) | with_reducible refine Gd.bne (fun _ => ?_) (fun _ => ?_) | with_reducible refine Gd.not ?_ | refine Gd.t ?_ | refine Gd.f ?_ | with_reducible refine Gd.var (fun _ => ?_) (fun _ => ?_)) <;> first | (exfalso; omega) | skip) | with_reducible refine Sq.mk ?_ | ((with_reducible show Ld1 _ _ _); first | refine Ld1.h H ?_ | refine Ld1.rF ?_ | refine Ld1.r ?_) | ((with_reducible show Ld _ _ _ _); first | refine Ld.h H ?_ | refine Ld.r ?_) | ((with_reducible show Ix _ _ _ _ _); (first | refine Ix.h ?_ | refine Ix.ha ?_)) | (refine Al.hp H ?_; clear H; intro _ _ H _) | (refine St.h H ?_; clear H; intro _ H))
    (conv => whnf)
    refine Dr.ch T.ok mixed [0, 1, 2, 3, 4, 5, 6, 7, 8, 9, 10, 11, 12, 13, 14, 15, 16, 17, 18, 19, 20, 21, 22, 23, 24, 25, 26, 29] [27, 28, 30] (by kernel_rfl) rfl rfl (fun w' => Blk w' p8 24 [.int .i64 fa, .int .i64 fb, .int .i64 fc, .slice CA l0.length cc] ∧ RdS ints 1 w' A r) (fun w1 eT _ => ?_)
    replace H := H.ext eT
    repeat' ((conv => whnf); first | (first | refine Ix.h ?_ | refine Ix.ha ?_) | refine QLd1.own (fun _ hw => hw.1) ?_ | refine QLd1.rsw (fun _ hw => hw.2) ?_)
    (conv => whnf)
    refine ⟨⟨H.blk 1 rfl, RdS.from H.e hA⟩, ?_⟩
    refine Sm.lith (cs := Ins.enc ⟨x1, x2, x3, x4, x5⟩) H T.ok (fun p5 w2 H _ => ?_)
    (conv => whnf)
    refine ⟨⟨H.blk 2 rfl, RdS.from H.e hA⟩, ?_⟩
    refine Sm.ap1 (enc := Ins.enc) ⟨x1, x2, x3, x4, x5⟩ H T.ok ?_ ?_ (fun CA' cc' w3 H => ?_)
    · show (l0.length + 1) * 40 ≤ _; omega
    · omega
    simp only [List.cons_append, List.nil_append] at H
    (conv => whnf)
    refine ⟨⟨H.blk 1 rfl, RdS.from H.e hA⟩, ?_⟩
    repeat' ((conv => whnf); first | (((with_reducible show Gd _ _ _); first | with_reducible refine Gd.t ?_ | with_reducible refine Gd.f ?_ | with_reducible refine Gd.dec (fun _ => ?_) (fun _ => ?_) | with_reducible refine Gd.beq (fun _ => ?_) (fun _ => ?_) | with_reducible refine Gd.bne (fun _ => ?_) (fun _ => ?_) | with_reducible refine Gd.not ?_ | refine Gd.t ?_ | refine Gd.f ?_ | with_reducible refine Gd.var (fun _ => ?_) (fun _ => ?_)) <;> first | (exfalso; omega) | skip) | with_reducible refine Sq.mk ?_ | ((with_reducible show Ld1 _ _ _); first | refine Ld1.h H ?_ | refine Ld1.rF ?_ | refine Ld1.r ?_) | ((with_reducible show Ld _ _ _ _); first | refine Ld.h H ?_ | refine Ld.r ?_) | ((with_reducible show Ix _ _ _ _ _); (first | refine Ix.h ?_ | refine Ix.ha ?_)) | (refine Al.hp H ?_; clear H; intro _ _ H _) | (refine St.h H ?_; clear H; intro _ H))
    refine ⟨(k + 1, CA', cc'), ⟨at_int (m := ((k + 1 : Nat) : Int)) rfl (w64 (by simp) (by omega) (by omega)), rfl, rfl, rfl, at_int rfl hwe5, rfl, rfl, rfl, trivial⟩, rfl, ⟨by simp only; omega, ?_⟩, by simp only; omega⟩
    simp only [hnx, List.length_append, List.length_cons, List.length_nil]
    exact H
  · have hk : k = m := by omega
    subst hk
    obtain ⟨hrd1, hrd2⟩ := hF.rd (by simp only [Int.toNat_natCast]; omega)
    simp only [Int.toNat_natCast] at hrd1 hrd2
    repeat' ((conv => whnf); first | (((with_reducible show Gd _ _ _); first | with_reducible refine Gd.t ?_ | with_reducible refine Gd.f ?_ | with_reducible refine Gd.dec (fun _ => ?_) (fun _ => ?_) | with_reducible refine Gd.beq (fun _ => ?_) (fun _ => ?_) | with_reducible refine Gd.bne (fun _ => ?_) (fun _ => ?_) | with_reducible refine Gd.not ?_ | refine Gd.t ?_ | refine Gd.f ?_ | with_reducible refine Gd.var (fun _ => ?_) (fun _ => ?_)) <;> first | (exfalso; omega) | skip) | with_reducible refine Sq.mk ?_ | ((with_reducible show Ld1 _ _ _); first | refine Ld1.h H ?_ | refine Ld1.rF ?_ | refine Ld1.r ?_) | ((with_reducible show Ld _ _ _ _); first | refine Ld.h H ?_ | refine Ld.r ?_) | ((with_reducible show Ix _ _ _ _ _); (first | refine Ix.h ?_ | refine Ix.ha ?_)) | (refine Al.hp H ?_; clear H; intro _ _ H _) | (refine St.h H ?_; clear H; intro _ H))
    generalize hl0 : (rdIs (r.drop (at0 + 4), false) k).1 = l0 at *
    refine Sm.lith (cs := FE.enc (⟨fa, fb, fc, l0⟩, CA, cc)) H T.ok (fun p5 w3 H _ => ?_)
    refine Sm.ap1 (enc := FE.enc) (⟨fa, fb, fc, l0⟩, CA, cc) H T.ok ?_ ?_ (fun B' d' w4 H => ?_)
    · show (L.length + 1) * 48 ≤ _; omega
    · omega
    simp only [List.cons_append, List.nil_append] at H
    repeat' ((conv => whnf); first | (((with_reducible show Gd _ _ _); first | with_reducible refine Gd.t ?_ | with_reducible refine Gd.f ?_ | with_reducible refine Gd.dec (fun _ => ?_) (fun _ => ?_) | with_reducible refine Gd.beq (fun _ => ?_) (fun _ => ?_) | with_reducible refine Gd.bne (fun _ => ?_) (fun _ => ?_) | with_reducible refine Gd.not ?_ | refine Gd.t ?_ | refine Gd.f ?_ | with_reducible refine Gd.var (fun _ => ?_) (fun _ => ?_)) <;> first | (exfalso; omega) | skip) | with_reducible refine Sq.mk ?_ | ((with_reducible show Ld1 _ _ _); first | refine Ld1.h H ?_ | refine Ld1.rF ?_ | refine Ld1.r ?_) | ((with_reducible show Ld _ _ _ _); first | refine Ld.h H ?_ | refine Ld.r ?_) | ((with_reducible show Ix _ _ _ _ _); (first | refine Ix.h ?_ | refine Ix.ha ?_)) | (refine Al.hp H ?_; clear H; intro _ _ H _) | (refine St.h H ?_; clear H; intro _ H))
    refine ⟨(i + 1, at0 + 4 + 5 * k, B', d', L ++ [(⟨fa, fb, fc, l0⟩, CA, cc)]), ⟨at_int (m := ((i + 1 : Nat) : Int)) rfl (w64 (by simp) (by omega) (by omega)), rfl, rfl, rfl, rfl, trivial⟩, rfl, ⟨by simp only; omega, by simp only; omega, by simp only; omega, ?_, ?_⟩, by simp only; omega⟩
    · show ((rdFs (r', false) i).1 ++ [rdF (rdFs (r', false) i).2], nF (rdFs (r', false) i).2) = _
      rw [hL]
      simp only
      rw [hrd1, hrd2, List.drop_drop]
      simp [fns]
    · simp only [List.length_append, List.length_cons, List.length_nil]
      exact Hp.swap (Hp.cdsS (f := ⟨fa, fb, fc, l0⟩) (H.sel [0, 2, 1, 1, 1] rfl))
end Go.Proofs.YtbbadmlekagloaaDoor
namespace Go.Proofs.YtbbadmlekagloaaDoor
open Go Go.Sh
set_option linter.unusedVariables false
set_option linter.unusedSimpArgs false
attribute [local irreducible] Blk Ext RdS
/-- Decode of any words -/
noncomputable def decA (l : List Int) : Int × List Fn := if l.length < 3 then (57, []) else decL l.dropLast (l.getLast?.getD 0)
theorem decA_app (x : Int) (r : List Int) (s : Int) (h : 1 ≤ r.length) : decA (x :: r ++ [s]) = decL (x :: r) s := by
  unfold decA
  rw [if_neg (by simp; omega), List.dropLast_concat, List.getLast?_concat]; rfl
theorem words_split {l : List Int} (h : ¬ l.length < 3) : ∃ x r s, l = x :: r ++ [s] ∧ 1 ≤ r.length := by
  obtain ⟨x, t, rfl⟩ := List.exists_cons_of_ne_nil (show l ≠ [] by rintro rfl; simp at h)
  have ht : t ≠ [] := by rintro rfl; simp at h
  refine ⟨x, t.dropLast, t.getLast ht, ?_, ?_⟩
  · rw [List.cons_append, List.dropLast_concat_getLast ht]
  · rw [List.length_dropLast]; simp at h; omega
set_option maxHeartbeats 1000000 in
theorem rDecode_c (A : Option Addr) (c : Nat) (l : List Int) (w : World) (hG : RdG w) (hA : RdS ints 1 w A l) (hc : l.length ≤ c) (hl : l.length ≤ 9223372036854770000) :
    Cl Tryd.prog 44 #[.slice A l.length c] w (Decoded (decA l) w) (fun _ _ => False) := by
  refine calls_ex (args := [.slice A l.length c]) T.ok Tryd.func44 rfl rfl rfl rfl ?_
  have H := Hp.begin nw w
  refine Sq.mk ?_
  ((conv => whnf); refine Al.hp H ?_; clear H; intro p2 _ H _)
  by_cases h3 : l.length < 3
  · repeat' ((conv => whnf); first | (((with_reducible show Gd _ _ _); first | with_reducible refine Gd.t ?_ | with_reducible refine Gd.f ?_ | with_reducible refine Gd.dec (fun _ => ?_) (fun _ => ?_) | with_reducible refine Gd.beq (fun _ => ?_) (fun _ => ?_) | with_reducible refine Gd.bne (fun _ => ?_) (fun _ => ?_) | with_reducible refine Gd.not ?_ | refine Gd.t ?_ | refine Gd.f ?_ | with_reducible refine Gd.var (fun _ => ?_) (fun _ => ?_)) <;> first | (exfalso; omega) | skip) | with_reducible refine Sq.mk ?_ | ((with_reducible show Ld1 _ _ _); first | refine Ld1.h H ?_ | refine Ld1.rF ?_ | refine Ld1.r ?_) | ((with_reducible show Ld _ _ _ _); first | refine Ld.h H ?_ | refine Ld.r ?_) | ((with_reducible show Ix _ _ _ _ _); (first | refine Ix.h ?_ | refine Ix.ha ?_)) | (refine Al.hp H ?_; clear H; intro _ _ H _) | (refine St.h H ?_; clear H; intro _ H))
    exact Decoded.no H (by unfold decA; rw [if_pos h3])
  obtain ⟨x, r, s, rfl, h1⟩ := words_split h3
  rw [decA_app x r s h1]
  have hlen : (x :: r ++ [s]).length = r.length + 2 := by simp
  have hml : (x :: r).length = r.length + 1 := rfl
  have hw1 : IntKind.i64.wrap (((x :: r ++ [s]).length : Int) - 1) = (((x :: r).length : Nat) : Int) := w64 (by rw [hlen, hml]; omega) (by omega) (by omega)
  have hx : (x :: r ++ [s])[(x :: r).length]? = some s := by rw [List.getElem?_append_right (Nat.le_refl _)]; simp
  have hx0 : (x :: r ++ [s])[0]? = some x := rfl
  have hm : ∀ w', RdS ints 1 w' A (x :: r ++ [s]) → RdS ints 1 w' A (x :: r) := fun w' h => by
    have := RdS.take (k := (x :: r).length) h
    rwa [List.take_left] at this
  have hR : RdS ints 1 w (cutA A c 1 1) r := by
    have h1 := (hm w hA).cut (k := 1) (c := c) (by simp) (by rw [hml]; omega)
    exact h1
  have hxl : (x :: r).length < (x :: r ++ [s]).length := by omega
  have h0l : 0 < (x :: r ++ [s]).length := by omega
  have hA5 := RdS.from H.e hA
  repeat' ((conv => whnf); first | (((with_reducible show Gd _ _ _); first | with_reducible refine Gd.t ?_ | with_reducible refine Gd.f ?_ | with_reducible refine Gd.dec (fun _ => ?_) (fun _ => ?_) | with_reducible refine Gd.beq (fun _ => ?_) (fun _ => ?_) | with_reducible refine Gd.bne (fun _ => ?_) (fun _ => ?_) | with_reducible refine Gd.not ?_ | refine Gd.t ?_ | refine Gd.f ?_ | with_reducible refine Gd.var (fun _ => ?_) (fun _ => ?_)) <;> first | (exfalso; omega) | skip) | with_reducible refine Sq.mk ?_ | ((with_reducible show Ld1 _ _ _); first | refine Ld1.h H ?_ | refine Ld1.rF ?_ | refine Ld1.r ?_) | ((with_reducible show Ld _ _ _ _); first | refine Ld.h H ?_ | refine Ld.r ?_) | ((with_reducible show Ix _ _ _ _ _); (first | refine Ix.h ?_ | refine Ix.ha ?_)) | (refine Al.hp H ?_; clear H; intro _ _ H _) | (refine St.h H ?_; clear H; intro _ H))
  (conv => whnf)
  refine Sm.cutHi (i := (x :: r).length) T.ok rfl rfl rfl rfl hw1 (by omega) ?_
  repeat' ((conv => whnf); first | (((with_reducible show Gd _ _ _); first | with_reducible refine Gd.t ?_ | with_reducible refine Gd.f ?_ | with_reducible refine Gd.dec (fun _ => ?_) (fun _ => ?_) | with_reducible refine Gd.beq (fun _ => ?_) (fun _ => ?_) | with_reducible refine Gd.bne (fun _ => ?_) (fun _ => ?_) | with_reducible refine Gd.not ?_ | refine Gd.t ?_ | refine Gd.f ?_ | with_reducible refine Gd.var (fun _ => ?_) (fun _ => ?_)) <;> first | (exfalso; omega) | skip) | with_reducible refine Sq.mk ?_ | ((with_reducible show Ld1 _ _ _); first | refine Ld1.h H ?_ | refine Ld1.rF ?_ | refine Ld1.r ?_) | ((with_reducible show Ld _ _ _ _); first | refine Ld.h H ?_ | refine Ld.r ?_) | ((with_reducible show Ix _ _ _ _ _); (first | refine Ix.h ?_ | refine Ix.ha ?_)) | (refine Al.hp H ?_; clear H; intro _ _ H _) | (refine St.h H ?_; clear H; intro _ H))
  (((conv => whnf); refine Cl.mk (rsum_c A c (x :: r) _ (hm _ (RdS.from H.e hA)) (by omega)) ?_); rintro _ _ ⟨rfl, hx⟩; replace H := H.ext hx; clear hx)
  by_cases hs : sumL (x :: r) = s
  case neg =>
    repeat' ((conv => whnf); first | (((with_reducible show Gd _ _ _); first | with_reducible refine Gd.t ?_ | with_reducible refine Gd.f ?_ | with_reducible refine Gd.dec (fun _ => ?_) (fun _ => ?_) | with_reducible refine Gd.beq (fun _ => ?_) (fun _ => ?_) | with_reducible refine Gd.bne (fun _ => ?_) (fun _ => ?_) | with_reducible refine Gd.not ?_ | refine Gd.t ?_ | refine Gd.f ?_ | with_reducible refine Gd.var (fun _ => ?_) (fun _ => ?_)) <;> first | (exfalso; omega) | skip) | with_reducible refine Sq.mk ?_ | ((with_reducible show Ld1 _ _ _); first | refine Ld1.h H ?_ | refine Ld1.rF ?_ | refine Ld1.r ?_) | ((with_reducible show Ld _ _ _ _); first | refine Ld.h H ?_ | refine Ld.r ?_) | ((with_reducible show Ix _ _ _ _ _); (first | refine Ix.h ?_ | refine Ix.ha ?_)) | (refine Al.hp H ?_; clear H; intro _ _ H _) | (refine St.h H ?_; clear H; intro _ H))
    all_goals first | (exfalso; exact absurd (by assumption) hs) | skip
    exact Decoded.no H (by unfold decL; rw [if_pos hs])
  by_cases h0 : x = 1886156142
  case neg =>
    repeat' ((conv => whnf); first | (((with_reducible show Gd _ _ _); first | with_reducible refine Gd.t ?_ | with_reducible refine Gd.f ?_ | with_reducible refine Gd.dec (fun _ => ?_) (fun _ => ?_) | with_reducible refine Gd.beq (fun _ => ?_) (fun _ => ?_) | with_reducible refine Gd.bne (fun _ => ?_) (fun _ => ?_) | with_reducible refine Gd.not ?_ | refine Gd.t ?_ | refine Gd.f ?_ | with_reducible refine Gd.var (fun _ => ?_) (fun _ => ?_)) <;> first | (exfalso; omega) | skip) | with_reducible refine Sq.mk ?_ | ((with_reducible show Ld1 _ _ _); first | refine Ld1.h H ?_ | refine Ld1.rF ?_ | refine Ld1.r ?_) | ((with_reducible show Ld _ _ _ _); first | refine Ld.h H ?_ | refine Ld.r ?_) | ((with_reducible show Ix _ _ _ _ _); (first | refine Ix.h ?_ | refine Ix.ha ?_)) | (refine Al.hp H ?_; clear H; intro _ _ H _) | (refine St.h H ?_; clear H; intro _ H))
    all_goals first | (exfalso; exact absurd hs (by assumption)) | (exfalso; exact absurd (by assumption) h0) | skip
    exact Decoded.no H (by unfold decL; rw [if_neg (by simpa using hs), if_pos (show nx (x :: r) ≠ 1886156142 from h0)])
  repeat' ((conv => whnf); first | (((with_reducible show Gd _ _ _); first | with_reducible refine Gd.t ?_ | with_reducible refine Gd.f ?_ | with_reducible refine Gd.dec (fun _ => ?_) (fun _ => ?_) | with_reducible refine Gd.beq (fun _ => ?_) (fun _ => ?_) | with_reducible refine Gd.bne (fun _ => ?_) (fun _ => ?_) | with_reducible refine Gd.not ?_ | refine Gd.t ?_ | refine Gd.f ?_ | with_reducible refine Gd.var (fun _ => ?_) (fun _ => ?_)) <;> first | (exfalso; omega) | skip) | with_reducible refine Sq.mk ?_ | ((with_reducible show Ld1 _ _ _); first | refine Ld1.h H ?_ | refine Ld1.rF ?_ | refine Ld1.r ?_) | ((with_reducible show Ld _ _ _ _); first | refine Ld.h H ?_ | refine Ld.r ?_) | ((with_reducible show Ix _ _ _ _ _); (first | refine Ix.h ?_ | refine Ix.ha ?_)) | (refine Al.hp H ?_; clear H; intro _ _ H _) | (refine St.h H ?_; clear H; intro _ H))
  all_goals first | (exfalso; exact absurd hs (by assumption)) | (exfalso; exact absurd h0 (by assumption)) | skip
  (conv => whnf)
  refine Sm.cutLH (i := 1) (j := (x :: r).length) T.ok rfl rfl rfl rfl rfl hw1 (by simp) (by omega) ?_
  repeat' ((conv => whnf); first | (((with_reducible show Gd _ _ _); first | with_reducible refine Gd.t ?_ | with_reducible refine Gd.f ?_ | with_reducible refine Gd.dec (fun _ => ?_) (fun _ => ?_) | with_reducible refine Gd.beq (fun _ => ?_) (fun _ => ?_) | with_reducible refine Gd.bne (fun _ => ?_) (fun _ => ?_) | with_reducible refine Gd.not ?_ | refine Gd.t ?_ | refine Gd.f ?_ | with_reducible refine Gd.var (fun _ => ?_) (fun _ => ?_)) <;> first | (exfalso; omega) | skip) | with_reducible refine Sq.mk ?_ | ((with_reducible show Ld1 _ _ _); first | refine Ld1.h H ?_ | refine Ld1.rF ?_ | refine Ld1.r ?_) | ((with_reducible show Ld _ _ _ _); first | refine Ld.h H ?_ | refine Ld.r ?_) | ((with_reducible show Ix _ _ _ _ _); (first | refine Ix.h ?_ | refine Ix.ha ?_)) | (refine Al.hp H ?_; clear H; intro _ _ H _) | (refine St.h H ?_; clear H; intro _ H))
  ((conv => whnf); refine Cl.mk (whole_c (cutA A c 1 1) (c - 1) r _ (RdS.from H.e hR) h1 (by omega)) ?_)
  rintro _ w1 ⟨B, d, L, rfl, hLw, H'⟩
  replace H := H.fr0L H' (by simp [Ck.new])
  clear H'
  simp only [List.cons_append, List.nil_append] at H
  have hd0 : decL (x :: r) s = match whl r with
    | none => (57, [])
    | some fs => if (checkL fs).1 ≠ 0 then ((checkL fs).1, []) else (0, fs) := by
    rw [decL_whole, if_neg (by simpa using hs), if_neg (by simpa [nx] using h0)]; rfl
  rw [hd0]
  clear hd0
  cases hwh : whl r with
  | none =>
    repeat' ((conv => whnf); first | (((with_reducible show Gd _ _ _); first | with_reducible refine Gd.t ?_ | with_reducible refine Gd.f ?_ | with_reducible refine Gd.dec (fun _ => ?_) (fun _ => ?_) | with_reducible refine Gd.beq (fun _ => ?_) (fun _ => ?_) | with_reducible refine Gd.bne (fun _ => ?_) (fun _ => ?_) | with_reducible refine Gd.not ?_ | refine Gd.t ?_ | refine Gd.f ?_ | with_reducible refine Gd.var (fun _ => ?_) (fun _ => ?_)) <;> first | (exfalso; omega) | skip) | with_reducible refine Sq.mk ?_ | ((with_reducible show Ld1 _ _ _); first | refine Ld1.h H ?_ | refine Ld1.rF ?_ | refine Ld1.r ?_) | ((with_reducible show Ld _ _ _ _); first | refine Ld.h H ?_ | refine Ld.r ?_) | ((with_reducible show Ix _ _ _ _ _); (first | refine Ix.h ?_ | refine Ix.ha ?_)) | (refine St.h H ?_; clear H; intro _ H))
    ((conv => whnf); refine Al.hp H ?_; clear H; intro p6 _ H _)
    repeat' ((conv => whnf); first | (((with_reducible show Gd _ _ _); first | with_reducible refine Gd.t ?_ | with_reducible refine Gd.f ?_ | with_reducible refine Gd.dec (fun _ => ?_) (fun _ => ?_) | with_reducible refine Gd.beq (fun _ => ?_) (fun _ => ?_) | with_reducible refine Gd.bne (fun _ => ?_) (fun _ => ?_) | with_reducible refine Gd.not ?_ | refine Gd.t ?_ | refine Gd.f ?_ | with_reducible refine Gd.var (fun _ => ?_) (fun _ => ?_)) <;> first | (exfalso; omega) | skip) | with_reducible refine Sq.mk ?_ | ((with_reducible show Ld1 _ _ _); first | refine Ld1.h H ?_ | refine Ld1.rF ?_ | refine Ld1.r ?_) | ((with_reducible show Ld _ _ _ _); first | refine Ld.h H ?_ | refine Ld.r ?_) | ((with_reducible show Ix _ _ _ _ _); (first | refine Ix.h ?_ | refine Ix.ha ?_)) | (refine Al.hp H ?_; clear H; intro _ _ H _) | (refine St.h H ?_; clear H; intro _ H))
    exact Decoded.no H rfl
  | some fs =>
    have hL := hLw fs hwh
    repeat' ((conv => whnf); first | (((with_reducible show Gd _ _ _); first | with_reducible refine Gd.t ?_ | with_reducible refine Gd.f ?_ | with_reducible refine Gd.dec (fun _ => ?_) (fun _ => ?_) | with_reducible refine Gd.beq (fun _ => ?_) (fun _ => ?_) | with_reducible refine Gd.bne (fun _ => ?_) (fun _ => ?_) | with_reducible refine Gd.not ?_ | refine Gd.t ?_ | refine Gd.f ?_ | with_reducible refine Gd.var (fun _ => ?_) (fun _ => ?_)) <;> first | (exfalso; omega) | skip) | with_reducible refine Sq.mk ?_ | ((with_reducible show Ld1 _ _ _); first | refine Ld1.h H ?_ | refine Ld1.rF ?_ | refine Ld1.r ?_) | ((with_reducible show Ld _ _ _ _); first | refine Ld.h H ?_ | refine Ld.r ?_) | ((with_reducible show Ix _ _ _ _ _); (first | refine Ix.h ?_ | refine Ix.ha ?_)) | (refine St.h H ?_; clear H; intro _ H))
    ((conv => whnf); refine Al.hp H ?_; clear H; intro p6 _ H _)
    repeat' ((conv => whnf); first | (((with_reducible show Gd _ _ _); first | with_reducible refine Gd.t ?_ | with_reducible refine Gd.f ?_ | with_reducible refine Gd.dec (fun _ => ?_) (fun _ => ?_) | with_reducible refine Gd.beq (fun _ => ?_) (fun _ => ?_) | with_reducible refine Gd.bne (fun _ => ?_) (fun _ => ?_) | with_reducible refine Gd.not ?_ | refine Gd.t ?_ | refine Gd.f ?_ | with_reducible refine Gd.var (fun _ => ?_) (fun _ => ?_)) <;> first | (exfalso; omega) | skip) | with_reducible refine Sq.mk ?_ | ((with_reducible show Ld1 _ _ _); first | refine Ld1.h H ?_ | refine Ld1.rF ?_ | refine Ld1.r ?_) | ((with_reducible show Ld _ _ _ _); first | refine Ld.h H ?_ | refine Ld.r ?_) | ((with_reducible show Ix _ _ _ _ _); (first | refine Ix.h ?_ | refine Ix.ha ?_)) | (refine Al.hp H ?_; clear H; intro _ _ H _) | (refine St.h H ?_; clear H; intro _ H))
    (((conv => whnf); refine Cl.mk (rCheck_c B L d _ ⟨H.rdq 1 rfl, H.atC 2 rfl⟩) ?_); rintro _ _ ⟨rfl, hx⟩; replace H := H.ext hx; clear hx)
    rw [hL]
    ((conv => whnf); refine Al.hp H ?_; clear H; intro p7 _ H _)
    by_cases hz : (checkL fs).1 = 0
    · repeat' ((conv => whnf); first | (((with_reducible show Gd _ _ _); first | with_reducible refine Gd.t ?_ | with_reducible refine Gd.f ?_ | with_reducible refine Gd.dec (fun _ => ?_) (fun _ => ?_) | with_reducible refine Gd.beq (fun _ => ?_) (fun _ => ?_) | with_reducible refine Gd.bne (fun _ => ?_) (fun _ => ?_) | with_reducible refine Gd.not ?_ | refine Gd.t ?_ | refine Gd.f ?_ | with_reducible refine Gd.var (fun _ => ?_) (fun _ => ?_)) <;> first | (exfalso; omega) | skip) | with_reducible refine Sq.mk ?_ | ((with_reducible show Ld1 _ _ _); first | refine Ld1.h H ?_ | refine Ld1.rF ?_ | refine Ld1.r ?_) | ((with_reducible show Ld _ _ _ _); first | refine Ld.h H ?_ | refine Ld.r ?_) | ((with_reducible show Ix _ _ _ _ _); (first | refine Ix.h ?_ | refine Ix.ha ?_)) | (refine Al.hp H ?_; clear H; intro _ _ H _) | (refine St.h H ?_; clear H; intro _ H))
      all_goals first | (exfalso; exact absurd hz (by assumption)) | skip
      all_goals exact ⟨B, d, L, by simp only [if_neg (show ¬ (checkL fs).1 ≠ 0 from fun h => h hz)]; rfl, by simp only [if_neg (show ¬ (checkL fs).1 ≠ 0 from fun h => h hz)]; exact hL, H.sel [2, 2] rfl⟩
    · repeat' ((conv => whnf); first | (((with_reducible show Gd _ _ _); first | with_reducible refine Gd.t ?_ | with_reducible refine Gd.f ?_ | with_reducible refine Gd.dec (fun _ => ?_) (fun _ => ?_) | with_reducible refine Gd.beq (fun _ => ?_) (fun _ => ?_) | with_reducible refine Gd.bne (fun _ => ?_) (fun _ => ?_) | with_reducible refine Gd.not ?_ | refine Gd.t ?_ | refine Gd.f ?_ | with_reducible refine Gd.var (fun _ => ?_) (fun _ => ?_)) <;> first | (exfalso; omega) | skip) | with_reducible refine Sq.mk ?_ | ((with_reducible show Ld1 _ _ _); first | refine Ld1.h H ?_ | refine Ld1.rF ?_ | refine Ld1.r ?_) | ((with_reducible show Ld _ _ _ _); first | refine Ld.h H ?_ | refine Ld.r ?_) | ((with_reducible show Ix _ _ _ _ _); (first | refine Ix.h ?_ | refine Ix.ha ?_)) | (refine Al.hp H ?_; clear H; intro _ _ H _) | (refine St.h H ?_; clear H; intro _ H))
      all_goals first | (exfalso; exact absurd (by assumption) hz) | skip
      (conv => whnf)
      refine Dr.ch T.ok mixed [0, 1, 2] [3, 4] (by kernel_rfl) rfl rfl (fun w' => Blk w' p7 48 (fvV (checkL fs)).cells.toList) (fun w1 eT _ => ?_)
      replace H := H.ext eT
      repeat' ((conv => whnf); refine QLd1.own (fun _ hw => hw) ?_)
      (conv => whnf)
      refine ⟨H.blk 0 rfl, ?_⟩
      refine St.h H (fun w2 H => ?_)
      (conv => whnf)
      refine ⟨H.blk 0 rfl, ?_⟩
      repeat' ((conv => whnf); first | (((with_reducible show Gd _ _ _); first | with_reducible refine Gd.t ?_ | with_reducible refine Gd.f ?_ | with_reducible refine Gd.dec (fun _ => ?_) (fun _ => ?_) | with_reducible refine Gd.beq (fun _ => ?_) (fun _ => ?_) | with_reducible refine Gd.bne (fun _ => ?_) (fun _ => ?_) | with_reducible refine Gd.not ?_ | refine Gd.t ?_ | refine Gd.f ?_ | with_reducible refine Gd.var (fun _ => ?_) (fun _ => ?_)) <;> first | (exfalso; omega) | skip) | with_reducible refine Sq.mk ?_ | ((with_reducible show Ld1 _ _ _); first | refine Ld1.h H ?_ | refine Ld1.rF ?_ | refine Ld1.r ?_) | ((with_reducible show Ld _ _ _ _); first | refine Ld.h H ?_ | refine Ld.r ?_) | ((with_reducible show Ix _ _ _ _ _); (first | refine Ix.h ?_ | refine Ix.ha ?_)) | (refine Al.hp H ?_; clear H; intro _ _ H _) | (refine St.h H ?_; clear H; intro _ H))
      refine Decoded.no H ?_
      exact if_pos hz
end Go.Proofs.YtbbadmlekagloaaDoor
namespace Go.Sh
variable {S : Nat → Prop} {w0 w : World} {Γ : List Ck}
/-- one piece as two -/
theorem Hp.split2 {e c d : Ck} (H : Hp S w0 w (e :: Γ)) (heo : e.own = true) (hfp : ∀ k, c.fp k ∨ d.fp k → e.fp k) (hok : e.Ok w → c.Ok w ∧ d.Ok w ∧ ∀ k, ¬ (c.fp k ∧ d.fp k)) : Hp S w0 w (c :: d :: Γ) := by
  have hs := List.pairwise_cons.1 H.sep
  obtain ⟨h1, h2, h3⟩ := hok (H.ok e (by simp))
  refine ⟨H.tch, fun b hb => ?_, List.pairwise_cons.2 ⟨fun b hb _ k hk => ?_, List.pairwise_cons.2 ⟨fun b hb _ k hk => ?_, hs.2⟩⟩, fun b hb hb' k hk => ?_⟩
  · rcases List.mem_cons.1 hb with rfl | hb
    · exact h1
    · rcases List.mem_cons.1 hb with rfl | hb
      · exact h2
      · exact H.ok b (by simp [hb])
  · rcases List.mem_cons.1 hb with rfl | hb
    · exact h3 k hk
    · exact hs.1 b hb (.inl heo) k ⟨hfp k (.inl hk.1), hk.2⟩
  · exact hs.1 b hb (.inl heo) k ⟨hfp k (.inr hk.1), hk.2⟩
  · rcases List.mem_cons.1 hb with rfl | hb
    · exact H.dom e (by simp) (.inl heo) k (hfp k (.inl hk))
    · rcases List.mem_cons.1 hb with rfl | hb
      · exact H.dom e (by simp) (.inl heo) k (hfp k (.inr hk))
      · exact H.dom b (by simp [hb]) hb' k hk
/-- a piece that says less -/
theorem Hp.less {e c : Ck} (H : Hp S w0 w (e :: Γ)) (heo : e.own = true) (hfp : ∀ k, c.fp k → e.fp k) (hok : e.Ok w → c.Ok w) : Hp S w0 w (c :: Γ) := by
  have hs := List.pairwise_cons.1 H.sep
  refine ⟨H.tch, fun b hb => ?_, List.pairwise_cons.2 ⟨fun b hb _ k hk => hs.1 b hb (.inl heo) k ⟨hfp k hk.1, hk.2⟩, hs.2⟩, fun b hb hb' k hk => ?_⟩
  · rcases List.mem_cons.1 hb with rfl | hb
    · exact hok (H.ok e (by simp))
    · exact H.ok b (by simp [hb])
  · rcases List.mem_cons.1 hb with rfl | hb
    · exact H.dom e (by simp) (.inl heo) k (hfp k hk)
    · exact H.dom b (by simp [hb]) hb' k hk
end Go.Sh
namespace Go.Proofs.YtbbadmlekagloaaDoor
open Go Go.Sh
set_option linter.unusedVariables false
set_option linter.unusedSimpArgs false
attribute [local irreducible] Blk Ext RdS
/-- two codes lie apart -/
def Apart (x y : FE) : Prop := ∀ k, ¬ (obk x.2.1 = some k ∧ obk y.2.1 = some k)
/-- the codes of functions, each its own -/
abbrev cdq (L : List FE) : Ck := ⟨fun k => ∃ x ∈ L, obk x.2.1 = some k, fun w => (∀ x ∈ L, Que Ins.enc 5 35 w 0 x.2.1 x.2.2 x.1.code) ∧ L.Pairwise Apart, true, false⟩
theorem cdq_ok {L : List FE} {w : World} (h : ∀ x ∈ L, Que Ins.enc 5 35 w 0 x.2.1 x.2.2 x.1.code) (hp : L.Pairwise Apart) : (cdq L).Ok w :=
  ⟨⟨h, hp⟩, fun k ⟨x, hx, hk⟩ => (qu_ok (h x hx)).lt k hk, fun w' hs hb => ⟨fun x hx => (qu_ok (h x hx)).loc w' hs fun k hk => hb k ⟨x, hx, hk⟩, hp⟩⟩
theorem Hp.cdq0 {S : Nat → Prop} {w0 w : World} {Γ : List Ck} (H : Hp S w0 w Γ) : Hp S w0 w (cdq [] :: Γ) :=
  H.fr0 (Hp.one (Tch.refl _ _) (cdq_ok (by simp) List.Pairwise.nil) (fun k ⟨x, hx, _⟩ => by simp at hx)) (.inl rfl)
/-- a code more, at that place -/
theorem Hp.cdqI {S : Nat → Prop} {w0 w : World} {Γ : List Ck} {L1 L2 : List FE} {f : Fn} {A : Option Addr} {c : Nat} (H : Hp S w0 w (qu Ins.enc 5 35 A c f.code :: cdq (L1 ++ L2) :: Γ)) : Hp S w0 w (cdq (L1 ++ (f, A, c) :: L2) :: Γ) := by
  refine Hp.join2 H rfl rfl (.inl rfl) (fun k ⟨x, hx, hk⟩ => ?_) (fun hd h1 h2 => cdq_ok (fun x hx => ?_) ?_)
  · simp only [List.mem_append, List.mem_cons] at hx
    rcases hx with hx | rfl | hx
    · exact .inr ⟨x, by simp [hx], hk⟩
    · exact .inl hk
    · exact .inr ⟨x, by simp [hx], hk⟩
  · simp only [List.mem_append, List.mem_cons] at hx
    rcases hx with hx | rfl | hx
    · exact h2.holds.1 x (by simp [hx])
    · exact h1.holds
    · exact h2.holds.1 x (by simp [hx])
  · have hp := List.pairwise_append.1 h2.holds.2
    refine List.pairwise_append.2 ⟨hp.1, List.pairwise_cons.2 ⟨fun y hy k hk => hd k ⟨hk.1, y, by simp [hy], hk.2⟩, hp.2.1⟩, fun x hx y hy k hk => ?_⟩
    rcases List.mem_cons.1 hy with rfl | hy
    · exact hd k ⟨hk.2, x, by simp [hx], hk.1⟩
    · exact hp.2.2 x hx y hy k hk
/-- one code by itself -/
theorem Hp.cdqO {S : Nat → Prop} {w0 w : World} {Γ : List Ck} {L1 L2 : List FE} {f : Fn} {A : Option Addr} {c : Nat} (H : Hp S w0 w (cdq (L1 ++ (f, A, c) :: L2) :: Γ)) : Hp S w0 w (qu Ins.enc 5 35 A c f.code :: cdq (L1 ++ L2) :: Γ) := by
  refine Hp.split2 H rfl (fun k hk => ?_) (fun h => ⟨qu_ok (h.holds.1 (f, A, c) (by simp)), cdq_ok (fun x hx => h.holds.1 x ?_) ?_, fun k hk => ?_⟩)
  · rcases hk with hk | ⟨x, hx, hk⟩
    · exact ⟨(f, A, c), by simp, hk⟩
    · simp only [List.mem_append] at hx
      exact ⟨x, by simp only [List.mem_append, List.mem_cons]; rcases hx with hx | hx <;> simp [hx], hk⟩
  · simp only [List.mem_append, List.mem_cons] at hx ⊢
    rcases hx with hx | hx <;> simp [hx]
  · have hp := List.pairwise_append.1 h.holds.2
    exact List.pairwise_append.2 ⟨hp.1, (List.pairwise_cons.1 hp.2.1).2, fun x hx y hy => hp.2.2 x hx y (by simp [hy])⟩
  · have hp := List.pairwise_append.1 h.holds.2
    obtain ⟨h1, x, hx, h2⟩ := hk
    rcases List.mem_append.1 hx with hx | hx
    · exact hp.2.2 x hx (f, A, c) (by simp) k ⟨h2, h1⟩
    · exact (List.pairwise_cons.1 hp.2.1).1 x hx k ⟨h1, h2⟩
theorem Hp.cdqS {S : Nat → Prop} {w0 w : World} {Γ : List Ck} {L : List FE} {f : Fn} {A : Option Addr} {c : Nat} (H : Hp S w0 w (qu Ins.enc 5 35 A c f.code :: cdq L :: Γ)) : Hp S w0 w (cdq (L ++ [(f, A, c)]) :: Γ) :=
  Hp.cdqI (L2 := []) (by rw [List.append_nil]; exact H)
theorem Hp.cdq_cds {S : Nat → Prop} {w0 w : World} {Γ : List Ck} {L : List FE} (H : Hp S w0 w (cdq L :: Γ)) : Hp S w0 w (cds L :: Γ) :=
  Hp.less H rfl (fun k ⟨x, hx, _, hk⟩ => ⟨x, hx, hk⟩) fun h => cds_ok fun x hx => Que.rd (h.holds.1 x hx)
/-- what Decode answers -/
def DecodedQ (d : Int × List Fn) (w : World) (v : Value) (w' : World) : Prop := ∃ B c L, v = .tuple #[pv B L.length c, .int .i64 d.1] ∧ fns L = d.2 ∧ Hp nw w w' [qu FE.enc 4 24 B c L, cdq L]
theorem DecodedQ.plain {d : Int × List Fn} {w w' : World} {v : Value} (h : DecodedQ d w v w') : Decoded d w v w' := by
  obtain ⟨B, c, L, h1, h2, H⟩ := h
  exact ⟨B, c, L, h1, h2, Hp.swap (Hp.cdq_cds (Hp.swap H))⟩
theorem DecodedQ.no {d : Int × List Fn} {e : Int} {w w' : World} {Γ : List Ck} (H : Hp nw w w' Γ) (hd : d = (e, [])) : DecodedQ d w (.tuple #[.agg #[.slice none 0 0], .int .i64 e]) w' := by
  subst hd
  have H2 := Hp.nil (Hp.cdq0 H.non) FE.enc 4 24
  exact ⟨none, 0, [], rfl, rfl, H2⟩
set_option maxHeartbeats 1000000 in
theorem Decode_q (A : Option Addr) (c : Nat) (x : Int) (r : List Int) (s : Int) (w : World) (hG : RdG w) (hA : RdS ints 1 w A (x :: r ++ [s])) (hc : r.length + 2 ≤ c) (hl : 1 ≤ r.length) (hl2 : r.length ≤ 9223372036854775700) :
    Cl Tryd.prog 45 #[.slice A (x :: r ++ [s]).length c] w (DecodedQ (decL (x :: r) s) w) (fun _ _ => False) := by
  have hlen : (x :: r ++ [s]).length = r.length + 2 := by simp
  have hml : (x :: r).length = r.length + 1 := rfl
  have hw1 : IntKind.i64.wrap (((x :: r ++ [s]).length : Int) - 1) = (((x :: r).length : Nat) : Int) := w64 (by rw [hlen, hml]; omega) (by omega) (by omega)
  have hx : (x :: r ++ [s])[(x :: r).length]? = some s := by rw [List.getElem?_append_right (Nat.le_refl _)]; simp
  have hx0 : (x :: r ++ [s])[0]? = some x := rfl
  have hm : ∀ w', RdS ints 1 w' A (x :: r ++ [s]) → RdS ints 1 w' A (x :: r) := fun w' h => by
    have := RdS.take (k := (x :: r).length) h
    rwa [List.take_left] at this
  have hR : RdS ints 1 w (cutA A c 1 1) r := by
    have h1 := (hm w hA).cut (k := 1) (c := c) (by simp) (by rw [hml]; omega)
    exact h1
  by_cases hs : sumL (x :: r) = s
  case neg =>
    refine ⟨Calls.mono (Decode_bad A c (x :: r) s w hA (by rw [hml]; omega) (by rw [hml]; omega) (by rw [hml]; omega) hs).out fun e w' q => ?_⟩
    cases e with
    | returned v =>
      obtain ⟨rfl, he⟩ := q
      exact DecodedQ.no ((Hp.begin nw w).ext he) (by unfold decL; rw [if_pos hs])
    | panicked ch => exact q.elim
    | outgrown => exact q.elim
  refine calls_ex (args := [.slice A (x :: r ++ [s]).length c]) T.ok Tryd.func45 rfl rfl rfl rfl ?_
  have H := Hp.begin nw w
  refine Sq.mk ?_
  ((conv => whnf); refine Al.hp H ?_; clear H; intro pp _ H _)
  repeat' ((conv => whnf); first | (((with_reducible show Gd _ _ _); first | with_reducible refine Gd.t ?_ | with_reducible refine Gd.f ?_ | with_reducible refine Gd.dec (fun _ => ?_) (fun _ => ?_) | with_reducible refine Gd.beq (fun _ => ?_) (fun _ => ?_) | with_reducible refine Gd.bne (fun _ => ?_) (fun _ => ?_) | with_reducible refine Gd.not ?_ | refine Gd.t ?_ | refine Gd.f ?_ | with_reducible refine Gd.var (fun _ => ?_) (fun _ => ?_)) <;> first | (exfalso; omega) | skip) | with_reducible refine Sq.mk ?_ | ((with_reducible show Ld1 _ _ _); first | refine Ld1.h H ?_ | refine Ld1.rF ?_ | refine Ld1.r ?_) | ((with_reducible show Ld _ _ _ _); first | refine Ld.h H ?_ | refine Ld.r ?_) | ((with_reducible show Ix _ _ _ _ _); (first | refine Ix.h ?_ | refine Ix.ha ?_)) | (refine Al.hp H ?_; clear H; intro _ _ H _) | (refine St.h H ?_; clear H; intro _ H))
  have hA5 := RdS.from H.e hA
  ((conv => whnf); refine Dr.quiet T.ok mixed (by kernel_rfl) (fun W hW => ?_))
  repeat' (first | ((conv => whnf); first | (((with_reducible show Gd _ _ _); first | with_reducible refine Gd.t ?_ | with_reducible refine Gd.f ?_ | with_reducible refine Gd.dec (fun _ => ?_) (fun _ => ?_) | with_reducible refine Gd.beq (fun _ => ?_) (fun _ => ?_) | with_reducible refine Gd.bne (fun _ => ?_) (fun _ => ?_) | with_reducible refine Gd.not ?_ | refine Gd.t ?_ | refine Gd.f ?_ | with_reducible refine Gd.var (fun _ => ?_) (fun _ => ?_)) <;> first | (exfalso; omega) | skip) | ((with_reducible show QLd1 _ _ _); first | refine QLd1.h hW H ?_ | refine QLd1.rF hW ?_ | refine QLd1.r hW ?_) | ((with_reducible show QLd _ _ _ _); first | refine QLd.h hW H ?_ | refine QLd.r hW ?_) | ((with_reducible show Ix _ _ _ _ _); (first | refine Ix.h ?_ | refine Ix.ha ?_))) | ((conv => whnf); refine QSm.cutHi (i := (x :: r).length) hW T.ok (by omega) ?_) | ((conv => whnf); refine QCl.mk hW (fun _ ee => Cl.mk (psum_c A c (x :: r) _ (hm _ (RdS.from ee hA5)) (by omega)) (fun _ _ h => h)) ?_))
  all_goals first | (exfalso; exact absurd hs (by assumption)) | skip
  (intro _ eT; replace H := H.ext eT; clear hW eT)
  clear hA5
  by_cases h0 : x = 1886156142
  case neg =>
    repeat' ((conv => whnf); first | (((with_reducible show Gd _ _ _); first | with_reducible refine Gd.t ?_ | with_reducible refine Gd.f ?_ | with_reducible refine Gd.dec (fun _ => ?_) (fun _ => ?_) | with_reducible refine Gd.beq (fun _ => ?_) (fun _ => ?_) | with_reducible refine Gd.bne (fun _ => ?_) (fun _ => ?_) | with_reducible refine Gd.not ?_ | refine Gd.t ?_ | refine Gd.f ?_ | with_reducible refine Gd.var (fun _ => ?_) (fun _ => ?_)) <;> first | (exfalso; omega) | skip) | with_reducible refine Sq.mk ?_ | ((with_reducible show Ld1 _ _ _); first | refine Ld1.h H ?_ | refine Ld1.rF ?_ | refine Ld1.r ?_) | ((with_reducible show Ld _ _ _ _); first | refine Ld.h H ?_ | refine Ld.r ?_) | ((with_reducible show Ix _ _ _ _ _); (first | refine Ix.h ?_ | refine Ix.ha ?_)) | (refine Al.hp H ?_; clear H; intro _ _ H _) | (refine St.h H ?_; clear H; intro _ H))
    all_goals first | (exfalso; exact absurd (by assumption) h0) | skip
    exact DecodedQ.no H (by unfold decL; rw [if_neg (by simpa using hs), if_pos (show nx (x :: r) ≠ 1886156142 from h0)])
  repeat' ((conv => whnf); first | (((with_reducible show Gd _ _ _); first | with_reducible refine Gd.t ?_ | with_reducible refine Gd.f ?_ | with_reducible refine Gd.dec (fun _ => ?_) (fun _ => ?_) | with_reducible refine Gd.beq (fun _ => ?_) (fun _ => ?_) | with_reducible refine Gd.bne (fun _ => ?_) (fun _ => ?_) | with_reducible refine Gd.not ?_ | refine Gd.t ?_ | refine Gd.f ?_ | with_reducible refine Gd.var (fun _ => ?_) (fun _ => ?_)) <;> first | (exfalso; omega) | skip) | with_reducible refine Sq.mk ?_ | ((with_reducible show Ld1 _ _ _); first | refine Ld1.h H ?_ | refine Ld1.rF ?_ | refine Ld1.r ?_) | ((with_reducible show Ld _ _ _ _); first | refine Ld.h H ?_ | refine Ld.r ?_) | ((with_reducible show Ix _ _ _ _ _); (first | refine Ix.h ?_ | refine Ix.ha ?_)) | (refine Al.hp H ?_; clear H; intro _ _ H _) | (refine St.h H ?_; clear H; intro _ H))
  all_goals first | (exfalso; exact absurd h0 (by assumption)) | skip
  (conv => whnf)
  refine Sm.cutLH (i := 1) (j := (x :: r).length) T.ok rfl rfl rfl rfl rfl hw1 (by simp) (by omega) ?_
  repeat' ((conv => whnf); first | (((with_reducible show Gd _ _ _); first | with_reducible refine Gd.t ?_ | with_reducible refine Gd.f ?_ | with_reducible refine Gd.dec (fun _ => ?_) (fun _ => ?_) | with_reducible refine Gd.beq (fun _ => ?_) (fun _ => ?_) | with_reducible refine Gd.bne (fun _ => ?_) (fun _ => ?_) | with_reducible refine Gd.not ?_ | refine Gd.t ?_ | refine Gd.f ?_ | with_reducible refine Gd.var (fun _ => ?_) (fun _ => ?_)) <;> first | (exfalso; omega) | skip) | with_reducible refine Sq.mk ?_ | ((with_reducible show Ld1 _ _ _); first | refine Ld1.h H ?_ | refine Ld1.rF ?_ | refine Ld1.r ?_) | ((with_reducible show Ld _ _ _ _); first | refine Ld.h H ?_ | refine Ld.r ?_) | ((with_reducible show Ix _ _ _ _ _); (first | refine Ix.h ?_ | refine Ix.ha ?_)) | (refine St.h H ?_; clear H; intro _ H))
  ((conv => whnf); refine Al.hp H ?_; clear H; intro pr _ H _)
  repeat' ((conv => whnf); first | (((with_reducible show Gd _ _ _); first | with_reducible refine Gd.t ?_ | with_reducible refine Gd.f ?_ | with_reducible refine Gd.dec (fun _ => ?_) (fun _ => ?_) | with_reducible refine Gd.beq (fun _ => ?_) (fun _ => ?_) | with_reducible refine Gd.bne (fun _ => ?_) (fun _ => ?_) | with_reducible refine Gd.not ?_ | refine Gd.t ?_ | refine Gd.f ?_ | with_reducible refine Gd.var (fun _ => ?_) (fun _ => ?_)) <;> first | (exfalso; omega) | skip) | with_reducible refine Sq.mk ?_ | ((with_reducible show Ld1 _ _ _); first | refine Ld1.h H ?_ | refine Ld1.rF ?_ | refine Ld1.r ?_) | ((with_reducible show Ld _ _ _ _); first | refine Ld.h H ?_ | refine Ld.r ?_) | ((with_reducible show Ix _ _ _ _ _); (first | refine Ix.h ?_ | refine Ix.ha ?_)) | (refine St.h H ?_; clear H; intro _ H))
  ((conv => whnf); refine Al.hp H ?_; clear H; intro p6 _ H _)
  replace H : Hp nw w _ [bk p6 46 (pv none 0 0).cells.toList, bk pr 103 (rdrV (cutA A c 1 1) (c - 1) r false), bk pp 46 T.t46.zero.cells.toList] := H
  replace H := Hp.rr (c := c - 1) (bad := false) (pr := pr) H hR (by omega)
  have hlo : w.heap.size ≤ pr := by assumption
  repeat' ((conv => whnf); first | (((with_reducible show Gd _ _ _); first | with_reducible refine Gd.t ?_ | with_reducible refine Gd.f ?_ | with_reducible refine Gd.dec (fun _ => ?_) (fun _ => ?_) | with_reducible refine Gd.beq (fun _ => ?_) (fun _ => ?_) | with_reducible refine Gd.bne (fun _ => ?_) (fun _ => ?_) | with_reducible refine Gd.not ?_ | refine Gd.t ?_ | refine Gd.f ?_ | with_reducible refine Gd.var (fun _ => ?_) (fun _ => ?_)) <;> first | (exfalso; omega) | skip) | with_reducible refine Sq.mk ?_ | ((with_reducible show Ld1 _ _ _); first | refine Ld1.h H ?_ | refine Ld1.rF ?_ | refine Ld1.r ?_) | ((with_reducible show Ld _ _ _ _); first | refine Ld.h H ?_ | refine Ld.r ?_) | ((with_reducible show Ix _ _ _ _ _); (first | refine Ix.h ?_ | refine Ix.ha ?_)) | (refine Al.hp H ?_; clear H; intro _ _ H _) | (refine St.h H ?_; clear H; intro _ H))
  ((conv => whnf); refine Cl.mk (count_c pr 32 r false w _ H.e hlo (H.atC 1 rfl)) ?_)
  rintro _ _ ⟨rfl, H'⟩
  replace H := H.upd (c := rr w pr r false) H' rfl (.inl rfl)
  clear H'
  have hn := cnt_le 32 r (by decide)
  have hN : cntOf 32 r = ((dcN (x :: r) : Nat) : Int) := by rw [dcN]; show _ = ((cntOf 32 r).toNat : Int); omega
  have hN2 : dcN (x :: r) ≤ 32 := by omega
  rw [hN]
  generalize hs1 : cS 32 (r, false) = s1
  have hs11 : (r.tail, false || cntBad 32 r) = s1 := hs1
  replace H := Hp.nil (Hp.cdq0 H) FE.enc 4 24
  repeat' ((conv => whnf); first | (((with_reducible show Gd _ _ _); first | with_reducible refine Gd.t ?_ | with_reducible refine Gd.f ?_ | with_reducible refine Gd.dec (fun _ => ?_) (fun _ => ?_) | with_reducible refine Gd.beq (fun _ => ?_) (fun _ => ?_) | with_reducible refine Gd.bne (fun _ => ?_) (fun _ => ?_) | with_reducible refine Gd.not ?_ | refine Gd.t ?_ | refine Gd.f ?_ | with_reducible refine Gd.var (fun _ => ?_) (fun _ => ?_)) <;> first | (exfalso; omega) | skip) | with_reducible refine Sq.mk ?_ | ((with_reducible show Ld1 _ _ _); first | refine Ld1.h H ?_ | refine Ld1.rF ?_ | refine Ld1.r ?_) | ((with_reducible show Ld _ _ _ _); first | refine Ld.h H ?_ | refine Ld.r ?_) | ((with_reducible show Ix _ _ _ _ _); (first | refine Ix.h ?_ | refine Ix.ha ?_)) | (refine Al.hp H ?_; clear H; intro _ _ H _) | (refine St.h H ?_; clear H; intro _ H))
  refine Lp.g0 T.ok (σ := Nat × Option Addr × Nat × List FE) (fun q => [(37, .int .i64 (q.1 : Int)), (36, .int .i64 (dcN (x :: r) : Int)), (5, .pointer (some ⟨pr, 0, none⟩)), (6, .pointer (some ⟨p6, 0, none⟩)), (2, .pointer (some ⟨pp, 0, none⟩))])
    (fun q w' => q.1 ≤ dcN (x :: r) ∧ fns q.2.2.2 = (rdFs s1 q.1).1 ∧ Hp nw w w' [qu FE.enc 4 24 q.2.1 q.2.2.1 q.2.2.2, cdq q.2.2.2, bk p6 46 (pv q.2.1 q.2.2.2.length q.2.2.1).cells.toList, rr w pr (rdFs s1 q.1).2.1 (rdFs s1 q.1).2.2, bk pp 46 T.t46.zero.cells.toList]) (fun q _ => dcN (x :: r) - q.1) (0, none, 0, []) rfl ⟨rfl, rfl, rfl, rfl, rfl, trivial⟩ ⟨Nat.zero_le _, rfl, by rw [← hs11]; exact H⟩ ?_
  clear H
  rintro ⟨i, B, d, L⟩ w5 ⟨hi, hL, H⟩
  simp only at hi hL H ⊢
  have hil : L.length = i := by rw [← fns_len, hL, rdFs_len]
  by_cases hlt : i < dcN (x :: r)
  · have hq : rdFs s1 (i + 1) = ((rdFs s1 i).1 ++ [rdF (rdFs s1 i).2], nF (rdFs s1 i).2) := rfl
    generalize (rdFs s1 i).2 = t at *
    repeat' ((conv => whnf); first | (((with_reducible show Gd _ _ _); first | with_reducible refine Gd.t ?_ | with_reducible refine Gd.f ?_ | with_reducible refine Gd.dec (fun _ => ?_) (fun _ => ?_) | with_reducible refine Gd.beq (fun _ => ?_) (fun _ => ?_) | with_reducible refine Gd.bne (fun _ => ?_) (fun _ => ?_) | with_reducible refine Gd.not ?_ | refine Gd.t ?_ | refine Gd.f ?_ | with_reducible refine Gd.var (fun _ => ?_) (fun _ => ?_)) <;> first | (exfalso; omega) | skip) | with_reducible refine Sq.mk ?_ | ((with_reducible show Ld1 _ _ _); first | refine Ld1.h H ?_ | refine Ld1.rF ?_ | refine Ld1.r ?_) | ((with_reducible show Ld _ _ _ _); first | refine Ld.h H ?_ | refine Ld.r ?_) | ((with_reducible show Ix _ _ _ _ _); (first | refine Ix.h ?_ | refine Ix.ha ?_)) | (refine Al.hp H ?_; clear H; intro _ _ H _) | (refine St.h H ?_; clear H; intro _ H))
    (conv => whnf)
    refine Dr.ch T.ok mixed [0, 1, 2, 6] [3, 4, 5, 7] (by kernel_rfl) rfl rfl (fun w' => Blk w' p6 46 (pv B L.length d).cells.toList) (fun w1 eT _ => ?_)
    replace H := H.ext eT
    repeat' ((conv => whnf); refine QLd1.own (fun _ hw => hw) ?_)
    (conv => whnf)
    refine ⟨H.blk 2 rfl, ?_⟩
    ((conv => whnf); refine Cl.mk (function_c pr t w _ H.e hlo (H.atC 3 rfl)) ?_)
    rintro _ w2 ⟨CA, cc, rfl, H'⟩
    replace H := H.updn (c := rr w pr t.1 t.2) (Hp.swap H') rfl (.inl rfl) (.inl rfl)
    clear H'
    (conv => whnf)
    refine ⟨H.blk 3 rfl, ?_⟩
    refine Sm.lith (cs := FE.enc (rdF t, CA, cc)) H T.ok (fun p5 w3 H _ => ?_)
    (conv => whnf)
    refine ⟨H.blk 4 rfl, ?_⟩
    refine Sm.ap1 (enc := FE.enc) (rdF t, CA, cc) H T.ok ?_ ?_ (fun B' d' w4 H => ?_)
    · show (L.length + 1) * 48 ≤ _; omega
    · omega
    simp only [List.cons_append, List.nil_append] at H
    (conv => whnf)
    refine ⟨H.blk 3 rfl, ?_⟩
    repeat' ((conv => whnf); first | (((with_reducible show Gd _ _ _); first | with_reducible refine Gd.t ?_ | with_reducible refine Gd.f ?_ | with_reducible refine Gd.dec (fun _ => ?_) (fun _ => ?_) | with_reducible refine Gd.beq (fun _ => ?_) (fun _ => ?_) | with_reducible refine Gd.bne (fun _ => ?_) (fun _ => ?_) | with_reducible refine Gd.not ?_ | refine Gd.t ?_ | refine Gd.f ?_ | with_reducible refine Gd.var (fun _ => ?_) (fun _ => ?_)) <;> first | (exfalso; omega) | skip) | with_reducible refine Sq.mk ?_ | ((with_reducible show Ld1 _ _ _); first | refine Ld1.h H ?_ | refine Ld1.rF ?_ | refine Ld1.r ?_) | ((with_reducible show Ld _ _ _ _); first | refine Ld.h H ?_ | refine Ld.r ?_) | ((with_reducible show Ix _ _ _ _ _); (first | refine Ix.h ?_ | refine Ix.ha ?_)) | (refine Al.hp H ?_; clear H; intro _ _ H _) | (refine St.h H ?_; clear H; intro _ H))
    replace H := Hp.swap (Hp.cdqS (H.sel [0, 1, 0, 0, 0, 0] rfl))
    refine ⟨(i + 1, B', d', L ++ [(rdF t, CA, cc)]), ⟨at_int (m := ((i + 1 : Nat) : Int)) rfl (w64 (by simp) (by omega) (by omega)), rfl, rfl, rfl, rfl, trivial⟩, rfl, ⟨by simp only; omega, ?_, ?_⟩, by simp only; omega⟩
    · simp only [hq]; rw [← hL]; simp [fns]
    · simp only [hq, List.length_append, List.length_cons, List.length_nil]
      exact H
  have hi : i = dcN (x :: r) := by omega
  subst hi
  have hQ : dcQ (x :: r) = rdFs s1 (dcN (x :: r)) := by rw [dcQ, ← hs1]; rfl
  rw [← hQ] at H hL
  obtain ⟨A', c', hA', hc', hb'⟩ := H.atC 3 rfl
  replace H := H.upd (c := rr w pr (dcQ (x :: r)).2.1 (dcQ (x :: r)).2.2) (Hp.start (S := (· = pr)) (bk_ok hb') (fun k hk => hk)) rfl (.inl rfl)
  have hd0 : decL (x :: r) s = if (dcQ (x :: r)).2.2 = true ∨ (dcQ (x :: r)).2.1 ≠ [] then (57, []) else if (checkL (dcQ (x :: r)).1).1 ≠ 0 then ((checkL (dcQ (x :: r)).1).1, []) else (0, (dcQ (x :: r)).1) := by
    unfold decL; rw [if_neg (by simpa using hs), if_neg (by simpa [nx] using h0)]
  rw [hd0]
  clear hlt hQ hb' hd0
  generalize dcQ (x :: r) = Q at *
  obtain ⟨fs, rest, bad⟩ := Q
  simp only at H hL ⊢
  cases bad with
  | true =>
    repeat' ((conv => whnf); first | (((with_reducible show Gd _ _ _); first | with_reducible refine Gd.t ?_ | with_reducible refine Gd.f ?_ | with_reducible refine Gd.dec (fun _ => ?_) (fun _ => ?_) | with_reducible refine Gd.beq (fun _ => ?_) (fun _ => ?_) | with_reducible refine Gd.bne (fun _ => ?_) (fun _ => ?_) | with_reducible refine Gd.not ?_ | refine Gd.t ?_ | refine Gd.f ?_ | with_reducible refine Gd.var (fun _ => ?_) (fun _ => ?_)) <;> first | (exfalso; omega) | skip) | with_reducible refine Sq.mk ?_ | ((with_reducible show Ld1 _ _ _); first | refine Ld1.h H ?_ | refine Ld1.rF ?_ | refine Ld1.r ?_) | ((with_reducible show Ld _ _ _ _); first | refine Ld.h H ?_ | refine Ld.r ?_) | ((with_reducible show Ix _ _ _ _ _); (first | refine Ix.h ?_ | refine Ix.ha ?_)) | (refine Al.hp H ?_; clear H; intro _ _ H _) | (refine St.h H ?_; clear H; intro _ H))
    exact DecodedQ.no H (by rw [if_pos (.inl rfl)])
  | false =>
    cases rest with
    | cons y rest =>
      have hpos : (0 : Int) < ((y :: rest).length : Int) := by rw [List.length_cons]; omega
      repeat' ((conv => whnf); first | (((with_reducible show Gd _ _ _); first | with_reducible refine Gd.t ?_ | with_reducible refine Gd.f ?_ | with_reducible refine Gd.dec (fun _ => ?_) (fun _ => ?_) | with_reducible refine Gd.beq (fun _ => ?_) (fun _ => ?_) | with_reducible refine Gd.bne (fun _ => ?_) (fun _ => ?_) | with_reducible refine Gd.not ?_ | refine Gd.t ?_ | refine Gd.f ?_ | with_reducible refine Gd.var (fun _ => ?_) (fun _ => ?_)) <;> first | (exfalso; omega) | skip) | with_reducible refine Sq.mk ?_ | ((with_reducible show Ld1 _ _ _); first | refine Ld1.h H ?_ | refine Ld1.rF ?_ | refine Ld1.r ?_) | ((with_reducible show Ld _ _ _ _); first | refine Ld.h H ?_ | refine Ld.r ?_) | ((with_reducible show Ix _ _ _ _ _); (first | refine Ix.h ?_ | refine Ix.ha ?_)) | (refine Al.hp H ?_; clear H; intro _ _ H _) | (refine St.h H ?_; clear H; intro _ H))
      exact DecodedQ.no H (by rw [if_pos (.inr (by simp))])
    | nil =>
      have hz0 : ((([] : List Int).length : Nat) : Int) = 0 := rfl
      rw [if_neg (by simp)]
      repeat' ((conv => whnf); first | (((with_reducible show Gd _ _ _); first | with_reducible refine Gd.t ?_ | with_reducible refine Gd.f ?_ | with_reducible refine Gd.dec (fun _ => ?_) (fun _ => ?_) | with_reducible refine Gd.beq (fun _ => ?_) (fun _ => ?_) | with_reducible refine Gd.bne (fun _ => ?_) (fun _ => ?_) | with_reducible refine Gd.not ?_ | refine Gd.t ?_ | refine Gd.f ?_ | with_reducible refine Gd.var (fun _ => ?_) (fun _ => ?_)) <;> first | (exfalso; omega) | skip) | with_reducible refine Sq.mk ?_ | ((with_reducible show Ld1 _ _ _); first | refine Ld1.h H ?_ | refine Ld1.rF ?_ | refine Ld1.r ?_) | ((with_reducible show Ld _ _ _ _); first | refine Ld.h H ?_ | refine Ld.r ?_) | ((with_reducible show Ix _ _ _ _ _); (first | refine Ix.h ?_ | refine Ix.ha ?_)) | (refine Al.hp H ?_; clear H; intro _ _ H _) | (refine St.h H ?_; clear H; intro _ H))
      (((conv => whnf); refine Cl.mk (Check_c B L d _ (RdS.from H.e hG) ⟨H.rdq 0 rfl, fun x hx => Que.rd ((H.atC (c := cdq L) 1 rfl).1 x hx)⟩) ?_); rintro _ _ ⟨rfl, hx⟩; replace H := H.ext hx; clear hx)
      rw [hL]
      ((conv => whnf); refine Al.hp H ?_; clear H; intro p7 _ H _)
      by_cases hz : (checkL fs).1 = 0
      · repeat' ((conv => whnf); first | (((with_reducible show Gd _ _ _); first | with_reducible refine Gd.t ?_ | with_reducible refine Gd.f ?_ | with_reducible refine Gd.dec (fun _ => ?_) (fun _ => ?_) | with_reducible refine Gd.beq (fun _ => ?_) (fun _ => ?_) | with_reducible refine Gd.bne (fun _ => ?_) (fun _ => ?_) | with_reducible refine Gd.not ?_ | refine Gd.t ?_ | refine Gd.f ?_ | with_reducible refine Gd.var (fun _ => ?_) (fun _ => ?_)) <;> first | (exfalso; omega) | skip) | with_reducible refine Sq.mk ?_ | ((with_reducible show Ld1 _ _ _); first | refine Ld1.h H ?_ | refine Ld1.rF ?_ | refine Ld1.r ?_) | ((with_reducible show Ld _ _ _ _); first | refine Ld.h H ?_ | refine Ld.r ?_) | ((with_reducible show Ix _ _ _ _ _); (first | refine Ix.h ?_ | refine Ix.ha ?_)) | (refine Al.hp H ?_; clear H; intro _ _ H _) | (refine St.h H ?_; clear H; intro _ H))
        all_goals first | (exfalso; exact absurd hz (by assumption)) | skip
        all_goals exact ⟨B, d, L, by rw [if_neg (by simpa using hz)]; rfl, by rw [hL, if_neg (by simpa using hz)], H.sel [1, 1] rfl⟩
      · repeat' ((conv => whnf); first | (((with_reducible show Gd _ _ _); first | with_reducible refine Gd.t ?_ | with_reducible refine Gd.f ?_ | with_reducible refine Gd.dec (fun _ => ?_) (fun _ => ?_) | with_reducible refine Gd.beq (fun _ => ?_) (fun _ => ?_) | with_reducible refine Gd.bne (fun _ => ?_) (fun _ => ?_) | with_reducible refine Gd.not ?_ | refine Gd.t ?_ | refine Gd.f ?_ | with_reducible refine Gd.var (fun _ => ?_) (fun _ => ?_)) <;> first | (exfalso; omega) | skip) | with_reducible refine Sq.mk ?_ | ((with_reducible show Ld1 _ _ _); first | refine Ld1.h H ?_ | refine Ld1.rF ?_ | refine Ld1.r ?_) | ((with_reducible show Ld _ _ _ _); first | refine Ld.h H ?_ | refine Ld.r ?_) | ((with_reducible show Ix _ _ _ _ _); (first | refine Ix.h ?_ | refine Ix.ha ?_)) | (refine Al.hp H ?_; clear H; intro _ _ H _) | (refine St.h H ?_; clear H; intro _ H))
        all_goals first | (exfalso; exact absurd (by assumption) hz) | skip
        (conv => whnf)
        refine Dr.ch T.ok mixed [0, 1, 2] [3, 4] (by kernel_rfl) rfl rfl (fun w' => Blk w' p7 48 (fvV (checkL fs)).cells.toList) (fun w1 eT _ => ?_)
        replace H := H.ext eT
        repeat' ((conv => whnf); refine QLd1.own (fun _ hw => hw) ?_)
        (conv => whnf)
        refine ⟨H.blk 0 rfl, ?_⟩
        refine St.h H (fun w2 H => ?_)
        (conv => whnf)
        refine ⟨H.blk 0 rfl, ?_⟩
        repeat' ((conv => whnf); first | (((with_reducible show Gd _ _ _); first | with_reducible refine Gd.t ?_ | with_reducible refine Gd.f ?_ | with_reducible refine Gd.dec (fun _ => ?_) (fun _ => ?_) | with_reducible refine Gd.beq (fun _ => ?_) (fun _ => ?_) | with_reducible refine Gd.bne (fun _ => ?_) (fun _ => ?_) | with_reducible refine Gd.not ?_ | refine Gd.t ?_ | refine Gd.f ?_ | with_reducible refine Gd.var (fun _ => ?_) (fun _ => ?_)) <;> first | (exfalso; omega) | skip) | with_reducible refine Sq.mk ?_ | ((with_reducible show Ld1 _ _ _); first | refine Ld1.h H ?_ | refine Ld1.rF ?_ | refine Ld1.r ?_) | ((with_reducible show Ld _ _ _ _); first | refine Ld.h H ?_ | refine Ld.r ?_) | ((with_reducible show Ix _ _ _ _ _); (first | refine Ix.h ?_ | refine Ix.ha ?_)) | (refine Al.hp H ?_; clear H; intro _ _ H _) | (refine St.h H ?_; clear H; intro _ H))
        refine DecodedQ.no H ?_
        exact if_pos hz
theorem Decode_sq (A : Option Addr) (c : Nat) (l : List Int) (w : World) (hl : l.length < 3) :
    Cl Tryd.prog 45 #[.slice A l.length c] w (DecodedQ (57, []) w) (fun _ _ => False) := by
  refine calls_ex (args := [.slice A l.length c]) T.ok Tryd.func45 rfl rfl rfl rfl ?_
  have H := Hp.begin nw w
  refine Sq.mk ?_
  ((conv => whnf); refine Al.hp H ?_; clear H; intro pp _ H _)
  repeat' ((conv => whnf); first | (((with_reducible show Gd _ _ _); first | with_reducible refine Gd.t ?_ | with_reducible refine Gd.f ?_ | with_reducible refine Gd.dec (fun _ => ?_) (fun _ => ?_) | with_reducible refine Gd.beq (fun _ => ?_) (fun _ => ?_) | with_reducible refine Gd.bne (fun _ => ?_) (fun _ => ?_) | with_reducible refine Gd.not ?_ | refine Gd.t ?_ | refine Gd.f ?_ | with_reducible refine Gd.var (fun _ => ?_) (fun _ => ?_)) <;> first | (exfalso; omega) | skip) | with_reducible refine Sq.mk ?_ | ((with_reducible show Ld1 _ _ _); first | refine Ld1.h H ?_ | refine Ld1.rF ?_ | refine Ld1.r ?_) | ((with_reducible show Ld _ _ _ _); first | refine Ld.h H ?_ | refine Ld.r ?_) | ((with_reducible show Ix _ _ _ _ _); (first | refine Ix.h ?_ | refine Ix.ha ?_)) | (refine Al.hp H ?_; clear H; intro _ _ H _) | (refine St.h H ?_; clear H; intro _ H))
  exact DecodedQ.no H rfl
theorem Decode_a (A : Option Addr) (c : Nat) (l : List Int) (w : World) (hG : RdG w) (hA : RdS ints 1 w A l) (hc : l.length ≤ c) (hl : l.length ≤ 9223372036854770000) :
    Cl Tryd.prog 45 #[.slice A l.length c] w (DecodedQ (decA l) w) (fun _ _ => False) := by
  by_cases h3 : l.length < 3
  · have := Decode_sq A c l w h3
    unfold decA
    rwa [if_pos h3]
  · obtain ⟨x, r, s, rfl, h1⟩ := words_split h3
    rw [decA_app x r s h1]
    have hlen : (x :: r ++ [s]).length = r.length + 2 := by simp
    exact Decode_q A c x r s w hG hA (by omega) h1 (by omega)
theorem decA_or (l : List Int) : Valid (decA l).2 ∨ (decA l).2 = [] := by
  unfold decA
  split
  · exact .inr rfl
  · unfold decL
    split; · exact .inr rfl
    split; · exact .inr rfl
    split; · exact .inr rfl
    split
    · exact .inr rfl
    · rename_i hz
      exact .inl (check_ok.1 (Classical.not_not.1 hz))
end Go.Proofs.YtbbadmlekagloaaDoor
namespace Go.Proofs.YtbbadmlekagloaaDoor
open Go Go.Sh
set_option linter.unusedVariables false
set_option linter.unusedSimpArgs false
attribute [local irreducible] Blk Ext RdS
theorem dec_small {l : List Int} {L : List FE} (h : fns L = (decA l).2) : L.length ≤ 32 ∧ ∀ x ∈ L, 1 ≤ x.1.code.length ∧ x.1.code.length ≤ 512 := by
  rcases decA_or l with hV | hV
  · rw [← h] at hV
    have := hV.len
    rw [fns_len] at this
    exact ⟨this.2, fun x hx => shaped_len (hV.shaped x.1 (List.mem_map.2 ⟨x, hx, rfl⟩))⟩
  · rw [hV] at h
    have : L = [] := by simpa [fns] using h
    subst this
    simp
set_option maxHeartbeats 1000000 in
theorem decodePlaced_c (A : Option Addr) (c : Nat) (l : List Int) (w : World) (hG : RdG w) (hA : RdS ints 1 w A l) (hc : l.length ≤ c) (hl : l.length ≤ 1048576) :
    Cl Tryd.prog 47 #[.slice A l.length c] w (fun v w' => v = .bool true ∧ Ext w w') (fun _ _ => False) := by
  refine calls_ex (args := [.slice A l.length c]) T.ok Tryd.func47 rfl rfl rfl rfl ?_
  have H := Hp.begin nw w
  repeat' ((conv => whnf); first | (((with_reducible show Gd _ _ _); first | with_reducible refine Gd.t ?_ | with_reducible refine Gd.f ?_ | with_reducible refine Gd.dec (fun _ => ?_) (fun _ => ?_) | with_reducible refine Gd.beq (fun _ => ?_) (fun _ => ?_) | with_reducible refine Gd.bne (fun _ => ?_) (fun _ => ?_) | with_reducible refine Gd.not ?_ | refine Gd.t ?_ | refine Gd.f ?_ | with_reducible refine Gd.var (fun _ => ?_) (fun _ => ?_)) <;> first | (exfalso; omega) | skip) | with_reducible refine Sq.mk ?_ | ((with_reducible show Ld1 _ _ _); first | refine Ld1.h H ?_ | refine Ld1.rF ?_ | refine Ld1.r ?_) | ((with_reducible show Ld _ _ _ _); first | refine Ld.h H ?_ | refine Ld.r ?_) | ((with_reducible show Ix _ _ _ _ _); (first | refine Ix.h ?_ | refine Ix.ha ?_)) | (refine Al.hp H ?_; clear H; intro _ _ H _) | (refine St.h H ?_; clear H; intro _ H))
  refine Sm.makeh (enc := ints) (z := (0 : Int)) (n := l.length) H T.ok ?_ (by omega) (fun pl w2 H _ => ?_)
  · show 8 * l.length ≤ _; omega
  replace H := Hp.bq (sz := 1) H (fun _ _ => rfl)
  rw [List.length_replicate] at H
  repeat' ((conv => whnf); first | (((with_reducible show Gd _ _ _); first | with_reducible refine Gd.t ?_ | with_reducible refine Gd.f ?_ | with_reducible refine Gd.dec (fun _ => ?_) (fun _ => ?_) | with_reducible refine Gd.beq (fun _ => ?_) (fun _ => ?_) | with_reducible refine Gd.bne (fun _ => ?_) (fun _ => ?_) | with_reducible refine Gd.not ?_ | refine Gd.t ?_ | refine Gd.f ?_ | with_reducible refine Gd.var (fun _ => ?_) (fun _ => ?_)) <;> first | (exfalso; omega) | skip) | with_reducible refine Sq.mk ?_ | ((with_reducible show Ld1 _ _ _); first | refine Ld1.h H ?_ | refine Ld1.rF ?_ | refine Ld1.r ?_) | ((with_reducible show Ld _ _ _ _); first | refine Ld.h H ?_ | refine Ld.r ?_) | ((with_reducible show Ix _ _ _ _ _); (first | refine Ix.h ?_ | refine Ix.ha ?_)) | (refine Al.hp H ?_; clear H; intro _ _ H _) | (refine St.h H ?_; clear H; intro _ H))
  refine Sm.makeh (enc := ints) (z := (0 : Int)) (n := l.length) H T.ok ?_ (by omega) (fun pt w2 H _ => ?_)
  · show 8 * l.length ≤ _; omega
  replace H := Hp.bq (sz := 1) H (fun _ _ => rfl)
  rw [List.length_replicate] at H
  repeat' ((conv => whnf); first | (((with_reducible show Gd _ _ _); first | with_reducible refine Gd.t ?_ | with_reducible refine Gd.f ?_ | with_reducible refine Gd.dec (fun _ => ?_) (fun _ => ?_) | with_reducible refine Gd.beq (fun _ => ?_) (fun _ => ?_) | with_reducible refine Gd.bne (fun _ => ?_) (fun _ => ?_) | with_reducible refine Gd.not ?_ | refine Gd.t ?_ | refine Gd.f ?_ | with_reducible refine Gd.var (fun _ => ?_) (fun _ => ?_)) <;> first | (exfalso; omega) | skip) | with_reducible refine Sq.mk ?_ | ((with_reducible show Ld1 _ _ _); first | refine Ld1.h H ?_ | refine Ld1.rF ?_ | refine Ld1.r ?_) | ((with_reducible show Ld _ _ _ _); first | refine Ld.h H ?_ | refine Ld.r ?_) | ((with_reducible show Ix _ _ _ _ _); (first | refine Ix.h ?_ | refine Ix.ha ?_)) | (refine Al.hp H ?_; clear H; intro _ _ H _) | (refine St.h H ?_; clear H; intro _ H))
  refine Lp.g0 T.ok (σ := Nat × List Int) (fun s => [(6, .int .i64 (s.1 : Int)), (5, .slice (some ⟨pt, 0, none⟩) l.length l.length), (4, .slice (some ⟨pl, 0, none⟩) l.length l.length), (3, .int .i64 (l.length : Int)), (0, .slice A l.length c)])
    (fun s w' => s.1 ≤ l.length ∧ s.2.length = l.length ∧ Hp nw w w' [qu ints 1 2 (some ⟨pt, 0, none⟩) l.length s.2, qu ints 1 2 (some ⟨pl, 0, none⟩) l.length s.2]) (fun s _ => l.length - s.1) (0, List.replicate l.length 0) rfl ⟨rfl, rfl, rfl, rfl, rfl, trivial⟩ ⟨Nat.zero_le _, by simp, H⟩ ?_
  clear H
  rintro ⟨i, M⟩ w5 ⟨hi, hM, H⟩
  simp only at hi hM H ⊢
  by_cases hlt : i < l.length
  · obtain ⟨x, hx⟩ : ∃ x, l[l.length - 1 - i]? = some x := ⟨_, List.getElem?_eq_getElem (by omega)⟩
    have hwn : IntKind.i64.wrap ((l.length : Int) - 1) = ((l.length - 1 : Nat) : Int) := w64 (by omega) (by omega) (by omega)
    have hwi : IntKind.i64.wrap (((l.length - 1 : Nat) : Int) - (i : Int)) = ((l.length - 1 - i : Nat) : Int) := w64 (by omega) (by omega) (by omega)
    rw [← hwn] at hwi
    have hil : l.length - 1 - i < l.length := by omega
    have hiM : i < M.length := by omega
    have hA5 := RdS.from H.e hA
    have hT5 : RdS ints 1 w5 (some ⟨pt, 0, none⟩) M := H.rdq 0 rfl
    have hL5 : RdS ints 1 w5 (some ⟨pl, 0, none⟩) M := H.rdq 1 rfl
    repeat' ((conv => whnf); first | (((with_reducible show Gd _ _ _); first | with_reducible refine Gd.t ?_ | with_reducible refine Gd.f ?_ | with_reducible refine Gd.dec (fun _ => ?_) (fun _ => ?_) | with_reducible refine Gd.beq (fun _ => ?_) (fun _ => ?_) | with_reducible refine Gd.bne (fun _ => ?_) (fun _ => ?_) | with_reducible refine Gd.not ?_ | refine Gd.t ?_ | refine Gd.f ?_ | with_reducible refine Gd.var (fun _ => ?_) (fun _ => ?_)) <;> first | (exfalso; omega) | skip) | with_reducible refine Sq.mk ?_ | ((with_reducible show Ld1 _ _ _); first | refine Ld1.h H ?_ | refine Ld1.rF ?_ | refine Ld1.r ?_) | ((with_reducible show Ld _ _ _ _); first | refine Ld.h H ?_ | refine Ld.r ?_) | ((with_reducible show Ix _ _ _ _ _); (first | refine Ix.h ?_ | refine Ix.ha ?_)) | (refine Al.hp H ?_; clear H; intro _ _ H _) | (refine St.h H ?_; clear H; intro _ H))
    obtain ⟨v, hv⟩ : ∃ v, v = IntKind.i64.wrap (x + 1) := ⟨_, rfl⟩
    rw [← hv]
    refine St.elq (enc := ints) (l := M) (c := l.length) (x := v) H rfl hiM rfl (fun w' H => ?_)
    simp only [List.nil_append] at H
    clear hA5 hT5 hL5
    have hT5 : RdS ints 1 _ (some ⟨pt, 0, none⟩) (M.set i v) := H.rdq 0 rfl
    have hL5 : RdS ints 1 _ (some ⟨pl, 0, none⟩) M := H.rdq 1 rfl
    have hg : (M.set i v)[i]? = some v := by simp [hiM]
    have hMs : (M.set i v).length = l.length := by simpa using hM
    have hiS : i < (M.set i v).length := by omega
    repeat' ((conv => whnf); first | (((with_reducible show Gd _ _ _); first | with_reducible refine Gd.t ?_ | with_reducible refine Gd.f ?_ | with_reducible refine Gd.dec (fun _ => ?_) (fun _ => ?_) | with_reducible refine Gd.beq (fun _ => ?_) (fun _ => ?_) | with_reducible refine Gd.bne (fun _ => ?_) (fun _ => ?_) | with_reducible refine Gd.not ?_ | refine Gd.t ?_ | refine Gd.f ?_ | with_reducible refine Gd.var (fun _ => ?_) (fun _ => ?_)) <;> first | (exfalso; omega) | skip) | with_reducible refine Sq.mk ?_ | ((with_reducible show Ld1 _ _ _); first | refine Ld1.h H ?_ | refine Ld1.rF ?_ | refine Ld1.r ?_) | ((with_reducible show Ld _ _ _ _); first | refine Ld.h H ?_ | refine Ld.r ?_) | ((with_reducible show Ix _ _ _ _ _); (first | refine Ix.h ?_ | refine Ix.ha ?_)) | (refine Al.hp H ?_; clear H; intro _ _ H _) | (refine St.h H ?_; clear H; intro _ H))
    refine St.elq (enc := ints) (l := M) (c := l.length) (x := v) H rfl hiM rfl (fun w' H => ?_) (u := .tail .head)
    simp only [List.cons_append, List.nil_append] at H
    clear hT5 hL5
    repeat' ((conv => whnf); first | (((with_reducible show Gd _ _ _); first | with_reducible refine Gd.t ?_ | with_reducible refine Gd.f ?_ | with_reducible refine Gd.dec (fun _ => ?_) (fun _ => ?_) | with_reducible refine Gd.beq (fun _ => ?_) (fun _ => ?_) | with_reducible refine Gd.bne (fun _ => ?_) (fun _ => ?_) | with_reducible refine Gd.not ?_ | refine Gd.t ?_ | refine Gd.f ?_ | with_reducible refine Gd.var (fun _ => ?_) (fun _ => ?_)) <;> first | (exfalso; omega) | skip) | with_reducible refine Sq.mk ?_ | ((with_reducible show Ld1 _ _ _); first | refine Ld1.h H ?_ | refine Ld1.rF ?_ | refine Ld1.r ?_) | ((with_reducible show Ld _ _ _ _); first | refine Ld.h H ?_ | refine Ld.r ?_) | ((with_reducible show Ix _ _ _ _ _); (first | refine Ix.h ?_ | refine Ix.ha ?_)) | (refine Al.hp H ?_; clear H; intro _ _ H _) | (refine St.h H ?_; clear H; intro _ H))
    exact ⟨(i + 1, M.set i v), ⟨at_int (m := ((i + 1 : Nat) : Int)) rfl (w64 (by simp) (by omega) (by omega)), rfl, rfl, rfl, rfl, trivial⟩, rfl, ⟨by simp only; omega, hMs, H⟩, by simp only; omega⟩
  have hi : i = l.length := by omega
  subst hi
  clear hlt
  repeat' ((conv => whnf); first | (((with_reducible show Gd _ _ _); first | with_reducible refine Gd.t ?_ | with_reducible refine Gd.f ?_ | with_reducible refine Gd.dec (fun _ => ?_) (fun _ => ?_) | with_reducible refine Gd.beq (fun _ => ?_) (fun _ => ?_) | with_reducible refine Gd.bne (fun _ => ?_) (fun _ => ?_) | with_reducible refine Gd.not ?_ | refine Gd.t ?_ | refine Gd.f ?_ | with_reducible refine Gd.var (fun _ => ?_) (fun _ => ?_)) <;> first | (exfalso; omega) | skip) | with_reducible refine Sq.mk ?_ | ((with_reducible show Ld1 _ _ _); first | refine Ld1.h H ?_ | refine Ld1.rF ?_ | refine Ld1.r ?_) | ((with_reducible show Ld _ _ _ _); first | refine Ld.h H ?_ | refine Ld.r ?_) | ((with_reducible show Ix _ _ _ _ _); (first | refine Ix.h ?_ | refine Ix.ha ?_)) | (refine Al.hp H ?_; clear H; intro _ _ H _) | (refine St.h H ?_; clear H; intro _ H))
  have hD1 := Decode_a (some ⟨pl, 0, none⟩) l.length M _ (RdS.from H.e hG) (H.rdq 1 rfl) (by omega) (by omega)
  rw [hM] at hD1
  ((conv => whnf); refine Cl.mk (hD1) ?_)
  rintro _ w1 hq
  obtain ⟨B1, c1, L1, rfl, hL1, H'⟩ := hq.plain
  replace H := H.fr0L H' (by simp [Ck.new])
  simp only [List.cons_append, List.nil_append] at H
  clear H' hD1 hq
  repeat' ((conv => whnf); first | (((with_reducible show Gd _ _ _); first | with_reducible refine Gd.t ?_ | with_reducible refine Gd.f ?_ | with_reducible refine Gd.dec (fun _ => ?_) (fun _ => ?_) | with_reducible refine Gd.beq (fun _ => ?_) (fun _ => ?_) | with_reducible refine Gd.bne (fun _ => ?_) (fun _ => ?_) | with_reducible refine Gd.not ?_ | refine Gd.t ?_ | refine Gd.f ?_ | with_reducible refine Gd.var (fun _ => ?_) (fun _ => ?_)) <;> first | (exfalso; omega) | skip) | with_reducible refine Sq.mk ?_ | ((with_reducible show Ld1 _ _ _); first | refine Ld1.h H ?_ | refine Ld1.rF ?_ | refine Ld1.r ?_) | ((with_reducible show Ld _ _ _ _); first | refine Ld.h H ?_ | refine Ld.r ?_) | ((with_reducible show Ix _ _ _ _ _); (first | refine Ix.h ?_ | refine Ix.ha ?_)) | (refine St.h H ?_; clear H; intro _ H))
  ((conv => whnf); refine Al.hp H ?_; clear H; intro p7 _ H _)
  repeat' ((conv => whnf); first | (((with_reducible show Gd _ _ _); first | with_reducible refine Gd.t ?_ | with_reducible refine Gd.f ?_ | with_reducible refine Gd.dec (fun _ => ?_) (fun _ => ?_) | with_reducible refine Gd.beq (fun _ => ?_) (fun _ => ?_) | with_reducible refine Gd.bne (fun _ => ?_) (fun _ => ?_) | with_reducible refine Gd.not ?_ | refine Gd.t ?_ | refine Gd.f ?_ | with_reducible refine Gd.var (fun _ => ?_) (fun _ => ?_)) <;> first | (exfalso; omega) | skip) | with_reducible refine Sq.mk ?_ | ((with_reducible show Ld1 _ _ _); first | refine Ld1.h H ?_ | refine Ld1.rF ?_ | refine Ld1.r ?_) | ((with_reducible show Ld _ _ _ _); first | refine Ld.h H ?_ | refine Ld.r ?_) | ((with_reducible show Ix _ _ _ _ _); (first | refine Ix.h ?_ | refine Ix.ha ?_)) | (refine Al.hp H ?_; clear H; intro _ _ H _) | (refine St.h H ?_; clear H; intro _ H))
  refine Lp.g0 T.ok (σ := Nat × List Int) (fun s => [(9, .int .i64 (s.1 : Int)), (8, .int .i64 (decA M).1), (7, .pointer (some ⟨p7, 0, none⟩)), (5, .slice (some ⟨pt, 0, none⟩) l.length l.length), (4, .slice (some ⟨pl, 0, none⟩) l.length l.length), (3, .int .i64 (l.length : Int)), (0, .slice A l.length c)])
    (fun s w' => s.1 ≤ l.length ∧ s.2.length = l.length ∧ s.2.take s.1 = l.take s.1 ∧ Hp nw w w' [bk p7 46 (pv B1 L1.length c1).cells.toList, qu FE.enc 4 24 B1 c1 L1, cds L1, qu ints 1 2 (some ⟨pt, 0, none⟩) l.length M, qu ints 1 2 (some ⟨pl, 0, none⟩) l.length s.2]) (fun s _ => l.length - s.1) (0, M) rfl ⟨rfl, rfl, rfl, rfl, rfl, rfl, rfl, trivial⟩ ⟨Nat.zero_le _, hM, by simp, H⟩ ?_
  clear H
  rintro ⟨i, f⟩ w5 ⟨hi, hf, hft, H⟩
  simp only at hi hf hft H ⊢
  by_cases hlt : i < l.length
  · obtain ⟨x, hx⟩ : ∃ x, l[i]? = some x := ⟨_, List.getElem?_eq_getElem hlt⟩
    obtain ⟨h1, h2⟩ := List.getElem?_eq_some_iff.1 hx
    have hA5 := RdS.from H.e hA
    have hif : i < f.length := by omega
    have hL5 : RdS ints 1 w5 (some ⟨pl, 0, none⟩) f := H.rdq 4 rfl
    repeat' ((conv => whnf); first | (((with_reducible show Gd _ _ _); first | with_reducible refine Gd.t ?_ | with_reducible refine Gd.f ?_ | with_reducible refine Gd.dec (fun _ => ?_) (fun _ => ?_) | with_reducible refine Gd.beq (fun _ => ?_) (fun _ => ?_) | with_reducible refine Gd.bne (fun _ => ?_) (fun _ => ?_) | with_reducible refine Gd.not ?_ | refine Gd.t ?_ | refine Gd.f ?_ | with_reducible refine Gd.var (fun _ => ?_) (fun _ => ?_)) <;> first | (exfalso; omega) | skip) | with_reducible refine Sq.mk ?_ | ((with_reducible show Ld1 _ _ _); first | refine Ld1.h H ?_ | refine Ld1.rF ?_ | refine Ld1.r ?_) | ((with_reducible show Ld _ _ _ _); first | refine Ld.h H ?_ | refine Ld.r ?_) | ((with_reducible show Ix _ _ _ _ _); (first | refine Ix.h ?_ | refine Ix.ha ?_)) | (refine Al.hp H ?_; clear H; intro _ _ H _) | (refine St.h H ?_; clear H; intro _ H))
    refine St.elq (enc := ints) (l := f) (c := l.length) (x := x) H rfl hif rfl (fun w' H => ?_) (u := .tail (.tail (.tail (.tail .head))))
    simp only [List.cons_append, List.nil_append] at H
    clear hA5 hL5
    repeat' ((conv => whnf); first | (((with_reducible show Gd _ _ _); first | with_reducible refine Gd.t ?_ | with_reducible refine Gd.f ?_ | with_reducible refine Gd.dec (fun _ => ?_) (fun _ => ?_) | with_reducible refine Gd.beq (fun _ => ?_) (fun _ => ?_) | with_reducible refine Gd.bne (fun _ => ?_) (fun _ => ?_) | with_reducible refine Gd.not ?_ | refine Gd.t ?_ | refine Gd.f ?_ | with_reducible refine Gd.var (fun _ => ?_) (fun _ => ?_)) <;> first | (exfalso; omega) | skip) | with_reducible refine Sq.mk ?_ | ((with_reducible show Ld1 _ _ _); first | refine Ld1.h H ?_ | refine Ld1.rF ?_ | refine Ld1.r ?_) | ((with_reducible show Ld _ _ _ _); first | refine Ld.h H ?_ | refine Ld.r ?_) | ((with_reducible show Ix _ _ _ _ _); (first | refine Ix.h ?_ | refine Ix.ha ?_)) | (refine Al.hp H ?_; clear H; intro _ _ H _) | (refine St.h H ?_; clear H; intro _ H))
    refine ⟨(i + 1, f.set i x), ⟨at_int (m := ((i + 1 : Nat) : Int)) rfl (w64 (by simp) (by omega) (by omega)), rfl, rfl, rfl, rfl, rfl, rfl, trivial⟩, rfl, ⟨by simp only; omega, by simpa using hf, ?_, H⟩, by simp only; omega⟩
    rw [List.take_succ_eq_append_getElem h1, h2, List.take_succ_eq_append_getElem (by simp; omega), List.take_set_of_le (Nat.le_refl _), hft]
    simp
  have hi : i = l.length := by omega
  subst hi
  rw [List.take_length, List.take_of_length_le (by omega)] at hft
  subst hft
  clear hlt hf
  repeat' ((conv => whnf); first | (((with_reducible show Gd _ _ _); first | with_reducible refine Gd.t ?_ | with_reducible refine Gd.f ?_ | with_reducible refine Gd.dec (fun _ => ?_) (fun _ => ?_) | with_reducible refine Gd.beq (fun _ => ?_) (fun _ => ?_) | with_reducible refine Gd.bne (fun _ => ?_) (fun _ => ?_) | with_reducible refine Gd.not ?_ | refine Gd.t ?_ | refine Gd.f ?_ | with_reducible refine Gd.var (fun _ => ?_) (fun _ => ?_)) <;> first | (exfalso; omega) | skip) | with_reducible refine Sq.mk ?_ | ((with_reducible show Ld1 _ _ _); first | refine Ld1.h H ?_ | refine Ld1.rF ?_ | refine Ld1.r ?_) | ((with_reducible show Ld _ _ _ _); first | refine Ld.h H ?_ | refine Ld.r ?_) | ((with_reducible show Ix _ _ _ _ _); (first | refine Ix.h ?_ | refine Ix.ha ?_)) | (refine Al.hp H ?_; clear H; intro _ _ H _) | (refine St.h H ?_; clear H; intro _ H))
  ((conv => whnf); refine Cl.mk (Decode_a (some ⟨pl, 0, none⟩) f.length f _ (RdS.from H.e hG) (H.rdq 4 rfl) (by omega) (by omega)) ?_)
  rintro _ w2 hq
  obtain ⟨B2, c2, L2, rfl, hL2, H'⟩ := hq.plain
  replace H := H.fr0L H' (by simp [Ck.new])
  simp only [List.cons_append, List.nil_append] at H
  clear H' hq
  repeat' ((conv => whnf); first | (((with_reducible show Gd _ _ _); first | with_reducible refine Gd.t ?_ | with_reducible refine Gd.f ?_ | with_reducible refine Gd.dec (fun _ => ?_) (fun _ => ?_) | with_reducible refine Gd.beq (fun _ => ?_) (fun _ => ?_) | with_reducible refine Gd.bne (fun _ => ?_) (fun _ => ?_) | with_reducible refine Gd.not ?_ | refine Gd.t ?_ | refine Gd.f ?_ | with_reducible refine Gd.var (fun _ => ?_) (fun _ => ?_)) <;> first | (exfalso; omega) | skip) | with_reducible refine Sq.mk ?_ | ((with_reducible show Ld1 _ _ _); first | refine Ld1.h H ?_ | refine Ld1.rF ?_ | refine Ld1.r ?_) | ((with_reducible show Ld _ _ _ _); first | refine Ld.h H ?_ | refine Ld.r ?_) | ((with_reducible show Ix _ _ _ _ _); (first | refine Ix.h ?_ | refine Ix.ha ?_)) | (refine St.h H ?_; clear H; intro _ H))
  ((conv => whnf); refine Al.hp H ?_; clear H; intro p10 _ H _)
  repeat' ((conv => whnf); first | (((with_reducible show Gd _ _ _); first | with_reducible refine Gd.t ?_ | with_reducible refine Gd.f ?_ | with_reducible refine Gd.dec (fun _ => ?_) (fun _ => ?_) | with_reducible refine Gd.beq (fun _ => ?_) (fun _ => ?_) | with_reducible refine Gd.bne (fun _ => ?_) (fun _ => ?_) | with_reducible refine Gd.not ?_ | refine Gd.t ?_ | refine Gd.f ?_ | with_reducible refine Gd.var (fun _ => ?_) (fun _ => ?_)) <;> first | (exfalso; omega) | skip) | with_reducible refine Sq.mk ?_ | ((with_reducible show Ld1 _ _ _); first | refine Ld1.h H ?_ | refine Ld1.rF ?_ | refine Ld1.r ?_) | ((with_reducible show Ld _ _ _ _); first | refine Ld.h H ?_ | refine Ld.r ?_) | ((with_reducible show Ix _ _ _ _ _); (first | refine Ix.h ?_ | refine Ix.ha ?_)) | (refine Al.hp H ?_; clear H; intro _ _ H _) | (refine St.h H ?_; clear H; intro _ H))
  have hD3 := rDecode_c (some ⟨pt, 0, none⟩) f.length M _ (RdS.from H.e hG) (H.rdq 6 rfl) (by omega) (by omega)
  rw [hM] at hD3
  ((conv => whnf); refine Cl.mk (hD3) ?_)
  rintro _ w3 ⟨B3, c3, L3, rfl, hL3, H'⟩
  replace H := H.fr0L H' (by simp [Ck.new])
  simp only [List.cons_append, List.nil_append] at H
  clear H' hD3
  repeat' ((conv => whnf); first | (((with_reducible show Gd _ _ _); first | with_reducible refine Gd.t ?_ | with_reducible refine Gd.f ?_ | with_reducible refine Gd.dec (fun _ => ?_) (fun _ => ?_) | with_reducible refine Gd.beq (fun _ => ?_) (fun _ => ?_) | with_reducible refine Gd.bne (fun _ => ?_) (fun _ => ?_) | with_reducible refine Gd.not ?_ | refine Gd.t ?_ | refine Gd.f ?_ | with_reducible refine Gd.var (fun _ => ?_) (fun _ => ?_)) <;> first | (exfalso; omega) | skip) | with_reducible refine Sq.mk ?_ | ((with_reducible show Ld1 _ _ _); first | refine Ld1.h H ?_ | refine Ld1.rF ?_ | refine Ld1.r ?_) | ((with_reducible show Ld _ _ _ _); first | refine Ld.h H ?_ | refine Ld.r ?_) | ((with_reducible show Ix _ _ _ _ _); (first | refine Ix.h ?_ | refine Ix.ha ?_)) | (refine St.h H ?_; clear H; intro _ H))
  ((conv => whnf); refine Al.hp H ?_; clear H; intro p12 _ H _)
  repeat' ((conv => whnf); first | (((with_reducible show Gd _ _ _); first | with_reducible refine Gd.t ?_ | with_reducible refine Gd.f ?_ | with_reducible refine Gd.dec (fun _ => ?_) (fun _ => ?_) | with_reducible refine Gd.beq (fun _ => ?_) (fun _ => ?_) | with_reducible refine Gd.bne (fun _ => ?_) (fun _ => ?_) | with_reducible refine Gd.not ?_ | refine Gd.t ?_ | refine Gd.f ?_ | with_reducible refine Gd.var (fun _ => ?_) (fun _ => ?_)) <;> first | (exfalso; omega) | skip) | with_reducible refine Sq.mk ?_ | ((with_reducible show Ld1 _ _ _); first | refine Ld1.h H ?_ | refine Ld1.rF ?_ | refine Ld1.r ?_) | ((with_reducible show Ld _ _ _ _); first | refine Ld.h H ?_ | refine Ld.r ?_) | ((with_reducible show Ix _ _ _ _ _); (first | refine Ix.h ?_ | refine Ix.ha ?_)) | (refine Al.hp H ?_; clear H; intro _ _ H _) | (refine St.h H ?_; clear H; intro _ H))
  ((conv => whnf); refine Cl.mk (rDecode_c A c f _ (RdS.from H.e hG) (RdS.from H.e hA) hc (by omega)) ?_)
  rintro _ w4 ⟨B4, c4, L4, rfl, hL4, H'⟩
  replace H := H.fr0L H' (by simp [Ck.new])
  simp only [List.cons_append, List.nil_append] at H
  clear H'
  repeat' ((conv => whnf); first | (((with_reducible show Gd _ _ _); first | with_reducible refine Gd.t ?_ | with_reducible refine Gd.f ?_ | with_reducible refine Gd.dec (fun _ => ?_) (fun _ => ?_) | with_reducible refine Gd.beq (fun _ => ?_) (fun _ => ?_) | with_reducible refine Gd.bne (fun _ => ?_) (fun _ => ?_) | with_reducible refine Gd.not ?_ | refine Gd.t ?_ | refine Gd.f ?_ | with_reducible refine Gd.var (fun _ => ?_) (fun _ => ?_)) <;> first | (exfalso; omega) | skip) | with_reducible refine Sq.mk ?_ | ((with_reducible show Ld1 _ _ _); first | refine Ld1.h H ?_ | refine Ld1.rF ?_ | refine Ld1.r ?_) | ((with_reducible show Ld _ _ _ _); first | refine Ld.h H ?_ | refine Ld.r ?_) | ((with_reducible show Ix _ _ _ _ _); (first | refine Ix.h ?_ | refine Ix.ha ?_)) | (refine St.h H ?_; clear H; intro _ H))
  ((conv => whnf); refine Al.hp H ?_; clear H; intro p14 _ H _)
  obtain ⟨hs1, hs1c⟩ := dec_small hL1
  obtain ⟨hs2, hs2c⟩ := dec_small hL2
  have e13 : decide (fns L1 = fns L3) = true := decide_eq_true (hL1.trans hL3.symm)
  have e24 : decide (fns L2 = fns L4) = true := decide_eq_true (hL2.trans hL4.symm)
  repeat' (first | ((conv => whnf); first | (((with_reducible show Gd _ _ _); first | with_reducible refine Gd.t ?_ | with_reducible refine Gd.f ?_ | with_reducible refine Gd.dec (fun _ => ?_) (fun _ => ?_) | with_reducible refine Gd.beq (fun _ => ?_) (fun _ => ?_) | with_reducible refine Gd.bne (fun _ => ?_) (fun _ => ?_) | with_reducible refine Gd.not ?_ | refine Gd.t ?_ | refine Gd.f ?_ | with_reducible refine Gd.var (fun _ => ?_) (fun _ => ?_)) <;> first | (exfalso; omega) | skip) | with_reducible refine Sq.mk ?_ | ((with_reducible show Ld1 _ _ _); first | refine Ld1.h H ?_ | refine Ld1.rF ?_ | refine Ld1.r ?_) | ((with_reducible show Ld _ _ _ _); first | refine Ld.h H ?_ | refine Ld.r ?_) | ((with_reducible show Ix _ _ _ _ _); (first | refine Ix.h ?_ | refine Ix.ha ?_)) | (refine Al.hp H ?_; clear H; intro _ _ H _) | (refine St.h H ?_; clear H; intro _ H)) | ((((conv => whnf); refine Cl.mk (same_c B1 B3 L1 L3 c1 c3 _ ⟨H.rdq 10 rfl, H.atC 11 rfl⟩ ⟨H.rdq 4 rfl, H.atC 5 rfl⟩ (by omega) (fun x hx => by have := (hs1c x hx).2; omega)) ?_); rintro _ _ ⟨rfl, hx⟩; replace H := H.ext hx; clear hx); rw [e13]) | ((((conv => whnf); refine Cl.mk (same_c B2 B4 L2 L4 c2 c4 _ ⟨H.rdq 7 rfl, H.atC 8 rfl⟩ ⟨H.rdq 1 rfl, H.atC 2 rfl⟩ (by omega) (fun x hx => by have := (hs2c x hx).2; omega)) ?_); rintro _ _ ⟨rfl, hx⟩; replace H := H.ext hx; clear hx); rw [e24]))
  all_goals first | (exfalso; omega) | skip
  exact ⟨rfl, H.e⟩
end Go.Proofs.YtbbadmlekagloaaDoor
namespace Go.Sh
set_option linter.unusedSectionVars false
set_option linter.unusedVariables false
set_option linter.unusedSimpArgs false
open Go.RowKit
section
variable {α : Type} {enc : α → List Value} {sz : Nat} {e : TypeId} {w w' : World} {B : Nat} {A : Option Addr} {c : Nat} {l : List α}
variable {P : Program} {T : Tab} {k : Value → World → Prop} {Y : List PanicEntry → World → Prop}
theorem Sm.appR (hT : TabOk P T) {t ty : TypeId} {ti ei : TI} {X : Option Addr} {m : List α} {n n2 c2 : Nat}
    (ht : getT T.ts t = some ti) (hd : ti.desc = .slice e) (he : getT T.ts e = some ei) (hsz : ei.size = sz) (hz : ei.zero.cells.size = sz) (hpos : 0 < sz)
    (h : Que enc sz e w B A c l) (hn : n = l.length) (hr : RdS enc sz w X m) (hn2 : n2 = m.length) (hne : m ≠ []) (hm : ∀ x ∈ m, (enc x).length = sz) (h1 : ∀ x ∈ m, ∀ v ∈ enc x, v.oneCell' = true)
    (hlen : (l.length + m.length) * ei.bytes ≤ 140737488355328) (hlen2 : l.length + m.length ≤ 140737488355328) (hB : B ≤ w.heap.size)
    (hk : ∀ A' c' w', Que enc sz e w' B A' c' (l ++ m) → Grow A w w' → (A' = A ∨ (obk A' = some w.heap.size ∧ ∀ i, i < w.heap.size → w'.heap[i]? = w.heap[i]?)) → k (.slice A' (l ++ m).length c') w') : Sm P (Builtin.append_ #[t, t] ty #[.slice A n c, .slice X n2 c2]) w k Y := by
  subst hn hn2
  obtain ⟨j, hj, hjz, hjs, hjb⟩ := info_of hT.1 he
  have hu := (hT.1.get ht).1
  rw [hd] at hu
  have hjs' : j.size = sz := hjs.trans hsz
  have hfm := flat_len hm
  have hfl := flat_len h.sizes
  have hm0 : 0 < m.length := List.length_pos_iff.2 hne
  obtain ⟨ad, rfl⟩ : ∃ ad, X = some ad := Option.ne_none_iff_exists'.1 (hr.some hne).1
  have hnews := src_cells hpos hr hm
  have hall : ∀ x ∈ l ++ m, (enc x).length = sz := fun x hx => (List.mem_append.1 hx).elim (h.sizes x) (hm x)
  have h1' : ∀ u ∈ m.flatMap enc, u.oneCell' = true := fun u hu => by
    obtain ⟨x, hx, hv⟩ := List.mem_flatMap.1 hu
    exact h1 x hx u hv
  have grown : ∀ (c0 : Nat) (old : List Value), old = l.flatMap enc → l.length + m.length ≤ c0 → ∀ (p : Nat) (w2 : World), p = w.heap.size → w2 = w.drew.alloc (.cells (old.toArray ++ (m.flatMap enc).toArray ++ Builtin.zeroCells ei.zero.cells (c0 - (l.length + m.length))) e) →
      Que enc sz e w2 B (some ⟨p, 0, none⟩) c0 (l ++ m) ∧ Grow A w w2 ∧ ∀ i, i < w.heap.size → w2.heap[i]? = w.heap[i]? := by
    rintro c0 _ rfl hc p w2 rfl rfl
    refine ⟨Que.of_blk (cs := l.flatMap enc ++ m.flatMap enc ++ (Builtin.zeroCells ei.zero.cells (c0 - (l.length + m.length))).toList) ?_ hB hall (by simp; omega) ?_ ?_, ⟨rfl, rfl, rfl, ?_, fun i hi _ => ?_⟩, fun i hi => ?_⟩
    · unfold Blk
      show (w.heap.push _)[w.heap.size]? = _
      simp
    · simp only [List.length_append, hfm, hfl, Array.length_toList, size_zeroCells, hz]
      rw [← Nat.add_mul, ← Nat.add_mul, Nat.zero_add]
      exact Nat.mul_le_mul_right _ (by omega)
    · intro j v hv
      rw [Nat.zero_add, ← List.flatMap_append, List.getElem?_append_left (List.getElem?_eq_some_iff.1 hv).1]
      exact hv
    · show w.heap.size ≤ (w.heap.push _).size
      simp
    · show (w.heap.push _)[i]? = _
      rw [Array.getElem?_push_lt hi, Array.getElem?_eq_getElem hi]
    · show (w.heap.push _)[i]? = _
      rw [Array.getElem?_push_lt hi, Array.getElem?_eq_getElem hi]
  have h63 : ((l.length + m.length : Nat) : Int) ≤ 9223372036854775807 := by omega
  refine ⟨?_⟩
  rcases h.place with ⟨rfl, rfl⟩ | ⟨b, off, cs, rfl, hBb, hb, hcl, hat⟩
  · have hl0 : l = [] := List.length_eq_zero_iff.1 (by have := h.le; omega)
    subst hl0
    simp only [List.length_nil, Nat.zero_add] at hlen h63 ⊢
    rw [run_append_nil w t ty e j ei.zero hu hj hjz ad m.length c2 (m.flatMap enc) (by rw [hfm, hjs']) hnews hm0 h63 (by rw [hjb]; omega)]
    obtain ⟨g1, g2, g3⟩ := grown (grownCap w m.length 0 e) [] rfl (by simp; exact grownCap_ge _ _ _ _) _ (w.drew.alloc (.cells ((m.flatMap enc).toArray ++ Builtin.zeroCells ei.zero.cells (grownCap w m.length 0 e - m.length)) e)) rfl (by simp)
    have := hk _ _ _ g1 g2 (.inr ⟨rfl, g3⟩)
    simpa using this
  · by_cases hroom : l.length + m.length ≤ c
    · have hf := run_firstCells_some (P := P) w j.size m.length ad m.length c2 (m.flatMap enc) (by rw [hfm, hjs']) hnews
      have hfit : off + l.length * sz + (m.flatMap enc).length ≤ cs.length := by
        rw [hfm]
        have := Nat.mul_le_mul_right sz hroom
        rw [Nat.add_mul] at this
        omega
      have hst := run_storeCells_sh (P := P) ((⟨b, off, none⟩ : Addr).add (l.length * sz)) (m.flatMap enc) 0 w h1' (fun i hi => by
        rw [add_add, add_lit]
        refine ⟨?_, hb.frozen _ rfl⟩
        rw [hb.cell]
        exact ⟨cs[off + (l.length * sz + (0 + i))]'(by omega), List.getElem?_eq_getElem (by omega)⟩)
      have hrun : (Builtin.append_ #[t, t] ty #[.slice (some ⟨b, off, none⟩) l.length c, .slice (some ad) m.length c2]).run P w = .ok (.slice (some ⟨b, off, none⟩) (l.length + m.length) c) (setCells w ((⟨b, off, none⟩ : Addr).add (l.length * sz)) (m.flatMap enc) 0) := by
        simp [Builtin.append_, run_underlying hu, sizeOf, typeInfo, hj, Builtin.lenOf, hroom, hf]
        rw [hjs', hst]
        simp
      rw [hrun]
      have hblk := setCells_blk (b := b) (o := off + l.length * sz) (m.flatMap enc) cs 0 w hb (by simpa using hfit)
      have hup := setCells_heap (⟨b, off + l.length * sz, none⟩) (m.flatMap enc) 0 w
      rw [add_lit]
      have hq : Que enc sz e (setCells w ⟨b, off + l.length * sz, none⟩ (m.flatMap enc) 0) B (some ⟨b, off, none⟩) c (l ++ m) := by
        refine Que.of_blk hblk hBb hall (by simp; omega) ?_ ?_
        · simp only [putL, List.length_append, List.length_take, List.length_drop, Nat.add_zero]
          omega
        · intro i v hv
          unfold putL
          rw [List.flatMap_append] at hv
          simp only [Nat.add_zero]
          have hil := (List.getElem?_eq_some_iff.1 hv).1
          simp only [List.length_append, hfl, hfm] at hil
          rw [List.append_assoc]
          rcases Nat.lt_or_ge i (l.length * sz) with hi | hi
          · rw [List.getElem?_append_left (by rw [hfl]; exact hi)] at hv
            rw [List.getElem?_append_left (by simp; omega), List.getElem?_take_of_lt (by omega)]
            exact hat i v hv
          · rw [List.getElem?_append_right (by rw [hfl]; exact hi), hfl] at hv
            rw [List.getElem?_append_right (by simp; omega), List.length_take, Nat.min_eq_left (by omega), show off + i - (off + l.length * sz) = i - l.length * sz by omega, List.getElem?_append_left (by rw [hfm]; omega)]
            exact hv
      have := hk _ _ _ hq ⟨hup.os, hup.tape, hup.output, Nat.le_of_eq hup.size.symm, fun i _ hne => hup.block i fun e' => hne (by rw [e']; rfl)⟩ (.inl rfl)
      simpa using this
    · have hgw : c < l.length + m.length := by omega
      have holds : ∀ j v, (l.flatMap enc)[j]? = some v → w.cell? ((⟨b, off, none⟩ : Addr).add j) = some v := fun j v hv => by
        rw [add_lit, hb.cell]
        exact hat j v hv
      rw [run_append_grow w t ty e j ei.zero hu hj hjz ⟨b, off, none⟩ l.length c (l.flatMap enc) (by rw [hfl, hjs']) holds ad m.length c2 (m.flatMap enc) (by rw [hfm, hjs']) hnews hgw h63 (growslice_fits hgw (by rw [hjb]; exact hlen))]
      obtain ⟨g1, g2, g3⟩ := grown (grownCap w (l.length + m.length) c e) _ rfl (grownCap_ge _ _ _ _) _ _ rfl rfl
      have := hk _ _ _ g1 g2 (.inr ⟨rfl, g3⟩)
      simpa using this
/-- a slice that grows, of which the first elements are looked at where they were -/
abbrev gq (enc : α → List Value) (sz : Nat) (e : TypeId) (A0 : Option Addr) (l0 : List α) (A : Option Addr) (c : Nat) (l : List α) : Ck :=
  ⟨fun k => (l0 ≠ [] ∧ obk A0 = some k) ∨ obk A = some k, fun w => RdS enc sz w A0 l0 ∧ Que enc sz e w 0 A c l ∧ (l0 = [] ∨ (A = A0 ∧ ∃ t, l = l0 ++ t) ∨ ∀ k, obk A = some k → obk A0 ≠ some k), true, false⟩
theorem rds_keep {A0 : Option Addr} {l0 : List α} (h : RdS enc sz w A0 l0) (hs : w.heap.size ≤ w'.heap.size) (hb : ∀ k, l0 ≠ [] → obk A0 = some k → w'.heap[k]? = w.heap[k]?) : RdS enc sz w' A0 l0 := by
  by_cases hn : l0 = []
  · rw [hn]; exact RdS.nil
  · exact RdS.keep h hs fun b hb' _ => hb b hn hb'
theorem gq_ok {A0 : Option Addr} {l0 : List α} (h1 : RdS enc sz w A0 l0) (h2 : Que enc sz e w 0 A c l) (h3 : l0 = [] ∨ (A = A0 ∧ ∃ t, l = l0 ++ t) ∨ ∀ k, obk A = some k → obk A0 ≠ some k) : (gq enc sz e A0 l0 A c l).Ok w := by
  refine ⟨⟨h1, h2, h3⟩, fun k hk => ?_, fun w' hs hb => ⟨rds_keep h1 hs fun k hn hk => hb k (.inl ⟨hn, hk⟩), (qu_ok h2).loc w' hs fun k hk => hb k (.inr hk), h3⟩⟩
  rcases hk with ⟨hn, hk⟩ | hk
  · exact RdS.lt h1 hn k hk
  · exact (qu_ok h2).lt k hk
end
section
variable {S : Nat → Prop} {w0 w w' : World} {Γ R : List Ck} {α : Type} {enc : α → List Value} {sz : Nat} {e : TypeId} {A A0 : Option Addr} {c : Nat} {l l0 : List α}
variable {P : Program} {T : Tab} {ku : Value → World → Prop} {Y : List PanicEntry → World → Prop}
theorem Sm.apg (x : α) {q : Nat} (H : Hp S w0 w (bk q e (enc x) :: gq enc sz e A0 l0 A c l :: R)) (hT : TabOk P T) {t ty : TypeId} {ti ei : TI} {n c2 : Nat}
    (hlen : (n + 1) * ei.bytes ≤ 140737488355328) (hlen2 : n + 1 ≤ 140737488355328)
    (hk : ∀ A' c' w', Hp S w0 w' (gq enc sz e A0 l0 A' c' (l ++ [x]) :: R) → ku (.slice A' (n + 1) c') w') (hn : n = l.length)
    (hx : (enc x).length = sz := by rfl) (h1 : (enc x).all Value.oneCell' = true := by rfl)
    (ht : getT T.ts t = some ti := by rfl) (hd : ti.desc = .slice e := by rfl) (he : getT T.ts e = some ei := by rfl) (hsz : ei.size = sz := by rfl) (hz : ei.zero.cells.size = sz := by rfl) (hpos : 0 < sz := by decide)
    : Sm P (Builtin.append_ #[t, t] ty #[.slice A n c, .slice (some ⟨q, 0, none⟩) 1 c2]) w ku Y := by
  have hb : Blk w q e ([x].flatMap enc) := by simpa using H.blk 0 rfl
  obtain ⟨hr0, hq, h3⟩ : RdS enc sz w A0 l0 ∧ Que enc sz e w 0 A c l ∧ (l0 = [] ∨ (A = A0 ∧ ∃ t, l = l0 ++ t) ∨ ∀ k, obk A = some k → obk A0 ≠ some k) := H.atC (c := gq enc sz e A0 l0 A c l) 1 rfl
  subst hn
  refine Sm.appR hT ht hd he hsz hz hpos hq rfl (rd_full hb (by simpa using hx)) (m := [x]) rfl (by simp) (by simpa using hx) (by simpa using h1) hlen hlen2 (Nat.zero_le _) fun A' c' w' hQ g hA => ?_
  have hg : w.grownBy w' (obk A) := by rw [← obk_eq A 0 0]; exact g
  have hr0' : RdS enc sz w' A0 l0 := by
    rcases hA with rfl | ⟨_, hall⟩
    · rcases h3 with rfl | ⟨rfl, t, rfl⟩ | h3
      · exact RdS.nil
      · have := RdS.take (k := l0.length) (Que.rd hQ)
        rwa [List.append_assoc, List.take_left] at this
      · exact rds_keep hr0 hg.size fun k hn hk => hg.block k (RdS.lt hr0 hn k hk) fun e' => h3 k e'.symm hk
    · exact rds_keep hr0 hg.size fun k hn hk => hall k (RdS.lt hr0 hn k hk)
  have h3' : l0 = [] ∨ (A' = A0 ∧ ∃ t, l ++ [x] = l0 ++ t) ∨ ∀ k, obk A' = some k → obk A0 ≠ some k := by
    by_cases hn : l0 = []
    · exact .inl hn
    rcases hA with rfl | ⟨hA, _⟩
    · rcases h3 with h3 | ⟨rfl, t, rfl⟩ | h3
      · exact .inl h3
      · exact .inr (.inl ⟨rfl, t ++ [x], by rw [List.append_assoc]⟩)
      · exact .inr (.inr h3)
    · exact .inr (.inr fun k hk h0 => by
        have := RdS.lt hr0 hn k h0
        rw [hA] at hk
        simp at hk
        omega)
  have H2 : Hp (gq enc sz e A0 l0 A c l).fp w w' [gq enc sz e A0 l0 A' c' (l ++ [x])] := by
    refine Hp.one ⟨hg.os, hg.tape, hg.output, hg.size, fun k hk hS => hg.block k hk (fun e => hS (.inr e.symm))⟩ (gq_ok hr0' hQ h3') fun k hk => ?_
    rcases hk with hk | hk
    · exact .inl (.inl hk)
    · rcases hA with rfl | ⟨hA, _⟩
      · exact .inl (.inr hk)
      · rw [hA] at hk
        simp at hk
        exact .inr (by omega)
  have H3 := Hp.putS H (L := [bk q e (enc x)]) (R := R) (.tail .head) H2 rfl (.inl rfl)
  have H4 := hk A' c' w' (Hp.d0 H3)
  simpa using H4
theorem Hp.gq0 (H : Hp S w0 w (qu enc sz e A c l :: Γ)) : Hp S w0 w (gq enc sz e A l A c l :: Γ) :=
  Hp.less H rfl (fun k hk => by rcases hk with ⟨_, hk⟩ | hk <;> exact hk) fun h => gq_ok (Que.rd h.holds) h.holds (.inr (.inl ⟨rfl, [], by simp⟩))
end
end Go.Sh
