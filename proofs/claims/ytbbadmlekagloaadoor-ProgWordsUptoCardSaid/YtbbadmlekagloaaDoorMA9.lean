/- own work: PhT, PhU, ShU, PhV, PhW -/
import Derived.Test.YtbbadmlekagloaaDoorMA8
namespace Go.Proofs.YtbbadmlekagloaaDoor
open Go Go.Sh
set_option linter.unusedVariables false
set_option linter.unusedSimpArgs false
attribute [local irreducible] Blk Ext RdS
def rdrV (A : Option Addr) (c : Nat) (r : List Int) (bad : Bool) : List Value := [.slice A r.length c, .bool bad]
/-- a reader: the words that are left, whether it went wrong -/
def Rder (wb : World) (pr : Nat) (r : List Int) (bad : Bool) (w : World) : Prop := ∃ A c, RdS ints 1 wb A r ∧ r.length ≤ c ∧ Blk w pr 103 (rdrV A c r bad)
abbrev rr (wb : World) (pr : Nat) (r : List Int) (bad : Bool) : Ck := ⟨(· = pr), Rder wb pr r bad, true, false⟩
theorem rr_ok {wb w : World} {pr : Nat} {r : List Int} {bad : Bool} (h : Rder wb pr r bad w) : (rr wb pr r bad).Ok w := by
  obtain ⟨A, c, h1, h2, h3⟩ := h
  exact ⟨⟨A, c, h1, h2, h3⟩, fun k hk => by subst hk; exact h3.lt, fun w' hs hb => ⟨A, c, h1, h2, (bk_ok h3).loc w' hs hb⟩⟩
/-- a reader's block, seen as a reader -/
theorem Hp.rr {S : Nat → Prop} {wb w0 w : World} {Γ Γ' : List Ck} {pr : Nat} {r : List Int} {bad : Bool} {A : Option Addr} {c : Nat} (H : Hp S w0 w Γ) (hA : RdS ints 1 wb A r) (hc : r.length ≤ c)
    (u : Upd1 Γ (bk pr 103 (rdrV A c r bad)) (rr wb pr r bad) Γ' := by (repeat (first | exact Upd1.head | apply Upd1.tail))) : Hp S w0 w Γ' := by
  obtain ⟨L, R, h1, rfl⟩ := u.sp
  exact H.putS h1 (Hp.start (S := (· = pr)) (rr_ok ⟨A, c, hA, hc, H.mem (c := bk pr 103 (rdrV A c r bad)) (by rw [h1.eq]; simp)⟩) (fun k hk => hk)) rfl (.inl rfl)
def nx (r : List Int) : Int := r.headD 0
theorem next_c (pr : Nat) (r : List Int) (bad : Bool) (wb w : World) (hwb : Ext wb w) (hlo : wb.heap.size ≤ pr) (hr : Rder wb pr r bad w) :
    Cl Tryd.prog 81 #[.pointer (some ⟨pr, 0, none⟩)] w (fun v w' => v = .int .i64 (nx r) ∧ Hp (· = pr) w w' [rr wb pr r.tail (bad || r.isEmpty)]) (fun _ _ => False) := by
  obtain ⟨A, c, hA, hc, hb⟩ := hr
  have HB : BaseOk (· = pr) wb w := ⟨hwb, fun k hk => by subst hk; exact hlo⟩
  refine calls_ex (args := [.pointer (some ⟨pr, 0, none⟩)]) T.ok Tryd.func81 rfl rfl rfl rfl ?_
  have H := Hp.start (S := (· = pr)) (bk_ok hb) (fun k hk => hk)
  cases r with
  | nil =>
    have hne : ((([] : List Int).length : Nat) : Int) = 0 := rfl
    repeat' ((conv => whnf); first | (((with_reducible show Gd _ _ _); first | with_reducible refine Gd.t ?_ | with_reducible refine Gd.f ?_ | with_reducible refine Gd.dec (fun _ => ?_) (fun _ => ?_) | with_reducible refine Gd.beq (fun _ => ?_) (fun _ => ?_) | with_reducible refine Gd.bne (fun _ => ?_) (fun _ => ?_) | with_reducible refine Gd.not ?_ | refine Gd.t ?_ | refine Gd.f ?_ | with_reducible refine Gd.var (fun _ => ?_) (fun _ => ?_)) <;> first | (exfalso; omega) | skip) | with_reducible refine Sq.mk ?_ | ((with_reducible show Ld1 _ _ _); first | refine Ld1.h H ?_ | refine Ld1.rF ?_ | refine Ld1.r ?_) | ((with_reducible show Ld _ _ _ _); first | refine Ld.h H ?_ | refine Ld.r ?_) | ((with_reducible show Ix _ _ _ _ _); (first | refine Ix.h ?_ | refine Ix.ha ?_)) | (refine Al.hp H ?_; clear H; intro _ _ H _) | (refine St.h H ?_; clear H; intro _ H))
    replace H : Hp (· = pr) w _ [bk pr 103 (rdrV A c [] true)] := H
    exact ⟨rfl, by rw [show (bad || List.isEmpty ([] : List Int)) = true by simp]; exact Hp.rr H hA hc⟩
  | cons x r =>
    have hx : (x :: r)[0]? = some x := rfl
    have hne : ((x :: r).length : Int) ≠ 0 := by rw [List.length_cons]; omega
    repeat' ((conv => whnf); first | (((with_reducible show Gd _ _ _); first | with_reducible refine Gd.t ?_ | with_reducible refine Gd.f ?_ | with_reducible refine Gd.dec (fun _ => ?_) (fun _ => ?_) | with_reducible refine Gd.beq (fun _ => ?_) (fun _ => ?_) | with_reducible refine Gd.bne (fun _ => ?_) (fun _ => ?_) | with_reducible refine Gd.not ?_ | refine Gd.t ?_ | refine Gd.f ?_ | with_reducible refine Gd.var (fun _ => ?_) (fun _ => ?_)) <;> first | (exfalso; omega) | skip) | with_reducible refine Sq.mk ?_ | ((with_reducible show Ld1 _ _ _); first | refine Ld1.h H ?_ | refine Ld1.rF ?_ | refine Ld1.r ?_) | ((with_reducible show Ld _ _ _ _); first | refine Ld.h H ?_ | refine Ld.r ?_) | ((with_reducible show Ix _ _ _ _ _); (first | refine Ix.h ?_ | refine Ix.ha ?_)) | (refine Al.hp H ?_; clear H; intro _ _ H _) | (refine St.h H ?_; clear H; intro _ H))
    (conv => whnf)
    refine Sm.cutLo (i := 1) T.ok rfl rfl rfl rfl rfl (by simp) ?_
    repeat' ((conv => whnf); first | (((with_reducible show Gd _ _ _); first | with_reducible refine Gd.t ?_ | with_reducible refine Gd.f ?_ | with_reducible refine Gd.dec (fun _ => ?_) (fun _ => ?_) | with_reducible refine Gd.beq (fun _ => ?_) (fun _ => ?_) | with_reducible refine Gd.bne (fun _ => ?_) (fun _ => ?_) | with_reducible refine Gd.not ?_ | refine Gd.t ?_ | refine Gd.f ?_ | with_reducible refine Gd.var (fun _ => ?_) (fun _ => ?_)) <;> first | (exfalso; omega) | skip) | with_reducible refine Sq.mk ?_ | ((with_reducible show Ld1 _ _ _); first | refine Ld1.h H ?_ | refine Ld1.rF ?_ | refine Ld1.r ?_) | ((with_reducible show Ld _ _ _ _); first | refine Ld.h H ?_ | refine Ld.r ?_) | ((with_reducible show Ix _ _ _ _ _); (first | refine Ix.h ?_ | refine Ix.ha ?_)) | (refine Al.hp H ?_; clear H; intro _ _ H _) | (refine St.h H ?_; clear H; intro _ H))
    have hA2 : RdS ints 1 wb (cutA A c 1 1) r := hA.cut (k := 1) (by rw [List.length_cons]; omega) hc
    have hc2 : r.length ≤ c - 1 := by rw [List.length_cons] at hc; omega
    replace H : Hp (· = pr) w _ [bk pr 103 (rdrV (cutA A c 1 1) (c - 1) r bad)] := H
    exact ⟨rfl, by rw [show (bad || List.isEmpty (x :: r)) = bad by simp]; exact Hp.rr H hA2 hc2⟩
/-- a count: the word, the words left, whether all went well -/
def cntOf (mx : Int) (r : List Int) : Int := if nx r < 1 ∨ mx < nx r then 0 else nx r
def cntBad (mx : Int) (r : List Int) : Bool := r.isEmpty || decide (nx r < 1 ∨ mx < nx r)
theorem count_c (pr : Nat) (mx : Int) (r : List Int) (bad : Bool) (wb w : World) (hwb : Ext wb w) (hlo : wb.heap.size ≤ pr) (hr : Rder wb pr r bad w) :
    Cl Tryd.prog 74 #[.pointer (some ⟨pr, 0, none⟩), .int .i64 mx] w (fun v w' => v = .int .i64 (cntOf mx r) ∧ Hp (· = pr) w w' [rr wb pr r.tail (bad || cntBad mx r)]) (fun _ _ => False) := by
  refine calls_ex (args := [.pointer (some ⟨pr, 0, none⟩), .int .i64 mx]) T.ok Tryd.func74 rfl rfl rfl rfl ?_
  have H := Hp.start (S := (· = pr)) (rr_ok hr) (fun k hk => hk)
  have HB : BaseOk (· = pr) wb w := ⟨hwb, fun k hk => by subst hk; exact hlo⟩
  repeat' ((conv => whnf); first | (((with_reducible show Gd _ _ _); first | with_reducible refine Gd.t ?_ | with_reducible refine Gd.f ?_ | with_reducible refine Gd.dec (fun _ => ?_) (fun _ => ?_) | with_reducible refine Gd.beq (fun _ => ?_) (fun _ => ?_) | with_reducible refine Gd.bne (fun _ => ?_) (fun _ => ?_) | with_reducible refine Gd.not ?_ | refine Gd.t ?_ | refine Gd.f ?_ | with_reducible refine Gd.var (fun _ => ?_) (fun _ => ?_)) <;> first | (exfalso; omega) | skip) | with_reducible refine Sq.mk ?_ | ((with_reducible show Ld1 _ _ _); first | refine Ld1.h H ?_ | refine Ld1.rF ?_ | refine Ld1.r ?_) | ((with_reducible show Ld _ _ _ _); first | refine Ld.h H ?_ | refine Ld.r ?_) | ((with_reducible show Ix _ _ _ _ _); (first | refine Ix.h ?_ | refine Ix.ha ?_)) | (refine Al.hp H ?_; clear H; intro _ _ H _) | (refine St.h H ?_; clear H; intro _ H))
  ((conv => whnf); refine Cl.mk (next_c pr r bad wb _ (H.base2 HB) hlo (H.atC 0 rfl)) ?_)
  rintro _ w2 ⟨rfl, H'⟩
  replace H := H.upd (c := rr wb pr r bad) H' rfl (.inl rfl)
  clear H'
  by_cases hcd : nx r < 1 ∨ mx < nx r
  · obtain ⟨A, c, hA, hc, hb⟩ := H.atC 0 rfl
    replace H : Hp (· = pr) w _ [bk pr 103 (rdrV A c r.tail (bad || r.isEmpty))] := H.upd (c := rr wb pr r.tail (bad || r.isEmpty)) (Hp.start (S := (· = pr)) (bk_ok hb) (fun k hk => hk)) rfl (.inl rfl)
    repeat' ((conv => whnf); first | (((with_reducible show Gd _ _ _); first | with_reducible refine Gd.t ?_ | with_reducible refine Gd.f ?_ | with_reducible refine Gd.dec (fun _ => ?_) (fun _ => ?_) | with_reducible refine Gd.beq (fun _ => ?_) (fun _ => ?_) | with_reducible refine Gd.bne (fun _ => ?_) (fun _ => ?_) | with_reducible refine Gd.not ?_ | refine Gd.t ?_ | refine Gd.f ?_ | with_reducible refine Gd.var (fun _ => ?_) (fun _ => ?_)) <;> first | (exfalso; omega) | skip) | with_reducible refine Sq.mk ?_ | ((with_reducible show Ld1 _ _ _); first | refine Ld1.h H ?_ | refine Ld1.rF ?_ | refine Ld1.r ?_) | ((with_reducible show Ld _ _ _ _); first | refine Ld.h H ?_ | refine Ld.r ?_) | ((with_reducible show Ix _ _ _ _ _); (first | refine Ix.h ?_ | refine Ix.ha ?_)) | (refine Al.hp H ?_; clear H; intro _ _ H _) | (refine St.h H ?_; clear H; intro _ H))
    all_goals (replace H : Hp (· = pr) w _ [bk pr 103 (rdrV A c r.tail true)] := H)
    all_goals exact ⟨by rw [cntOf, if_pos hcd]; rfl, by rw [show (bad || cntBad mx r) = true by simp [cntBad, hcd]]; exact Hp.rr H hA hc⟩
  · repeat' ((conv => whnf); first | (((with_reducible show Gd _ _ _); first | with_reducible refine Gd.t ?_ | with_reducible refine Gd.f ?_ | with_reducible refine Gd.dec (fun _ => ?_) (fun _ => ?_) | with_reducible refine Gd.beq (fun _ => ?_) (fun _ => ?_) | with_reducible refine Gd.bne (fun _ => ?_) (fun _ => ?_) | with_reducible refine Gd.not ?_ | refine Gd.t ?_ | refine Gd.f ?_ | with_reducible refine Gd.var (fun _ => ?_) (fun _ => ?_)) <;> first | (exfalso; omega) | skip) | with_reducible refine Sq.mk ?_ | ((with_reducible show Ld1 _ _ _); first | refine Ld1.h H ?_ | refine Ld1.rF ?_ | refine Ld1.r ?_) | ((with_reducible show Ld _ _ _ _); first | refine Ld.h H ?_ | refine Ld.r ?_) | ((with_reducible show Ix _ _ _ _ _); (first | refine Ix.h ?_ | refine Ix.ha ?_)) | (refine Al.hp H ?_; clear H; intro _ _ H _) | (refine St.h H ?_; clear H; intro _ H))
    exact ⟨by rw [cntOf, if_neg hcd]; rfl, by rw [show (bad || cntBad mx r) = (bad || r.isEmpty) by simp [cntBad, hcd]]; exact H⟩
/-! ### the reader as a plain function -/
abbrev RS := List Int × Bool
def nS (s : RS) : RS := (s.1.tail, s.2 || s.1.isEmpty)
def cS (mx : Int) (s : RS) : RS := (s.1.tail, s.2 || cntBad mx s.1)
def rdI (s : RS) : Ins := ⟨nx s.1, nx (nS s).1, nx (nS (nS s)).1, nx (nS (nS (nS s))).1, nx (nS (nS (nS (nS s)))).1⟩
def n5 (s : RS) : RS := nS (nS (nS (nS (nS s))))
def rdIs (s : RS) : Nat → List Ins × RS
  | 0 => ([], s)
  | n + 1 => ((rdIs s n).1 ++ [rdI (rdIs s n).2], n5 (rdIs s n).2)
def n3 (s : RS) : RS := nS (nS (nS s))
def fnN (s : RS) : Nat := (cntOf 512 (n3 s).1).toNat
def rdF (s : RS) : Fn := ⟨nx s.1, nx (nS s).1, nx (nS (nS s)).1, (rdIs (cS 512 (n3 s)) (fnN s)).1⟩
def nF (s : RS) : RS := (rdIs (cS 512 (n3 s)) (fnN s)).2
theorem cnt_le (mx : Int) (r : List Int) (h : 0 ≤ mx) : 0 ≤ cntOf mx r ∧ cntOf mx r ≤ mx := by
  unfold cntOf
  split <;> omega
theorem rdIs_len (s : RS) : ∀ n, (rdIs s n).1.length = n
  | 0 => rfl
  | n + 1 => by rw [rdIs, List.length_append, rdIs_len s n]; rfl
theorem function_c (pr : Nat) (s : RS) (wb w : World) (hwb : Ext wb w) (hlo : wb.heap.size ≤ pr) (hr : Rder wb pr s.1 s.2 w) :
    Cl Tryd.prog 75 #[.pointer (some ⟨pr, 0, none⟩)] w (fun v w' => ∃ A c, v = (rdF s).v A c ∧ Hp (· = pr) w w' [qu Ins.enc 5 35 A c (rdF s).code, rr wb pr (nF s).1 (nF s).2]) (fun _ _ => False) := by
  have hn := cnt_le 512 (n3 s).1 (by decide)
  have hN : cntOf 512 (n3 s).1 = ((fnN s : Nat) : Int) := by rw [fnN]; omega
  have hN2 : fnN s ≤ 512 := by omega
  refine calls_ex (args := [.pointer (some ⟨pr, 0, none⟩)]) T.ok Tryd.func75 rfl rfl rfl rfl ?_
  have H := Hp.start (S := (· = pr)) (rr_ok hr) (fun k hk => hk)
  have HB : BaseOk (· = pr) wb w := ⟨hwb, fun k hk => by subst hk; exact hlo⟩
  refine Sq.mk ?_
  ((conv => whnf); refine Al.hp H ?_; clear H; intro p2 _ H _)
  repeat' ((conv => whnf); first | (((with_reducible show Gd _ _ _); first | with_reducible refine Gd.t ?_ | with_reducible refine Gd.f ?_ | with_reducible refine Gd.dec (fun _ => ?_) (fun _ => ?_) | with_reducible refine Gd.beq (fun _ => ?_) (fun _ => ?_) | with_reducible refine Gd.bne (fun _ => ?_) (fun _ => ?_) | with_reducible refine Gd.not ?_ | refine Gd.t ?_ | refine Gd.f ?_ | with_reducible refine Gd.var (fun _ => ?_) (fun _ => ?_)) <;> first | (exfalso; omega) | skip) | with_reducible refine Sq.mk ?_ | ((with_reducible show Ld1 _ _ _); first | refine Ld1.h H ?_ | refine Ld1.rF ?_ | refine Ld1.r ?_) | ((with_reducible show Ld _ _ _ _); first | refine Ld.h H ?_ | refine Ld.r ?_) | ((with_reducible show Ix _ _ _ _ _); (first | refine Ix.h ?_ | refine Ix.ha ?_)) | (refine St.h H ?_; clear H; intro _ H))
  ((conv => whnf); refine Al.hp H ?_; clear H; intro p3 _ H _)
  repeat' ((conv => whnf); first | (((with_reducible show Gd _ _ _); first | with_reducible refine Gd.t ?_ | with_reducible refine Gd.f ?_ | with_reducible refine Gd.dec (fun _ => ?_) (fun _ => ?_) | with_reducible refine Gd.beq (fun _ => ?_) (fun _ => ?_) | with_reducible refine Gd.bne (fun _ => ?_) (fun _ => ?_) | with_reducible refine Gd.not ?_ | refine Gd.t ?_ | refine Gd.f ?_ | with_reducible refine Gd.var (fun _ => ?_) (fun _ => ?_)) <;> first | (exfalso; omega) | skip) | with_reducible refine Sq.mk ?_ | ((with_reducible show Ld1 _ _ _); first | refine Ld1.h H ?_ | refine Ld1.rF ?_ | refine Ld1.r ?_) | ((with_reducible show Ld _ _ _ _); first | refine Ld.h H ?_ | refine Ld.r ?_) | ((with_reducible show Ix _ _ _ _ _); (first | refine Ix.h ?_ | refine Ix.ha ?_)) | (refine Al.hp H ?_; clear H; intro _ _ H _) | (refine St.h H ?_; clear H; intro _ H))
  (((conv => whnf); refine Cl.mk (next_c pr s.1 s.2 wb _ (H.base2 HB) hlo (H.atC 2 rfl)) ?_); rintro _ _ ⟨rfl, H'⟩; replace H := H.upd (c := rr wb pr s.1 s.2) H' rfl (.inl rfl); clear H')
  repeat' ((conv => whnf); first | (((with_reducible show Gd _ _ _); first | with_reducible refine Gd.t ?_ | with_reducible refine Gd.f ?_ | with_reducible refine Gd.dec (fun _ => ?_) (fun _ => ?_) | with_reducible refine Gd.beq (fun _ => ?_) (fun _ => ?_) | with_reducible refine Gd.bne (fun _ => ?_) (fun _ => ?_) | with_reducible refine Gd.not ?_ | refine Gd.t ?_ | refine Gd.f ?_ | with_reducible refine Gd.var (fun _ => ?_) (fun _ => ?_)) <;> first | (exfalso; omega) | skip) | with_reducible refine Sq.mk ?_ | ((with_reducible show Ld1 _ _ _); first | refine Ld1.h H ?_ | refine Ld1.rF ?_ | refine Ld1.r ?_) | ((with_reducible show Ld _ _ _ _); first | refine Ld.h H ?_ | refine Ld.r ?_) | ((with_reducible show Ix _ _ _ _ _); (first | refine Ix.h ?_ | refine Ix.ha ?_)) | (refine Al.hp H ?_; clear H; intro _ _ H _) | (refine St.h H ?_; clear H; intro _ H))
  (((conv => whnf); refine Cl.mk (next_c pr (nS s).1 (nS s).2 wb _ (H.base2 HB) hlo (H.atC 2 rfl)) ?_); rintro _ _ ⟨rfl, H'⟩; replace H := H.upd (c := rr wb pr (nS s).1 (nS s).2) H' rfl (.inl rfl); clear H')
  repeat' ((conv => whnf); first | (((with_reducible show Gd _ _ _); first | with_reducible refine Gd.t ?_ | with_reducible refine Gd.f ?_ | with_reducible refine Gd.dec (fun _ => ?_) (fun _ => ?_) | with_reducible refine Gd.beq (fun _ => ?_) (fun _ => ?_) | with_reducible refine Gd.bne (fun _ => ?_) (fun _ => ?_) | with_reducible refine Gd.not ?_ | refine Gd.t ?_ | refine Gd.f ?_ | with_reducible refine Gd.var (fun _ => ?_) (fun _ => ?_)) <;> first | (exfalso; omega) | skip) | with_reducible refine Sq.mk ?_ | ((with_reducible show Ld1 _ _ _); first | refine Ld1.h H ?_ | refine Ld1.rF ?_ | refine Ld1.r ?_) | ((with_reducible show Ld _ _ _ _); first | refine Ld.h H ?_ | refine Ld.r ?_) | ((with_reducible show Ix _ _ _ _ _); (first | refine Ix.h ?_ | refine Ix.ha ?_)) | (refine Al.hp H ?_; clear H; intro _ _ H _) | (refine St.h H ?_; clear H; intro _ H))
  (((conv => whnf); refine Cl.mk (next_c pr (nS (nS s)).1 (nS (nS s)).2 wb _ (H.base2 HB) hlo (H.atC 2 rfl)) ?_); rintro _ _ ⟨rfl, H'⟩; replace H := H.upd (c := rr wb pr (nS (nS s)).1 (nS (nS s)).2) H' rfl (.inl rfl); clear H')
  repeat' ((conv => whnf); first | (((with_reducible show Gd _ _ _); first | with_reducible refine Gd.t ?_ | with_reducible refine Gd.f ?_ | with_reducible refine Gd.dec (fun _ => ?_) (fun _ => ?_) | with_reducible refine Gd.beq (fun _ => ?_) (fun _ => ?_) | with_reducible refine Gd.bne (fun _ => ?_) (fun _ => ?_) | with_reducible refine Gd.not ?_ | refine Gd.t ?_ | refine Gd.f ?_ | with_reducible refine Gd.var (fun _ => ?_) (fun _ => ?_)) <;> first | (exfalso; omega) | skip) | with_reducible refine Sq.mk ?_ | ((with_reducible show Ld1 _ _ _); first | refine Ld1.h H ?_ | refine Ld1.rF ?_ | refine Ld1.r ?_) | ((with_reducible show Ld _ _ _ _); first | refine Ld.h H ?_ | refine Ld.r ?_) | ((with_reducible show Ix _ _ _ _ _); (first | refine Ix.h ?_ | refine Ix.ha ?_)) | (refine Al.hp H ?_; clear H; intro _ _ H _) | (refine St.h H ?_; clear H; intro _ H))
  ((conv => whnf); refine Cl.mk (count_c pr 512 (n3 s).1 (n3 s).2 wb _ (H.base2 HB) hlo (H.atC 2 rfl)) ?_)
  rintro _ _ ⟨rfl, H'⟩
  replace H := H.upd (c := rr wb pr (n3 s).1 (n3 s).2) H' rfl (.inl rfl)
  clear H'
  replace H := H.nil Ins.enc 5 35
  rw [hN]
  generalize hs4 : cS 512 (n3 s) = s4
  have hs41 : ((n3 s).1.tail, (n3 s).2 || cntBad 512 (n3 s).1) = s4 := hs4
  repeat' ((conv => whnf); first | (((with_reducible show Gd _ _ _); first | with_reducible refine Gd.t ?_ | with_reducible refine Gd.f ?_ | with_reducible refine Gd.dec (fun _ => ?_) (fun _ => ?_) | with_reducible refine Gd.beq (fun _ => ?_) (fun _ => ?_) | with_reducible refine Gd.bne (fun _ => ?_) (fun _ => ?_) | with_reducible refine Gd.not ?_ | refine Gd.t ?_ | refine Gd.f ?_ | with_reducible refine Gd.var (fun _ => ?_) (fun _ => ?_)) <;> first | (exfalso; omega) | skip) | with_reducible refine Sq.mk ?_ | ((with_reducible show Ld1 _ _ _); first | refine Ld1.h H ?_ | refine Ld1.rF ?_ | refine Ld1.r ?_) | ((with_reducible show Ld _ _ _ _); first | refine Ld.h H ?_ | refine Ld.r ?_) | ((with_reducible show Ix _ _ _ _ _); (first | refine Ix.h ?_ | refine Ix.ha ?_)) | (refine Al.hp H ?_; clear H; intro _ _ H _) | (refine St.h H ?_; clear H; intro _ H))
  refine Lp.g0 T.ok (σ := Nat × Option Addr × Nat) (fun q => [(16, .int .i64 (q.1 : Int)), (15, .int .i64 (fnN s : Int)), (0, .pointer (some ⟨pr, 0, none⟩)), (3, .pointer (some ⟨p3, 0, none⟩)), (2, .pointer (some ⟨p2, 0, none⟩))])
    (fun q w' => q.1 ≤ fnN s ∧ Hp (· = pr) w w' [qu Ins.enc 5 35 q.2.1 q.2.2 (rdIs s4 q.1).1, bk p3 24 [.int .i64 (nx s.1), .int .i64 (nx (nS s).1), .int .i64 (nx (nS (nS s)).1), .slice q.2.1 (rdIs s4 q.1).1.length q.2.2], bk p2 24 T.t24.zero.cells.toList, rr wb pr (rdIs s4 q.1).2.1 (rdIs s4 q.1).2.2]) (fun q _ => fnN s - q.1) (0, none, 0) rfl ⟨rfl, rfl, rfl, rfl, rfl, trivial⟩ ⟨Nat.zero_le _, by rw [← hs41]; exact H⟩ ?_
  clear H
  rintro ⟨i, D, dc⟩ w5 ⟨hi, H⟩
  simp only at hi H ⊢
  have hil := rdIs_len s4 i
  by_cases hlt : i < fnN s
  · have hq : rdIs s4 (i + 1) = ((rdIs s4 i).1 ++ [rdI (rdIs s4 i).2], n5 (rdIs s4 i).2) := rfl
    generalize (rdIs s4 i).2 = t at *
    generalize (rdIs s4 i).1 = l at *
    repeat' ((conv => whnf); first | (((with_reducible show Gd _ _ _); first | with_reducible refine Gd.t ?_ | with_reducible refine Gd.f ?_ | with_reducible refine Gd.dec (fun _ => ?_) (fun _ => ?_) | with_reducible refine Gd.beq (fun _ => ?_) (fun _ => ?_) | with_reducible refine Gd.bne (fun _ => ?_) (fun _ => ?_) | with_reducible refine Gd.not ?_ | refine Gd.t ?_ | refine Gd.f ?_ | with_reducible refine Gd.var (fun _ => ?_) (fun _ => ?_)) <;> first | (exfalso; omega) | skip) | with_reducible refine Sq.mk ?_ | ((with_reducible show Ld1 _ _ _); first | refine Ld1.h H ?_ | refine Ld1.rF ?_ | refine Ld1.r ?_) | ((with_reducible show Ld _ _ _ _); first | refine Ld.h H ?_ | refine Ld.r ?_) | ((with_reducible show Ix _ _ _ _ _); (first | refine Ix.h ?_ | refine Ix.ha ?_)) | (refine St.h H ?_; clear H; intro _ H))
    ((conv => whnf); refine Al.hp H ?_; clear H; intro p4 _ H _)
    repeat' ((conv => whnf); first | (((with_reducible show Gd _ _ _); first | with_reducible refine Gd.t ?_ | with_reducible refine Gd.f ?_ | with_reducible refine Gd.dec (fun _ => ?_) (fun _ => ?_) | with_reducible refine Gd.beq (fun _ => ?_) (fun _ => ?_) | with_reducible refine Gd.bne (fun _ => ?_) (fun _ => ?_) | with_reducible refine Gd.not ?_ | refine Gd.t ?_ | refine Gd.f ?_ | with_reducible refine Gd.var (fun _ => ?_) (fun _ => ?_)) <;> first | (exfalso; omega) | skip) | with_reducible refine Sq.mk ?_ | ((with_reducible show Ld1 _ _ _); first | refine Ld1.h H ?_ | refine Ld1.rF ?_ | refine Ld1.r ?_) | ((with_reducible show Ld _ _ _ _); first | refine Ld.h H ?_ | refine Ld.r ?_) | ((with_reducible show Ix _ _ _ _ _); (first | refine Ix.h ?_ | refine Ix.ha ?_)) | (refine Al.hp H ?_; clear H; intro _ _ H _) | (refine St.h H ?_; clear H; intro _ H))
    (((conv => whnf); refine Cl.mk (next_c pr t.1 t.2 wb _ (H.base2 HB) hlo (H.atC 4 rfl)) ?_); rintro _ _ ⟨rfl, H'⟩; replace H := H.upd (c := rr wb pr t.1 t.2) H' rfl (.inl rfl); clear H')
    repeat' ((conv => whnf); first | (((with_reducible show Gd _ _ _); first | with_reducible refine Gd.t ?_ | with_reducible refine Gd.f ?_ | with_reducible refine Gd.dec (fun _ => ?_) (fun _ => ?_) | with_reducible refine Gd.beq (fun _ => ?_) (fun _ => ?_) | with_reducible refine Gd.bne (fun _ => ?_) (fun _ => ?_) | with_reducible refine Gd.not ?_ | refine Gd.t ?_ | refine Gd.f ?_ | with_reducible refine Gd.var (fun _ => ?_) (fun _ => ?_)) <;> first | (exfalso; omega) | skip) | with_reducible refine Sq.mk ?_ | ((with_reducible show Ld1 _ _ _); first | refine Ld1.h H ?_ | refine Ld1.rF ?_ | refine Ld1.r ?_) | ((with_reducible show Ld _ _ _ _); first | refine Ld.h H ?_ | refine Ld.r ?_) | ((with_reducible show Ix _ _ _ _ _); (first | refine Ix.h ?_ | refine Ix.ha ?_)) | (refine Al.hp H ?_; clear H; intro _ _ H _) | (refine St.h H ?_; clear H; intro _ H))
    (((conv => whnf); refine Cl.mk (next_c pr (nS t).1 (nS t).2 wb _ (H.base2 HB) hlo (H.atC 4 rfl)) ?_); rintro _ _ ⟨rfl, H'⟩; replace H := H.upd (c := rr wb pr (nS t).1 (nS t).2) H' rfl (.inl rfl); clear H')
    repeat' ((conv => whnf); first | (((with_reducible show Gd _ _ _); first | with_reducible refine Gd.t ?_ | with_reducible refine Gd.f ?_ | with_reducible refine Gd.dec (fun _ => ?_) (fun _ => ?_) | with_reducible refine Gd.beq (fun _ => ?_) (fun _ => ?_) | with_reducible refine Gd.bne (fun _ => ?_) (fun _ => ?_) | with_reducible refine Gd.not ?_ | refine Gd.t ?_ | refine Gd.f ?_ | with_reducible refine Gd.var (fun _ => ?_) (fun _ => ?_)) <;> first | (exfalso; omega) | skip) | with_reducible refine Sq.mk ?_ | ((with_reducible show Ld1 _ _ _); first | refine Ld1.h H ?_ | refine Ld1.rF ?_ | refine Ld1.r ?_) | ((with_reducible show Ld _ _ _ _); first | refine Ld.h H ?_ | refine Ld.r ?_) | ((with_reducible show Ix _ _ _ _ _); (first | refine Ix.h ?_ | refine Ix.ha ?_)) | (refine Al.hp H ?_; clear H; intro _ _ H _) | (refine St.h H ?_; clear H; intro _ H))
    (((conv => whnf); refine Cl.mk (next_c pr (nS (nS t)).1 (nS (nS t)).2 wb _ (H.base2 HB) hlo (H.atC 4 rfl)) ?_); rintro _ _ ⟨rfl, H'⟩; replace H := H.upd (c := rr wb pr (nS (nS t)).1 (nS (nS t)).2) H' rfl (.inl rfl); clear H')
    repeat' ((conv => whnf); first | (((with_reducible show Gd _ _ _); first | with_reducible refine Gd.t ?_ | with_reducible refine Gd.f ?_ | with_reducible refine Gd.dec (fun _ => ?_) (fun _ => ?_) | with_reducible refine Gd.beq (fun _ => ?_) (fun _ => ?_) | with_reducible refine Gd.bne (fun _ => ?_) (fun _ => ?_) | with_reducible refine Gd.not ?_ | refine Gd.t ?_ | refine Gd.f ?_ | with_reducible refine Gd.var (fun _ => ?_) (fun _ => ?_)) <;> first | (exfalso; omega) | skip) | with_reducible refine Sq.mk ?_ | ((with_reducible show Ld1 _ _ _); first | refine Ld1.h H ?_ | refine Ld1.rF ?_ | refine Ld1.r ?_) | ((with_reducible show Ld _ _ _ _); first | refine Ld.h H ?_ | refine Ld.r ?_) | ((with_reducible show Ix _ _ _ _ _); (first | refine Ix.h ?_ | refine Ix.ha ?_)) | (refine Al.hp H ?_; clear H; intro _ _ H _) | (refine St.h H ?_; clear H; intro _ H))
    (((conv => whnf); refine Cl.mk (next_c pr (nS (nS (nS t))).1 (nS (nS (nS t))).2 wb _ (H.base2 HB) hlo (H.atC 4 rfl)) ?_); rintro _ _ ⟨rfl, H'⟩; replace H := H.upd (c := rr wb pr (nS (nS (nS t))).1 (nS (nS (nS t))).2) H' rfl (.inl rfl); clear H')
    repeat' ((conv => whnf); first | (((with_reducible show Gd _ _ _); first | with_reducible refine Gd.t ?_ | with_reducible refine Gd.f ?_ | with_reducible refine Gd.dec (fun _ => ?_) (fun _ => ?_) | with_reducible refine Gd.beq (fun _ => ?_) (fun _ => ?_) | with_reducible refine Gd.bne (fun _ => ?_) (fun _ => ?_) | with_reducible refine Gd.not ?_ | refine Gd.t ?_ | refine Gd.f ?_ | with_reducible refine Gd.var (fun _ => ?_) (fun _ => ?_)) <;> first | (exfalso; omega) | skip) | with_reducible refine Sq.mk ?_ | ((with_reducible show Ld1 _ _ _); first | refine Ld1.h H ?_ | refine Ld1.rF ?_ | refine Ld1.r ?_) | ((with_reducible show Ld _ _ _ _); first | refine Ld.h H ?_ | refine Ld.r ?_) | ((with_reducible show Ix _ _ _ _ _); (first | refine Ix.h ?_ | refine Ix.ha ?_)) | (refine Al.hp H ?_; clear H; intro _ _ H _) | (refine St.h H ?_; clear H; intro _ H))
    (((conv => whnf); refine Cl.mk (next_c pr (nS (nS (nS (nS t)))).1 (nS (nS (nS (nS t)))).2 wb _ (H.base2 HB) hlo (H.atC 4 rfl)) ?_); rintro _ _ ⟨rfl, H'⟩; replace H := H.upd (c := rr wb pr (nS (nS (nS (nS t)))).1 (nS (nS (nS (nS t)))).2) H' rfl (.inl rfl); clear H')
    repeat' ((conv => whnf); first | (((with_reducible show Gd _ _ _); first | with_reducible refine Gd.t ?_ | with_reducible refine Gd.f ?_ | with_reducible refine Gd.dec (fun _ => ?_) (fun _ => ?_) | with_reducible refine Gd.beq (fun _ => ?_) (fun _ => ?_) | with_reducible refine Gd.bne (fun _ => ?_) (fun _ => ?_) | with_reducible refine Gd.not ?_ | refine Gd.t ?_ | refine Gd.f ?_ | with_reducible refine Gd.var (fun _ => ?_) (fun _ => ?_)) <;> first | (exfalso; omega) | skip) | with_reducible refine Sq.mk ?_ | ((with_reducible show Ld1 _ _ _); first | refine Ld1.h H ?_ | refine Ld1.rF ?_ | refine Ld1.r ?_) | ((with_reducible show Ld _ _ _ _); first | refine Ld.h H ?_ | refine Ld.r ?_) | ((with_reducible show Ix _ _ _ _ _); (first | refine Ix.h ?_ | refine Ix.ha ?_)) | (refine Al.hp H ?_; clear H; intro _ _ H _) | (refine St.h H ?_; clear H; intro _ H))
    refine Sm.lith (cs := (rdI t).enc) H T.ok (fun p5 w2 H _ => ?_)
    refine Sm.ap1 (enc := Ins.enc) (rdI t) H T.ok ?_ ?_ (fun D' dc' w3 H => ?_)
    · show (l.length + 1) * 40 ≤ _; omega
    · omega
    simp only [List.cons_append, List.nil_append] at H
    repeat' ((conv => whnf); first | (((with_reducible show Gd _ _ _); first | with_reducible refine Gd.t ?_ | with_reducible refine Gd.f ?_ | with_reducible refine Gd.dec (fun _ => ?_) (fun _ => ?_) | with_reducible refine Gd.beq (fun _ => ?_) (fun _ => ?_) | with_reducible refine Gd.bne (fun _ => ?_) (fun _ => ?_) | with_reducible refine Gd.not ?_ | refine Gd.t ?_ | refine Gd.f ?_ | with_reducible refine Gd.var (fun _ => ?_) (fun _ => ?_)) <;> first | (exfalso; omega) | skip) | with_reducible refine Sq.mk ?_ | ((with_reducible show Ld1 _ _ _); first | refine Ld1.h H ?_ | refine Ld1.rF ?_ | refine Ld1.r ?_) | ((with_reducible show Ld _ _ _ _); first | refine Ld.h H ?_ | refine Ld.r ?_) | ((with_reducible show Ix _ _ _ _ _); (first | refine Ix.h ?_ | refine Ix.ha ?_)) | (refine Al.hp H ?_; clear H; intro _ _ H _) | (refine St.h H ?_; clear H; intro _ H))
    refine ⟨(i + 1, D', dc'), ⟨at_int (m := ((i + 1 : Nat) : Int)) rfl (w64 (by simp) (by omega) (by omega)), rfl, rfl, rfl, rfl, trivial⟩, rfl, ⟨by simp only; omega, ?_⟩, by simp only; omega⟩
    simp only [hq, List.length_append, List.length_cons, List.length_nil]
    exact H.sel [1, 1, 1, 1] rfl
  · have hi : i = fnN s := by omega
    subst hi
    repeat' ((conv => whnf); first | (((with_reducible show Gd _ _ _); first | with_reducible refine Gd.t ?_ | with_reducible refine Gd.f ?_ | with_reducible refine Gd.dec (fun _ => ?_) (fun _ => ?_) | with_reducible refine Gd.beq (fun _ => ?_) (fun _ => ?_) | with_reducible refine Gd.bne (fun _ => ?_) (fun _ => ?_) | with_reducible refine Gd.not ?_ | refine Gd.t ?_ | refine Gd.f ?_ | with_reducible refine Gd.var (fun _ => ?_) (fun _ => ?_)) <;> first | (exfalso; omega) | skip) | with_reducible refine Sq.mk ?_ | ((with_reducible show Ld1 _ _ _); first | refine Ld1.h H ?_ | refine Ld1.rF ?_ | refine Ld1.r ?_) | ((with_reducible show Ld _ _ _ _); first | refine Ld.h H ?_ | refine Ld.r ?_) | ((with_reducible show Ix _ _ _ _ _); (first | refine Ix.h ?_ | refine Ix.ha ?_)) | (refine Al.hp H ?_; clear H; intro _ _ H _) | (refine St.h H ?_; clear H; intro _ H))
    exact ⟨D, dc, by rw [rdF, hs4]; rfl, by rw [rdF, nF, hs4]; exact H.sel [0, 2] rfl⟩
end Go.Proofs.YtbbadmlekagloaaDoor
namespace Go.Proofs.YtbbadmlekagloaaDoor
open Go Go.Sh
set_option linter.unusedVariables false
set_option linter.unusedSimpArgs false
attribute [local irreducible] Blk Ext RdS
def rdFs (s : RS) : Nat → List Fn × RS
  | 0 => ([], s)
  | n + 1 => ((rdFs s n).1 ++ [rdF (rdFs s n).2], nF (rdFs s n).2)
theorem rdFs_len (s : RS) : ∀ n, (rdFs s n).1.length = n
  | 0 => rfl
  | n + 1 => by rw [rdFs, List.length_append, rdFs_len s n]; rfl
/-! ### from the words of a program -/
theorem rdI_app (y : Ins) (r : List Int) (b : Bool) : rdI (insW y ++ r, b) = y ∧ n5 (insW y ++ r, b) = (r, b) := by
  constructor
  · rfl
  · simp [n5, nS, insW]
theorem rdIs_app (code : List Ins) (r : List Int) (b : Bool) : ∀ n, n ≤ code.length → rdIs (code.flatMap insW ++ r, b) n = (code.take n, ((code.drop n).flatMap insW ++ r, b))
  | 0, _ => by simp [rdIs]
  | n + 1, h => by
    have ih := rdIs_app code r b n (by omega)
    have hd : code.drop n = code[n]'(by omega) :: code.drop (n + 1) := List.drop_eq_getElem_cons (by omega)
    rw [hd, List.flatMap_cons, List.append_assoc] at ih
    rw [rdIs, ih]
    obtain ⟨h1, h2⟩ := rdI_app (code[n]'(by omega)) ((code.drop (n + 1)).flatMap insW ++ r) b
    simp only [h1, h2]
    rw [List.take_succ_eq_append_getElem (by omega)]
theorem cnt_in {mx x : Int} {r : List Int} (h1 : 1 ≤ x) (h2 : x ≤ mx) : cntOf mx (x :: r) = x ∧ cntBad mx (x :: r) = false := by
  have hn : ¬ (nx (x :: r) < 1 ∨ mx < nx (x :: r)) := by show ¬ (x < 1 ∨ mx < x); omega
  constructor
  · rw [cntOf, if_neg hn]; rfl
  · simp only [cntBad, decide_eq_false hn]; rfl
theorem rdF_app (f : Fn) (r : List Int) (b : Bool) (h1 : 1 ≤ f.code.length) (h2 : f.code.length ≤ 512) : rdF (imgF f ++ r, b) = f ∧ nF (imgF f ++ r, b) = (r, b) := by
  have e3 : n3 (imgF f ++ r, b) = ((f.code.length : Int) :: (f.code.flatMap insW ++ r), b) := by simp [n3, nS, imgF, funH]
  obtain ⟨c1, c2⟩ := cnt_in (mx := 512) (x := (f.code.length : Int)) (r := f.code.flatMap insW ++ r) (by omega) (by omega)
  have hN : fnN (imgF f ++ r, b) = f.code.length := by
    rw [fnN, e3]
    show (cntOf 512 ((f.code.length : Int) :: (f.code.flatMap insW ++ r))).toNat = _
    rw [c1]; simp
  have hc : cS 512 (n3 (imgF f ++ r, b)) = (f.code.flatMap insW ++ r, b) := by
    rw [e3]
    show ((f.code.flatMap insW ++ r), b || cntBad 512 ((f.code.length : Int) :: (f.code.flatMap insW ++ r))) = _
    rw [c2]; simp
  have hi := rdIs_app f.code r b f.code.length (Nat.le_refl _)
  rw [List.take_length, List.drop_length] at hi
  constructor
  · rw [rdF, hN, hc, hi]
    rfl
  · rw [nF, hN, hc, hi]
    rfl
theorem rdFs_app (fs : List Fn) (r : List Int) (b : Bool) (h : ∀ f ∈ fs, 1 ≤ f.code.length ∧ f.code.length ≤ 512) : ∀ n, n ≤ fs.length → rdFs (fs.flatMap imgF ++ r, b) n = (fs.take n, ((fs.drop n).flatMap imgF ++ r, b))
  | 0, _ => by simp [rdFs]
  | n + 1, hn => by
    have ih := rdFs_app fs r b h n (by omega)
    have hd : fs.drop n = fs[n]'(by omega) :: fs.drop (n + 1) := List.drop_eq_getElem_cons (by omega)
    rw [hd, List.flatMap_cons, List.append_assoc] at ih
    rw [rdFs, ih]
    have hf := h _ (List.getElem_mem (show n < fs.length by omega))
    obtain ⟨h1, h2⟩ := rdF_app (fs[n]'(by omega)) ((fs.drop (n + 1)).flatMap imgF ++ r) b hf.1 hf.2
    simp only [h1, h2]
    rw [List.take_succ_eq_append_getElem (by omega)]
/-! ### back to the words -/
theorem nS_back {s : RS} (h : (nS s).2 = false) : s.2 = false ∧ s.1 = nx s.1 :: (nS s).1 := by
  obtain ⟨r, b⟩ := s
  simp only [nS, Bool.or_eq_false_iff] at h
  obtain ⟨h1, h2⟩ := h
  cases r with
  | nil => simp at h2
  | cons x r => exact ⟨h1, rfl⟩
theorem rdI_back {s : RS} (h : (n5 s).2 = false) : s.2 = false ∧ s.1 = insW (rdI s) ++ (n5 s).1 := by
  obtain ⟨a5, b5⟩ := nS_back (s := nS (nS (nS (nS s)))) h
  obtain ⟨a4, b4⟩ := nS_back (s := nS (nS (nS s))) a5
  obtain ⟨a3, b3⟩ := nS_back (s := nS (nS s)) a4
  obtain ⟨a2, b2⟩ := nS_back (s := nS s) a3
  obtain ⟨a1, b1⟩ := nS_back a2
  refine ⟨a1, ?_⟩
  show s.1 = nx s.1 :: nx (nS s).1 :: nx (nS (nS s)).1 :: nx (nS (nS (nS s))).1 :: nx (nS (nS (nS (nS s)))).1 :: (n5 s).1
  rw [← (show (nS (nS (nS (nS s)))).1 = nx (nS (nS (nS (nS s)))).1 :: (n5 s).1 from b5), ← b4, ← b3, ← b2]
  exact b1
theorem rdIs_back (s : RS) : ∀ n, (rdIs s n).2.2 = false → s.2 = false ∧ s.1 = (rdIs s n).1.flatMap insW ++ (rdIs s n).2.1
  | 0, h => ⟨h, rfl⟩
  | n + 1, h => by
    obtain ⟨h1, h2⟩ := rdI_back (s := (rdIs s n).2) h
    obtain ⟨h3, h4⟩ := rdIs_back s n h1
    refine ⟨h3, ?_⟩
    rw [h4, h2]
    simp [rdIs]
theorem cnt_back {mx : Int} {s : RS} (h : (cS mx s).2 = false) : s.2 = false ∧ 1 ≤ nx s.1 ∧ nx s.1 ≤ mx ∧ cntOf mx s.1 = nx s.1 ∧ s.1 = nx s.1 :: (cS mx s).1 := by
  obtain ⟨r, b⟩ := s
  simp only [cS, cntBad, Bool.or_eq_false_iff, decide_eq_false_iff_not] at h
  obtain ⟨h1, h2, h3⟩ := h
  cases r with
  | nil => simp at h2
  | cons x r => exact ⟨h1, by show 1 ≤ nx (x :: r); omega, by show nx (x :: r) ≤ mx; omega, by rw [cntOf, if_neg h3], rfl⟩
theorem rdF_back {s : RS} (h : (nF s).2 = false) : s.2 = false ∧ s.1 = imgF (rdF s) ++ (nF s).1 := by
  obtain ⟨h1, h2⟩ := rdIs_back (cS 512 (n3 s)) (fnN s) h
  obtain ⟨a4, c1, c2, c3, c4⟩ := cnt_back h1
  obtain ⟨a3, b3⟩ := nS_back (s := nS (nS s)) a4
  obtain ⟨a2, b2⟩ := nS_back (s := nS s) a3
  obtain ⟨a1, b1⟩ := nS_back a2
  have hN : ((fnN s : Nat) : Int) = nx (n3 s).1 := by rw [fnN, c3]; omega
  have hl := rdIs_len (cS 512 (n3 s)) (fnN s)
  refine ⟨a1, ?_⟩
  have e : imgF (rdF s) ++ (nF s).1 = nx s.1 :: nx (nS s).1 :: nx (nS (nS s)).1 :: ((rdIs (cS 512 (n3 s)) (fnN s)).1.length : Int) :: ((rdIs (cS 512 (n3 s)) (fnN s)).1.flatMap insW ++ (rdIs (cS 512 (n3 s)) (fnN s)).2.1) := by
    simp [imgF, funH, rdF, nF]
  rw [e, hl, hN, ← h2, ← c4, show (n3 s).1 = (nS (nS (nS s))).1 from rfl, ← b3, ← b2]
  exact b1
theorem rdFs_back (s : RS) : ∀ n, (rdFs s n).2.2 = false → s.2 = false ∧ s.1 = (rdFs s n).1.flatMap imgF ++ (rdFs s n).2.1
  | 0, h => ⟨h, rfl⟩
  | n + 1, h => by
    obtain ⟨h1, h2⟩ := rdF_back (s := (rdFs s n).2) h
    obtain ⟨h3, h4⟩ := rdFs_back s n h1
    refine ⟨h3, ?_⟩
    rw [h4, h2]
    simp [rdFs]
/-! ### Decode, plain -/
def dcN (m : List Int) : Nat := (cntOf 32 m.tail).toNat
def dcQ (m : List Int) : List Fn × RS := rdFs (cS 32 (m.tail, false)) (dcN m)
/-- of words m and their sum s: the fault, the functions -/
noncomputable def decL (m : List Int) (s : Int) : Int × List Fn :=
  if sumL m ≠ s then (58, []) else if nx m ≠ 1886156142 then (57, []) else if (dcQ m).2.2 = true ∨ (dcQ m).2.1 ≠ [] then (57, []) else if (checkL (dcQ m).1).1 ≠ 0 then ((checkL (dcQ m).1).1, []) else (0, (dcQ m).1)
theorem dec_img {fs : List Fn} (hV : Valid fs) : decL (imgP fs) (sumL (imgP fs)) = (0, fs) := by
  have h1 : ∀ f ∈ fs, 1 ≤ f.code.length ∧ f.code.length ≤ 512 := fun f hf => shaped_len (hV.shaped f hf)
  have hl := hV.len
  obtain ⟨c1, c2⟩ := cnt_in (mx := 32) (x := (fs.length : Int)) (r := fs.flatMap imgF) (by omega) (by omega)
  have ht : (imgP fs).tail = (fs.length : Int) :: fs.flatMap imgF := rfl
  have hN : dcN (imgP fs) = fs.length := by rw [dcN, ht, c1]; simp
  have hs : cS 32 ((imgP fs).tail, false) = (fs.flatMap imgF ++ [], false) := by
    rw [ht]
    show (fs.flatMap imgF, false || cntBad 32 ((fs.length : Int) :: fs.flatMap imgF)) = _
    rw [c2]; simp
  have hq : dcQ (imgP fs) = (fs, ([], false)) := by
    rw [dcQ, hN, hs, rdFs_app fs [] false h1 fs.length (Nat.le_refl _)]
    simp
  have hz := check_ok.2 hV
  unfold decL
  rw [if_neg (by simp), if_neg (by simp [imgP, nx]), hq, if_neg (by simp), if_neg (by simpa using hz)]
theorem img_dec {m : List Int} {s : Int} {fs : List Fn} (h : decL m s = (0, fs)) (hm : m ≠ []) : Valid fs ∧ m ++ [s] = imgS fs := by
  unfold decL at h
  split at h; · simp at h
  rename_i hs
  split at h; · simp at h
  rename_i h0
  split at h; · simp at h
  rename_i hb
  split at h
  · rename_i hz
    simp only [Prod.mk.injEq] at h
    exact absurd h.1 hz
  rename_i hz
  simp only [Prod.mk.injEq, true_and] at h
  have hz := Classical.not_not.1 hz
  rw [h] at hz
  have hV := check_ok.1 hz
  have hb := not_or.1 hb
  have hb2 := Classical.not_not.1 hb.2
  have hb1 : (dcQ m).2.2 = false := by simpa using hb.1
  obtain ⟨h1, h2⟩ := rdFs_back _ _ hb1
  obtain ⟨a, c1, c2, c3, c4⟩ := cnt_back h1
  have hlen := rdFs_len (cS 32 (m.tail, false)) (dcN m)
  have hfl : fs.length = dcN m := by rw [← h]; exact hlen
  have hn : ((dcN m : Nat) : Int) = nx m.tail := by
    have := c3
    rw [dcN]
    show ((cntOf 32 m.tail).toNat : Int) = _
    rw [show cntOf 32 m.tail = nx m.tail from c3]
    simp only at c1
    omega
  obtain ⟨x, r, rfl⟩ := List.exists_cons_of_ne_nil hm
  have h0 := Classical.not_not.1 h0
  have hs := Classical.not_not.1 hs
  have e1 : (cS 32 ((x :: r).tail, false)).1 = fs.flatMap imgF := by
    rw [h2, show (rdFs (cS 32 ((x :: r).tail, false)) (dcN (x :: r))).2.1 = [] from hb2, show (rdFs (cS 32 ((x :: r).tail, false)) (dcN (x :: r))).1 = fs from h]
    simp
  have e2 : r = (fs.length : Int) :: fs.flatMap imgF := by
    have : r = nx r :: (cS 32 ((x :: r).tail, false)).1 := c4
    rw [e1] at this
    rw [hfl, hn]
    exact this
  have e3 : x :: r = imgP fs := by
    rw [show x = 1886156142 from h0, e2]; rfl
  exact ⟨hV, by rw [imgS, ← e3, hs]⟩
end Go.Proofs.YtbbadmlekagloaaDoor
namespace Go.Sh
open Go.RowKit
set_option linter.unusedVariables false
set_option linter.unusedSimpArgs false
set_option linter.unusedSectionVars false
def pickO (ops : Array Oper) : List Nat → Option (List Oper)
  | [] => some []
  | i :: r => match ops[i]? with
    | some o => match pickO ops r with
      | some l => some (o :: l)
      | none => none
    | none => none
theorem pickO_get {ops : Array Oper} : ∀ {is : List Nat} {l : List Oper}, pickO ops is = some l → ∀ m : Nat, l[m]? = (is[m]?).bind (ops[·]?)
  | [], l, h, m => by simp [pickO] at h; subst h; simp
  | i :: r, l, h, m => by
    unfold pickO at h
    split at h
    · rename_i o ho
      split at h
      · rename_i l' hl'
        simp at h; subst h
        cases m with
        | zero => simp [ho]
        | succ m => simpa using pickO_get hl' m
      · simp at h
    · simp at h
theorem pickO_len {ops : Array Oper} : ∀ {is : List Nat} {l : List Oper}, pickO ops is = some l → l.length = is.length
  | [], l, h => by simp [pickO] at h; subst h; rfl
  | i :: r, l, h => by
    unfold pickO at h
    split at h
    · rename_i o ho
      split at h
      · rename_i l' hl'
        simp at h; subst h
        simp [pickO_len hl']
      · simp at h
    · simp at h
def ChP (ops : Array Oper) (qis cs : List Nat) : Prop :=
  (∀ i ∈ List.range ops.size, ∀ j ∈ afterOf ops i, j < i) ∧
  (∀ i ∈ List.range ops.size, i ∈ qis ∨ i ∈ cs) ∧
  (∀ i ∈ qis, i ∉ cs ∧ i < ops.size) ∧
  (∀ i ∈ cs, i < ops.size) ∧
  qis.Pairwise (· < ·) ∧
  cs.Pairwise (· < ·) ∧
  (∀ a ∈ cs, ∀ b ∈ cs, a < b → a ∈ ancF ops ops.size b) ∧
  (ops.size - 1 ∈ cs) ∧
  (∀ j ∈ List.range (ops.size - 1), j ∈ ancF ops ops.size (ops.size - 1)) ∧
  (∀ i ∈ List.range ops.size, ∀ j ∈ List.range ops.size, i ≠ j → dstOf ops i ≠ none → dstOf ops j ≠ dstOf ops i) ∧
  (∀ i ∈ qis, ∀ j ∈ List.range ops.size, j ≠ i → ∀ t ∈ rdOf ops i, dstOf ops j = some t → j ∈ qis ∧ ((j < i ∧ j ∈ ancF ops ops.size i) ∨ (i < j ∧ i ∈ ancF ops ops.size j))) ∧
  (∀ i ∈ cs, ∀ j ∈ List.range ops.size, j ≠ i → ∀ t ∈ rdOf ops i, dstOf ops j = some t → j ∈ ancF ops ops.size i)
def chB (ops : Array Oper) (qis cs : List Nat) : Bool :=
  decide ((∀ i ∈ List.range ops.size, ∀ j ∈ afterOf ops i, j < i)) &&
  decide ((∀ i ∈ List.range ops.size, i ∈ qis ∨ i ∈ cs)) &&
  decide ((∀ i ∈ qis, i ∉ cs ∧ i < ops.size)) &&
  decide ((∀ i ∈ cs, i < ops.size)) &&
  decide (qis.Pairwise (· < ·)) &&
  decide (cs.Pairwise (· < ·)) &&
  decide ((∀ a ∈ cs, ∀ b ∈ cs, a < b → a ∈ ancF ops ops.size b)) &&
  decide ((ops.size - 1 ∈ cs)) &&
  decide ((∀ j ∈ List.range (ops.size - 1), j ∈ ancF ops ops.size (ops.size - 1))) &&
  decide ((∀ i ∈ List.range ops.size, ∀ j ∈ List.range ops.size, i ≠ j → dstOf ops i ≠ none → dstOf ops j ≠ dstOf ops i)) &&
  decide ((∀ i ∈ qis, ∀ j ∈ List.range ops.size, j ≠ i → ∀ t ∈ rdOf ops i, dstOf ops j = some t → j ∈ qis ∧ ((j < i ∧ j ∈ ancF ops ops.size i) ∨ (i < j ∧ i ∈ ancF ops ops.size j)))) &&
  decide ((∀ i ∈ cs, ∀ j ∈ List.range ops.size, j ≠ i → ∀ t ∈ rdOf ops i, dstOf ops j = some t → j ∈ ancF ops ops.size i))
theorem chB_spec {ops : Array Oper} {qis cs : List Nat} (h : chB ops qis cs = true) : ChP ops qis cs := by
  unfold chB at h
  simp only [Bool.and_eq_true, decide_eq_true_iff] at h
  obtain ⟨⟨⟨⟨⟨⟨⟨⟨⟨⟨⟨h1, h2⟩, h3⟩, h4⟩, h5⟩, h6⟩, h7⟩, h8⟩, h9⟩, h10⟩, h11⟩, h12⟩ := h
  exact ⟨h1, h2, h3, h4, h5, h6, h7, h8, h9, h10, h11, h12⟩
section
variable {P : Program} {T : Tab} {n : Nat} {ops : Array Oper}
def stepCh (P : Program) (T : Tab) (n : Nat) (W : World → Prop) (o : Oper) (_r : List Oper) (ih : Fr → World → (Fr → World → Prop) → Prop) (F : Fr) (w : World) (k : Fr → World → Prop) : Prop :=
  W w ∧ match dstOk n o.dst with
    | false => False
    | true => match o.guard with
      | some _ => False
      | none => exOp P T (evR o F) o w (fun v w' => ih (F.put o.dst v) w' k) (fun _ _ => False)
def chOps (P : Program) (T : Tab) (n : Nat) (W : World → Prop) (l : List Oper) : Fr → World → (Fr → World → Prop) → Prop :=
  List.rec (motive := fun _ => Fr → World → (Fr → World → Prop) → Prop) (fun F w k => k F w) (stepCh P T n W) l
theorem PhiF_cases {F : Fr} {l : List Oper} {vals : Nat → Value} {t : Nat} {u : Value} : ∀ m, PhiF F l vals m t = some u → (∃ j, j < m ∧ (l[j]?).bind (·.dst) = some t ∧ u = vals j) ∨ ((∀ j, j < m → (l[j]?).bind (·.dst) ≠ some t) ∧ look F.env t = some u)
  | 0, h => .inr ⟨by simp, h⟩
  | m + 1, h => by
    rw [PhiF] at h
    split at h
    · rename_i hd
      simp at h
      exact .inl ⟨m, by omega, hd, h.symm⟩
    · rename_i hd
      rcases PhiF_cases m h with ⟨j, h1, h2, h3⟩ | ⟨h1, h2⟩
      · exact .inl ⟨j, by omega, h2, h3⟩
      · exact .inr ⟨fun j hj => by
          by_cases e : j = m
          · subst e; exact hd
          · exact h1 j (by omega), h2⟩
theorem act_put_ne {a : Act} {d : Option Nat} {v : Value} {t : Nat} (h : d ≠ some t) : (a.put d v).tmps[t]? = a.tmps[t]? := by
  cases d with
  | none => rfl
  | some d' =>
    simp only [Act.put]
    exact Array.getElem?_setIfInBounds_ne (fun e => h (by rw [e]))
theorem act_put_eq {a : Act} {t : Nat} {v : Value} (h : dstOk a.tmps.size (some t) = true) : (a.put (some t) v).tmps[t]? = some v := by
  simp only [Act.put]
  exact Array.getElem?_setIfInBounds_self_of_lt (by simpa [dstOk] using h)
theorem act_put_size {a : Act} {d : Option Nat} {v : Value} : (a.put d v).tmps.size = a.tmps.size := by cases d <;> simp [Act.put]
theorem act_put_defers {a : Act} {d : Option Nat} {v : Value} : (a.put d v).defers = a.defers := by cases d <;> simp [Act.put]
theorem look_put_eq {F : Fr} {d : Nat} {v : Value} : look (F.put (some d) v).env d = some v := by simp [Fr.put, look]
theorem look_put_ne {F : Fr} {d : Option Nat} {v : Value} {t : Nat} (h : d ≠ some t) : look (F.put d v).env t = look F.env t := by
  cases d with
  | none => rfl
  | some d =>
    simp only [Fr.put, look]
    split
    · rename_i e; exact absurd (by rw [Nat.eq_of_beq_eq_true e]) h
    · rfl
theorem Dr.ch (hT : TabOk P T) (hm : P.follows .mixedOrders = true) (qis cs : List Nat) {id : Nat} {F : Fr} {w : World} {K : Exit → Fr → World → Prop} {ql cl : List Oper}
    (hB : chB ops qis cs = true) (hql : pickO ops qis = some ql) (hcl : pickO ops cs = some cl) (W : World → Prop)
    (h : ∀ w1, Ext w w1 → w1.heap.size = w.heap.size → quOps P T n W (fun a b => b = a) ops.toList ql F (fun F' => chOps P T n W cl F' w1 (fun F w => K .normal F w))) : Dr P n id ops F w K := by
  obtain ⟨hac0, hcov, hqc, hclt, hqs, hcs, hcan, hlc, hlast0, huq0, hrq, hrc⟩ := chB_spec hB
  have hac : ∀ i, i < ops.size → ∀ j ∈ afterOf ops i, j < i := fun i hi => hac0 i (List.mem_range.2 hi)
  have hlast : ∀ j, j < ops.size - 1 → j ∈ ancF ops ops.size (ops.size - 1) := fun j hj => hlast0 j (List.mem_range.2 hj)
  have huq : ∀ i, i < ops.size → ∀ j, j < ops.size → i ≠ j → ∀ t, dstOf ops i = some t → dstOf ops j ≠ some t := fun i hi j hj hne t ht => by
    have := huq0 i (List.mem_range.2 hi) j (List.mem_range.2 hj) hne (by rw [ht]; simp)
    rwa [ht] at this
  have e1 : Ext w { w with drawn := w.drawn + 1 } := ⟨rfl, rfl, rfl, Nat.le_refl _, fun _ _ => rfl⟩
  obtain ⟨vals, F', hY, hlook, hds, hfin⟩ := quOps_trace hT ql F _ (h { w with drawn := w.drawn + 1 } e1 rfl)
  have hN : ops.size - 1 < ops.size := hclt _ hlc
  have hqget : ∀ m : Nat, (ql[m]?).bind (·.dst) = (qis[m]?).bind (dstOf ops) := fun m => by
    rw [pickO_get hql m]
    cases qis[m]? <;> rfl
  have hqpos : ∀ i, i ∈ qis → ∃ m, qis[m]? = some i := fun i hi => List.getElem?_of_mem hi
  have hqlt : ∀ (m m' i i' : Nat), qis[m]? = some i → qis[m']? = some i' → m < m' → i < i' := fun m m' i i' h1 h2 hlt => by
    obtain ⟨a1, a2⟩ := List.getElem?_eq_some_iff.1 h1
    obtain ⟨b1, b2⟩ := List.getElem?_eq_some_iff.1 h2
    have := List.pairwise_iff_getElem.1 hqs m m' a1 b1 hlt
    omega
  have hqinj : ∀ (m m' i : Nat), qis[m]? = some i → qis[m']? = some i → m = m' := fun m m' i h1 h2 => by
    rcases Nat.lt_trichotomy m m' with e | e | e
    · have := hqlt m m' i i h1 h2 e; omega
    · exact e
    · have := hqlt m' m i i h2 h1 e; omega
  refine ⟨fun a0 ha0 => ?_⟩
  refine wp_region_any hm ?_
  have main : ∀ (fuel : Nat) (listed : Array Bool) (a : Act) (w' : World) (j : Nat) (Fj : Fr), listed.size = ops.size → Closed ops listed → cnt listed ops.size ≤ fuel → ¬ Lst listed (ops.size - 1) →
      a.tmps.size = n → a.defers = F.ds → Fj.ds = F.ds → chOps P T n W (cl.drop j) Fj w' (fun F w => K .normal F w) →
      (∀ m i, cs[m]? = some i → (Lst listed i ↔ m < j)) →
      (∀ m i, qis[m]? = some i → Lst listed i → ∀ d, dstOf ops i = some d → a.tmps[d]? = some (vals m)) →
      (∀ t u, look F.env t = some u → (∀ i, i < ops.size → Lst listed i → dstOf ops i ≠ some t) → a.tmps[t]? = some u) →
      (∀ t u, look Fj.env t = some u → (∃ i, i ∈ qis ∧ ¬ Lst listed i ∧ dstOf ops i = some t) ∨ a.tmps[t]? = some u) →
      (∀ t, (∀ i, i ∈ cs → dstOf ops i ≠ some t) → look Fj.env t = look F'.env t) →
      wpAny P .any ops (Lift n K) fuel listed a w' := by
    intro fuel
    induction fuel with
    | zero => intro listed a w' j Fj _ _ hc hnl; exact absurd (cnt_pos listed _ hnl ops.size hN) (by omega)
    | succ fuel ih =>
      intro listed a w' j Fj hs hcl' hc hnl hsz hdf hdj hch hcj hA hB' hG hFj
      refine ⟨fun hr => ?_, fun i hi => ?_⟩
      · exfalso
        have : ∃ i, i < ops.size ∧ ¬ Lst listed i ∧ ∀ j, j < i → Lst listed j := by
          have : ∀ m, m ≤ ops.size - 1 → (∀ j, j < m → Lst listed j) ∨ ∃ i, i < ops.size ∧ ¬ Lst listed i ∧ ∀ j, j < i → Lst listed j := by
            intro m
            induction m with
            | zero => intro _; exact .inl fun j hj => by omega
            | succ m ihm =>
              intro hm
              rcases ihm (by omega) with h1 | h1
              · by_cases hl : Lst listed m
                · exact .inl fun j hj => (Nat.lt_or_ge j m).elim (h1 j) fun h2 => (show j = m by omega) ▸ hl
                · exact .inr ⟨m, by omega, hl, h1⟩
              · exact .inr h1
          rcases this (ops.size - 1) (Nat.le_refl _) with h1 | h1
          · exact ⟨ops.size - 1, hN, hnl, h1⟩
          · exact h1
        obtain ⟨i, h1, h2, h3⟩ := this
        have := (mem_ready hs hac).2 ⟨h1, h2, fun j hj => h3 j (hac i h1 j hj)⟩
        rw [hr] at this
        exact absurd this (by simp)
      · obtain ⟨hi1, hi2, hi3⟩ := (mem_ready hs hac).1 hi
        have hs' : (listed.setIfInBounds i true).size = ops.size := by simpa using hs
        have hLs : ∀ j, Lst (listed.setIfInBounds i true) j ↔ j = i ∨ Lst listed j := fun j => by
          unfold Lst; rw [getD_set _ _ _ (by omega)]; by_cases e : j = i <;> simp [e]
        have hcl'' : Closed ops (listed.setIfInBounds i true) := fun m hm hl j hj => by
          rw [hLs] at hl ⊢
          rcases hl with rfl | hl
          · exact .inr (hi3 j hj)
          · exact .inr (hcl' m hm hl j hj)
        have hc' : cnt (listed.setIfInBounds i true) ops.size ≤ fuel := by
          have := cnt_set listed i (by omega) hi2 ops.size
          rw [if_pos hi1] at this; omega
        have hanc : ∀ j, j ∈ ancF ops ops.size i → Lst listed j := fun j hj => by
          have := closed_anc hcl'' hac ops.size i j hi1 ((hLs i).2 (.inl rfl)) hj
          rcases (hLs j).1 this with rfl | h1
          · exfalso
            have lt : ∀ (f m j : Nat), m < ops.size → j ∈ ancF ops f m → j < m := by
              intro f
              induction f with
              | zero => intro m j _ h; simp [ancF] at h
              | succ f ihf =>
                intro m j hm h
                simp only [ancF, List.mem_flatMap, List.mem_cons] at h
                obtain ⟨q, hq, h⟩ := h
                have hqm := hac m hm q hq
                rcases h with rfl | h
                · exact hqm
                · have := ihf q j (by omega) h; omega
            have := lt _ _ _ hi1 hj; omega
          · exact h1
        obtain ⟨o, ho⟩ : ∃ o, ops[i]? = some o := ⟨ops[i], Array.getElem?_eq_getElem hi1⟩
        have hdi : dstOf ops i = o.dst := by simp [dstOf, ho]
        have hrdi : rdOf ops i = tmpsOf o ++ gdOf ops o := by unfold rdOf; simp only [ho]
        have hjlt : j < cs.length := by
          obtain ⟨m, hm⟩ := List.getElem?_of_mem hlc
          have h1 := (List.getElem?_eq_some_iff.1 hm).1
          have h2 := hcj m _ hm
          exact Nat.lt_of_not_le fun h3 => hnl (h2.2 (by omega))
        obtain ⟨ci, hci⟩ : ∃ c, cs[j]? = some c := ⟨cs[j], List.getElem?_eq_getElem hjlt⟩
        obtain ⟨oc, hoc⟩ : ∃ o, ops[ci]? = some o := ⟨_, Array.getElem?_eq_getElem (hclt ci (List.mem_of_getElem? hci))⟩
        have hclj : cl[j]? = some oc := by rw [pickO_get hcl j, hci]; exact hoc
        have hdrop : cl.drop j = oc :: cl.drop (j + 1) := by
          obtain ⟨h1, h2⟩ := List.getElem?_eq_some_iff.1 hclj
          rw [List.drop_eq_getElem_cons h1, h2]
        rw [hdrop] at hch
        have hch' : stepCh P T n W oc (cl.drop (j + 1)) (chOps P T n W (cl.drop (j + 1))) Fj w' (fun F w => K .normal F w) := hch
        obtain ⟨hWw, hrest⟩ := hch'
        unfold wpOp
        simp only [ho]
        by_cases hic : i ∈ cs
        · -- the chain's next
          have hii : i = ci := by
            obtain ⟨m, hm⟩ := List.getElem?_of_mem hic
            have hmj : ¬ m < j := fun e => hi2 ((hcj m i hm).2 e)
            rcases Nat.lt_or_ge j m with e | e
            · exfalso
              have h1 := (List.getElem?_eq_some_iff.1 hm)
              have h2 := (List.getElem?_eq_some_iff.1 hci)
              obtain ⟨h1a, h1b⟩ := h1
              obtain ⟨h2a, h2b⟩ := h2
              have hlt := List.pairwise_iff_getElem.1 hcs j m h2a h1a e
              rw [h1b, h2b] at hlt
              have := hanc ci (hcan ci (List.mem_of_getElem? hci) i hic hlt)
              have := (hcj j ci hci).1 this
              omega
            · have : m = j := by omega
              subst this
              rw [hci] at hm; simpa using hm.symm
          subst hii
          rw [ho] at hoc
          obtain rfl : o = oc := by simpa using hoc
          split at hrest
          · exact hrest.elim
          rename_i hdo
          split at hrest
          · exact hrest.elim
          rename_i hgn
          rw [if_pos (wanted_none hgn)]
          refine .inl ?_
          have hev : ∀ x u, evR o Fj x = some u → a.eval x = u := ev_of_phi (Φ := look Fj.env) (fun t => rfl) fun t ht u hu => by
            rcases hG t u hu with ⟨q, hq1, hq2, hq3⟩ | hu'
            · exfalso
              have hqi : q ≠ i := fun e => (hqc q hq1).1 (e ▸ hic)
              exact hq2 (hanc q (hrc i hic q (List.mem_range.2 (hqc q hq1).2) hqi t (by rw [hrdi]; exact List.mem_append_left _ ht) hq3))
            · exact hu'
          refine exOp_sound hT hev hrest (fun v w2 hnx => ?_) (fun ch w2 q => q.elim)
          have hG2 : ∀ t u, look (Fj.put o.dst v).env t = some u → (∃ q, q ∈ qis ∧ ¬ Lst (listed.setIfInBounds i true) q ∧ dstOf ops q = some t) ∨ (a.put o.dst v).tmps[t]? = some u := fun t u ht => by
            by_cases hd : o.dst = some t
            · rw [hd] at ht hdo ⊢
              rw [look_put_eq] at ht
              simp at ht; subst ht
              exact .inr (act_put_eq (by rw [hsz]; exact hdo))
            · rw [act_put_ne hd]
              have ht' : look Fj.env t = some u := by rw [look_put_ne hd] at ht; exact ht
              rcases hG t u ht' with ⟨q, hq1, hq2, hq3⟩ | hu
              · refine .inl ⟨q, hq1, fun e => ?_, hq3⟩
                rcases (hLs q).1 e with e | e
                · exact (hqc q hq1).1 (e ▸ hic)
                · exact hq2 e
              · exact .inr hu
          have hds2 : (Fj.put o.dst v).ds = F.ds := by cases o.dst <;> exact hdj
          by_cases hl' : i = ops.size - 1
          · -- the last
            have hall : ∀ q, q < ops.size → Lst (listed.setIfInBounds i true) q := fun q hq => by
              rw [hLs]
              by_cases e : q = i
              · exact .inl e
              · exact .inr (hanc q (by rw [hl']; exact hlast q (by omega)))
            have hready : Region.ready .any ops (listed.setIfInBounds i true) = [] := by
              rw [List.eq_nil_iff_forall_not_mem]
              intro q hq
              obtain ⟨h1, h2, _⟩ := (mem_ready hs' hac).1 hq
              exact h2 (hall q h1)
            have hagr : Agr n (Fj.put o.dst v) (a.put o.dst v) := ⟨by rw [act_put_size, hsz], by rw [act_put_defers, hds2, hdf], fun t u ht => by
              rcases hG2 t u ht with ⟨q, hq1, hq2, hq3⟩ | hu
              · exact absurd (hall q (hqc q hq1).2) hq2
              · exact hu⟩
            have hend : cl.drop (j + 1) = [] := by
              refine List.drop_eq_nil_of_le ?_
              rw [pickO_len hcl]
              refine Nat.le_of_not_lt fun hlt => ?_
              obtain ⟨c2, hc2⟩ : ∃ c, cs[j + 1]? = some c := ⟨cs[j + 1], List.getElem?_eq_getElem hlt⟩
              obtain ⟨h1a, h1b⟩ := List.getElem?_eq_some_iff.1 hc2
              obtain ⟨h2a, h2b⟩ := List.getElem?_eq_some_iff.1 hci
              have h3 := List.pairwise_iff_getElem.1 hcs j (j + 1) h2a h1a (by omega)
              rw [h1b, h2b] at h3
              have := hclt c2 (List.mem_of_getElem? hc2)
              omega
            rw [hend] at hnx
            have q : Lift n K .normal (a.put o.dst v) w2 := ⟨_, hagr, hnx⟩
            cases fuel with
            | zero => exact ⟨hready, q⟩
            | succ f => exact ⟨fun _ => q, fun j hj => by rw [hready] at hj; exact absurd hj (by simp)⟩
          · refine ih _ _ _ (j + 1) (Fj.put o.dst v) hs' hcl'' hc' (fun e => ?_) (by rw [act_put_size, hsz]) (by rw [act_put_defers, hdf]) hds2 hnx (fun m q hq => ?_) (fun m q hq hl d hd => ?_) (fun t u ht hno => ?_) hG2 (fun t ht => ?_)
            · rcases (hLs _).1 e with e | e
              · exact hl' e.symm
              · exact hnl e
            · rw [hLs, hcj m q hq]
              constructor
              · rintro (e | e)
                · subst e
                  have hmj : m = j := by
                    rcases Nat.lt_trichotomy m j with e | e | e
                    · exact absurd ((hcj m _ hq).2 e) hi2
                    · exact e
                    · obtain ⟨h1a, h1b⟩ := List.getElem?_eq_some_iff.1 hq
                      obtain ⟨h2a, h2b⟩ := List.getElem?_eq_some_iff.1 hci
                      have h3 := List.pairwise_iff_getElem.1 hcs j m h2a h1a e
                      omega
                  omega
                · omega
              · intro e
                by_cases hmj : m = j
                · subst hmj; rw [hci] at hq; simp at hq; exact .inl hq.symm
                · exact .inr (by omega)
            · have hqm := List.mem_of_getElem? hq
              have hqi : q ≠ i := fun e => (hqc q hqm).1 (e ▸ hic)
              rw [act_put_ne (fun e => huq q (hqc q hqm).2 i hi1 hqi d hd (by rw [hdi, e]))]
              exact hA m q hq (((hLs q).1 hl).resolve_left hqi) d hd
            · rw [act_put_ne (fun e => hno i hi1 ((hLs i).2 (.inl rfl)) (by rw [hdi, e]))]
              exact hB' t u ht fun q hq hl => hno q hq ((hLs q).2 (.inr hl))
            · rw [← hFj t ht, look_put_ne (fun e => ht i hic (by rw [hdi, e]))]
        · -- a quiet one
          have hiq : i ∈ qis := (hcov i (List.mem_range.2 hi1)).resolve_right hic
          obtain ⟨m, hmi⟩ := hqpos i hiq
          obtain ⟨hdo, hy⟩ := hY m o (by rw [pickO_get hql m, hmi]; exact ho)
          have hreads : ∀ t ∈ tmpsOf o ++ gdOf ops o, ∀ u, PhiF F ql vals m t = some u → a.tmps[t]? = some u := by
            intro t ht u hu
            rw [← hrdi] at ht
            rcases PhiF_cases m hu with ⟨k, hk, hkd, rfl⟩ | ⟨hno, hu'⟩
            · rw [hqget] at hkd
              cases hqk : qis[k]? with
              | none => rw [hqk] at hkd; simp at hkd
              | some q =>
                rw [hqk] at hkd
                have hqlt' := hqlt k m q i hqk hmi hk
                have hqm := List.mem_of_getElem? hqk
                rcases (hrq i hiq q (List.mem_range.2 (hqc q hqm).2) (by omega) t ht hkd).2 with ⟨_, h2⟩ | ⟨h2, _⟩
                · exact hA k q hqk (hanc q h2) t hkd
                · omega
            · refine hB' t u hu' fun q hq hl hd => ?_
              by_cases hqi : q = i
              · subst hqi; exact hi2 hl
              obtain ⟨h1, h2⟩ := hrq i hiq q (List.mem_range.2 hq) hqi t ht hd
              obtain ⟨k, hk⟩ := hqpos q h1
              rcases h2 with ⟨h2, h3⟩ | ⟨h2, h3⟩
              · have hkm : k < m := by
                  rcases Nat.lt_trichotomy k m with e | e | e
                  · exact e
                  · subst e; rw [hmi] at hk; simp at hk; omega
                  · have := hqlt m k i q hmi hk e; omega
                exact hno k hkm (by rw [hqget, hk]; exact hd)
              · exact hi2 (closed_anc hcl' hac ops.size q i hq hl h3)
          have hnext : wpAny P .any ops (Lift n K) fuel (listed.setIfInBounds i true) (a.put o.dst (vals m)) w' := by
            refine ih _ _ _ j Fj hs' hcl'' hc' (fun e => ?_) (by rw [act_put_size, hsz]) (by rw [act_put_defers, hdf]) hdj (by rw [hdrop]; exact hch) (fun k q hq => ?_) (fun k q hq hl d hd => ?_) (fun t u ht hno => ?_) (fun t u ht => ?_) hFj
            · rcases (hLs _).1 e with e | e
              · exact hic (e ▸ hlc)
              · exact hnl e
            · rw [hLs, ← hcj k q hq]
              exact ⟨fun e => e.resolve_left (fun e => hic (e ▸ List.mem_of_getElem? hq)), .inr⟩
            · by_cases e : q = i
              · subst e
                have := hqinj k m q hq hmi
                subst this
                rw [hdi] at hd
                rw [hd] at hdo ⊢
                exact act_put_eq (by rw [hsz]; exact hdo)
              · have hqm := List.mem_of_getElem? hq
                rw [act_put_ne (fun e' => huq q (hqc q hqm).2 i hi1 e d hd (by rw [hdi, e']))]
                exact hA k q hq (((hLs q).1 hl).resolve_left e) d hd
            · rw [act_put_ne (fun e => hno i hi1 ((hLs i).2 (.inl rfl)) (by rw [hdi, e]))]
              exact hB' t u ht fun q hq hl => hno q hq ((hLs q).2 (.inr hl))
            · by_cases hd : o.dst = some t
              · refine .inr ?_
                have hF' : look F'.env t = some u := by
                  rw [← hFj t (fun q hq e => huq i hi1 q (hclt q hq) (fun e' => hic (e' ▸ hq)) t (by rw [hdi, hd]) e)]
                  exact ht
                rw [hlook] at hF'
                rcases PhiF_cases _ hF' with ⟨k, hk, hkd, rfl⟩ | ⟨hno, _⟩
                · rw [hqget] at hkd
                  cases hqk : qis[k]? with
                  | none => rw [hqk] at hkd; simp at hkd
                  | some q =>
                    rw [hqk] at hkd
                    have hqm := List.mem_of_getElem? hqk
                    have hqi : q = i := Classical.byContradiction fun e => huq i hi1 q (hqc q hqm).2 (fun e' => e e'.symm) t (by rw [hdi, hd]) hkd
                    subst hqi
                    have := hqinj k m q hqk hmi
                    subst this
                    rw [hd] at hdo ⊢
                    exact act_put_eq (by rw [hsz]; exact hdo)
                · exact absurd (by rw [hqget, hmi]; show dstOf ops i = some t; rw [hdi, hd]) (hno m (by rw [pickO_len hql]; exact (List.getElem?_eq_some_iff.1 hmi).1))
              · rw [act_put_ne hd]
                rcases hG t u ht with ⟨q, hq1, hq2, hq3⟩ | hu
                · refine .inl ⟨q, hq1, fun e => ?_, hq3⟩
                  rcases (hLs q).1 e with e | e
                  · exact hd (by rw [← hdi, ← e]; exact hq3)
                  · exact hq2 e
                · exact .inr hu
          rcases hy a hreads with ⟨hno, hv⟩ | ⟨hyes, hrun⟩
          · rw [if_neg (by rw [hno]; simp)]
            rw [← hv]
            exact hnext
          · rw [if_pos hyes]
            refine .inl ?_
            unfold Oper.wp
            rcases hrun w' hWw with e | ⟨f, args, e, hcl2⟩
            · exact upon_val e hnext
            · rw [e]
              refine Calls.mono hcl2.out fun en w'' q => ?_
              cases en with
              | returned u => obtain ⟨q1, q2⟩ := q; subst q1; subst q2; exact hnext
              | panicked ch => exact q.elim
              | outgrown => exact q.elim
  have hf : ∀ i, i < ops.size → ¬ Lst (Array.replicate ops.size false) i := fun i hi hl => absurd hl (by unfold Lst; simp [Array.getD_eq_getD_getElem?, hi])
  refine main ops.size _ a0 _ 0 F' (by simp) (fun i hi hl => absurd hl (hf i hi)) ?_ (hf _ hN) ha0.1 ha0.2.1 hds (by rw [List.drop_zero]; exact hfin) (fun m i hi => ⟨fun hl => absurd hl (hf i (hclt i (List.mem_of_getElem? hi))), fun e => by omega⟩)
    (fun m i hi hl => absurd hl (hf i (hqc i (List.mem_of_getElem? hi)).2)) (fun t u ht _ => ha0.2.2 t u ht) (fun t u ht => ?_) (fun _ _ => rfl)
  · have : ∀ m, m ≤ ops.size → cnt (Array.replicate ops.size false) m ≤ m := by
      intro m
      induction m with
      | zero => intro _; simp [cnt]
      | succ m ihm => intro h; have := ihm (by omega); simp only [cnt]; split <;> omega
    exact this _ (Nat.le_refl _)
  · rw [hlook] at ht
    rcases PhiF_cases _ ht with ⟨k, hk, hkd, rfl⟩ | ⟨_, hu⟩
    · rw [hqget] at hkd
      cases hqk : qis[k]? with
      | none => rw [hqk] at hkd; simp at hkd
      | some q =>
        rw [hqk] at hkd
        have hqm := List.mem_of_getElem? hqk
        exact .inl ⟨q, hqm, hf q (hqc q hqm).2, hkd⟩
    · exact .inr (ha0.2.2 t u hu)
end
end Go.Sh
namespace Go.Sh
open Go.RowKit
theorem QLd1.own {W : World → Prop} {b o : Nat} {t : TypeId} {vs : List Value} {v : Value} {k : Value → Prop} (h : ∀ w', W w' → Blk w' b t vs) (hk : k v) (hv : vs[o]? = some v := by rfl) : QLd1 W ⟨b, o, none⟩ k :=
  ⟨v, fun w' hw' => ((h w' hw').cell o).trans hv, hk⟩
end Go.Sh
namespace Go.Proofs.YtbbadmlekagloaaDoor
open Go Go.Sh
set_option linter.unusedVariables false
set_option linter.unusedSimpArgs false
attribute [local irreducible] Blk Ext RdS
/-- the codes of functions, as one piece -/
abbrev cds (L : List FE) : Ck := ⟨fun k => ∃ x ∈ L, x.1.code ≠ [] ∧ obk x.2.1 = some k, fun w => ∀ x ∈ L, RdC w x.2.1 x.1.code, true, false⟩
theorem cds_ok {L : List FE} {w : World} (h : ∀ x ∈ L, RdC w x.2.1 x.1.code) : (cds L).Ok w :=
  ⟨h, fun k ⟨x, hx, hn, hk⟩ => RdS.lt (h x hx) hn k hk, fun w' hs hb x hx => by
    by_cases hn : x.1.code = []
    · rw [hn]; exact RdS.nil
    · exact RdS.keep (h x hx) hs fun b hb' _ => hb b ⟨x, hx, hn, hb'⟩⟩
theorem Hp.cds0 {S : Nat → Prop} {w0 w : World} {Γ : List Ck} (H : Hp S w0 w Γ) : Hp S w0 w (cds [] :: Γ) :=
  H.fr0 (Hp.one (Tch.refl _ _) (cds_ok (by simp)) (fun k ⟨x, hx, _⟩ => by simp at hx)) (.inl rfl)
theorem Hp.cdsS {S : Nat → Prop} {w0 w : World} {Γ : List Ck} {L : List FE} {f : Fn} {A : Option Addr} {c : Nat} (H : Hp S w0 w (qu Ins.enc 5 35 A c f.code :: cds L :: Γ)) : Hp S w0 w (cds (L ++ [(f, A, c)]) :: Γ) := by
  refine Hp.join2 H rfl rfl (.inl rfl) (fun k ⟨x, hx, hn, hk⟩ => ?_) (fun _ h1 h2 => cds_ok fun x hx => ?_)
  · rcases List.mem_append.1 hx with hx | hx
    · exact .inr ⟨x, hx, hn, hk⟩
    · simp at hx; subst hx; exact .inl hk
  · rcases List.mem_append.1 hx with hx | hx
    · exact h2.holds x hx
    · simp at hx; subst hx; exact Que.rd h1.holds
/-- what Decode answers -/
def Decoded (d : Int × List Fn) (w : World) (v : Value) (w' : World) : Prop := ∃ B c L, v = .tuple #[pv B L.length c, .int .i64 d.1] ∧ fns L = d.2 ∧ Hp nw w w' [qu FE.enc 4 24 B c L, cds L]
theorem Decoded.no {d : Int × List Fn} {e : Int} {w w' : World} {Γ : List Ck} (H : Hp nw w w' Γ) (hd : d = (e, [])) : Decoded d w (.tuple #[.agg #[.slice none 0 0], .int .i64 e]) w' := by
  subst hd
  have H2 := Hp.nil (Hp.cds0 H.non) FE.enc 4 24
  exact ⟨none, 0, [], rfl, rfl, H2⟩
set_option maxHeartbeats 1000000 in
theorem Decode_c (A : Option Addr) (c : Nat) (x : Int) (r : List Int) (s : Int) (w : World) (hG : RdG w) (hA : RdS ints 1 w A (x :: r ++ [s])) (hc : r.length + 2 ≤ c) (hl : 1 ≤ r.length) (hl2 : r.length ≤ 9223372036854775700) :
    Cl Tryd.prog 45 #[.slice A (x :: r ++ [s]).length c] w (Decoded (decL (x :: r) s) w) (fun _ _ => False) := by
  have hlen : (x :: r ++ [s]).length = r.length + 2 := by simp
  have hml : (x :: r).length = r.length + 1 := rfl
  have hw1 : IntKind.i64.wrap (((x :: r ++ [s]).length : Int) - 1) = (((x :: r).length : Nat) : Int) := w64 (by rw [hlen, hml]; omega) (by omega) (by omega)
  have hx : (x :: r ++ [s])[(x :: r).length]? = some s := by rw [List.getElem?_append_right (Nat.le_refl _)]; simp
  have hx0 : (x :: r ++ [s])[0]? = some x := rfl
  have hm : ∀ w', RdS ints 1 w' A (x :: r ++ [s]) → RdS ints 1 w' A (x :: r) := fun w' h => by
    have := RdS.take (k := (x :: r).length) h
    rwa [List.take_left] at this
  have hR : RdS ints 1 w (cutA A c 1 1) r := by
    have h1 := (hm w hA).cut (k := 1) (c := c) (by simp) (by rw [hml]; omega)
    exact h1
  by_cases hs : sumL (x :: r) = s
  case neg =>
    refine ⟨Calls.mono (Decode_bad A c (x :: r) s w hA (by rw [hml]; omega) (by rw [hml]; omega) (by rw [hml]; omega) hs).out fun e w' q => ?_⟩
    cases e with
    | returned v =>
      obtain ⟨rfl, he⟩ := q
      exact Decoded.no ((Hp.begin nw w).ext he) (by unfold decL; rw [if_pos hs])
    | panicked ch => exact q.elim
    | outgrown => exact q.elim
  refine calls_ex (args := [.slice A (x :: r ++ [s]).length c]) T.ok Tryd.func45 rfl rfl rfl rfl ?_
  have H := Hp.begin nw w
  refine Sq.mk ?_
  ((conv => whnf); refine Al.hp H ?_; clear H; intro pp _ H _)
  repeat' ((conv => whnf); first | (((with_reducible show Gd _ _ _); first | with_reducible refine Gd.t ?_ | with_reducible refine Gd.f ?_ | with_reducible refine Gd.dec (fun _ => ?_) (fun _ => ?_) | with_reducible refine Gd.beq (fun _ => ?_) (fun _ => ?_) | with_reducible refine Gd.bne (fun _ => ?_) (fun _ => ?_) | with_reducible refine Gd.not ?_ | refine Gd.t ?_ | refine Gd.f ?_ | with_reducible refine Gd.var (fun _ => ?_) (fun _ => ?_)) <;> first | (exfalso; omega) | skip) | with_reducible refine Sq.mk ?_ | ((with_reducible show Ld1 _ _ _); first | refine Ld1.h H ?_ | refine Ld1.rF ?_ | refine Ld1.r ?_) | ((with_reducible show Ld _ _ _ _); first | refine Ld.h H ?_ | refine Ld.r ?_) | ((with_reducible show Ix _ _ _ _ _); (first | refine Ix.h ?_ | refine Ix.ha ?_)) | (refine Al.hp H ?_; clear H; intro _ _ H _) | (refine St.h H ?_; clear H; intro _ H))
  have hA5 := RdS.from H.e hA
  ((conv => whnf); refine Dr.quiet T.ok mixed (by kernel_rfl) (fun W hW => ?_))
  repeat' (first | ((conv => whnf); first | (((with_reducible show Gd _ _ _); first | with_reducible refine Gd.t ?_ | with_reducible refine Gd.f ?_ | with_reducible refine Gd.dec (fun _ => ?_) (fun _ => ?_) | with_reducible refine Gd.beq (fun _ => ?_) (fun _ => ?_) | with_reducible refine Gd.bne (fun _ => ?_) (fun _ => ?_) | with_reducible refine Gd.not ?_ | refine Gd.t ?_ | refine Gd.f ?_ | with_reducible refine Gd.var (fun _ => ?_) (fun _ => ?_)) <;> first | (exfalso; omega) | skip) | ((with_reducible show QLd1 _ _ _); first | refine QLd1.h hW H ?_ | refine QLd1.rF hW ?_ | refine QLd1.r hW ?_) | ((with_reducible show QLd _ _ _ _); first | refine QLd.h hW H ?_ | refine QLd.r hW ?_) | ((with_reducible show Ix _ _ _ _ _); (first | refine Ix.h ?_ | refine Ix.ha ?_))) | ((conv => whnf); refine QSm.cutHi (i := (x :: r).length) hW T.ok (by omega) ?_) | ((conv => whnf); refine QCl.mk hW (fun _ ee => Cl.mk (psum_c A c (x :: r) _ (hm _ (RdS.from ee hA5)) (by omega)) (fun _ _ h => h)) ?_))
  all_goals first | (exfalso; exact absurd hs (by assumption)) | skip
  (intro _ eT; replace H := H.ext eT; clear hW eT)
  clear hA5
  by_cases h0 : x = 1886156142
  case neg =>
    repeat' ((conv => whnf); first | (((with_reducible show Gd _ _ _); first | with_reducible refine Gd.t ?_ | with_reducible refine Gd.f ?_ | with_reducible refine Gd.dec (fun _ => ?_) (fun _ => ?_) | with_reducible refine Gd.beq (fun _ => ?_) (fun _ => ?_) | with_reducible refine Gd.bne (fun _ => ?_) (fun _ => ?_) | with_reducible refine Gd.not ?_ | refine Gd.t ?_ | refine Gd.f ?_ | with_reducible refine Gd.var (fun _ => ?_) (fun _ => ?_)) <;> first | (exfalso; omega) | skip) | with_reducible refine Sq.mk ?_ | ((with_reducible show Ld1 _ _ _); first | refine Ld1.h H ?_ | refine Ld1.rF ?_ | refine Ld1.r ?_) | ((with_reducible show Ld _ _ _ _); first | refine Ld.h H ?_ | refine Ld.r ?_) | ((with_reducible show Ix _ _ _ _ _); (first | refine Ix.h ?_ | refine Ix.ha ?_)) | (refine Al.hp H ?_; clear H; intro _ _ H _) | (refine St.h H ?_; clear H; intro _ H))
    all_goals first | (exfalso; exact absurd (by assumption) h0) | skip
    exact Decoded.no H (by unfold decL; rw [if_neg (by simpa using hs), if_pos (show nx (x :: r) ≠ 1886156142 from h0)])
  repeat' ((conv => whnf); first | (((with_reducible show Gd _ _ _); first | with_reducible refine Gd.t ?_ | with_reducible refine Gd.f ?_ | with_reducible refine Gd.dec (fun _ => ?_) (fun _ => ?_) | with_reducible refine Gd.beq (fun _ => ?_) (fun _ => ?_) | with_reducible refine Gd.bne (fun _ => ?_) (fun _ => ?_) | with_reducible refine Gd.not ?_ | refine Gd.t ?_ | refine Gd.f ?_ | with_reducible refine Gd.var (fun _ => ?_) (fun _ => ?_)) <;> first | (exfalso; omega) | skip) | with_reducible refine Sq.mk ?_ | ((with_reducible show Ld1 _ _ _); first | refine Ld1.h H ?_ | refine Ld1.rF ?_ | refine Ld1.r ?_) | ((with_reducible show Ld _ _ _ _); first | refine Ld.h H ?_ | refine Ld.r ?_) | ((with_reducible show Ix _ _ _ _ _); (first | refine Ix.h ?_ | refine Ix.ha ?_)) | (refine Al.hp H ?_; clear H; intro _ _ H _) | (refine St.h H ?_; clear H; intro _ H))
  all_goals first | (exfalso; exact absurd h0 (by assumption)) | skip
  (conv => whnf)
  refine Sm.cutLH (i := 1) (j := (x :: r).length) T.ok rfl rfl rfl rfl rfl hw1 (by simp) (by omega) ?_
  repeat' ((conv => whnf); first | (((with_reducible show Gd _ _ _); first | with_reducible refine Gd.t ?_ | with_reducible refine Gd.f ?_ | with_reducible refine Gd.dec (fun _ => ?_) (fun _ => ?_) | with_reducible refine Gd.beq (fun _ => ?_) (fun _ => ?_) | with_reducible refine Gd.bne (fun _ => ?_) (fun _ => ?_) | with_reducible refine Gd.not ?_ | refine Gd.t ?_ | refine Gd.f ?_ | with_reducible refine Gd.var (fun _ => ?_) (fun _ => ?_)) <;> first | (exfalso; omega) | skip) | with_reducible refine Sq.mk ?_ | ((with_reducible show Ld1 _ _ _); first | refine Ld1.h H ?_ | refine Ld1.rF ?_ | refine Ld1.r ?_) | ((with_reducible show Ld _ _ _ _); first | refine Ld.h H ?_ | refine Ld.r ?_) | ((with_reducible show Ix _ _ _ _ _); (first | refine Ix.h ?_ | refine Ix.ha ?_)) | (refine St.h H ?_; clear H; intro _ H))
  ((conv => whnf); refine Al.hp H ?_; clear H; intro pr _ H _)
  repeat' ((conv => whnf); first | (((with_reducible show Gd _ _ _); first | with_reducible refine Gd.t ?_ | with_reducible refine Gd.f ?_ | with_reducible refine Gd.dec (fun _ => ?_) (fun _ => ?_) | with_reducible refine Gd.beq (fun _ => ?_) (fun _ => ?_) | with_reducible refine Gd.bne (fun _ => ?_) (fun _ => ?_) | with_reducible refine Gd.not ?_ | refine Gd.t ?_ | refine Gd.f ?_ | with_reducible refine Gd.var (fun _ => ?_) (fun _ => ?_)) <;> first | (exfalso; omega) | skip) | with_reducible refine Sq.mk ?_ | ((with_reducible show Ld1 _ _ _); first | refine Ld1.h H ?_ | refine Ld1.rF ?_ | refine Ld1.r ?_) | ((with_reducible show Ld _ _ _ _); first | refine Ld.h H ?_ | refine Ld.r ?_) | ((with_reducible show Ix _ _ _ _ _); (first | refine Ix.h ?_ | refine Ix.ha ?_)) | (refine St.h H ?_; clear H; intro _ H))
  ((conv => whnf); refine Al.hp H ?_; clear H; intro p6 _ H _)
  replace H : Hp nw w _ [bk p6 46 (pv none 0 0).cells.toList, bk pr 103 (rdrV (cutA A c 1 1) (c - 1) r false), bk pp 46 T.t46.zero.cells.toList] := H
  replace H := Hp.rr (c := c - 1) (bad := false) (pr := pr) H hR (by omega)
  have hlo : w.heap.size ≤ pr := by assumption
  repeat' ((conv => whnf); first | (((with_reducible show Gd _ _ _); first | with_reducible refine Gd.t ?_ | with_reducible refine Gd.f ?_ | with_reducible refine Gd.dec (fun _ => ?_) (fun _ => ?_) | with_reducible refine Gd.beq (fun _ => ?_) (fun _ => ?_) | with_reducible refine Gd.bne (fun _ => ?_) (fun _ => ?_) | with_reducible refine Gd.not ?_ | refine Gd.t ?_ | refine Gd.f ?_ | with_reducible refine Gd.var (fun _ => ?_) (fun _ => ?_)) <;> first | (exfalso; omega) | skip) | with_reducible refine Sq.mk ?_ | ((with_reducible show Ld1 _ _ _); first | refine Ld1.h H ?_ | refine Ld1.rF ?_ | refine Ld1.r ?_) | ((with_reducible show Ld _ _ _ _); first | refine Ld.h H ?_ | refine Ld.r ?_) | ((with_reducible show Ix _ _ _ _ _); (first | refine Ix.h ?_ | refine Ix.ha ?_)) | (refine Al.hp H ?_; clear H; intro _ _ H _) | (refine St.h H ?_; clear H; intro _ H))
  ((conv => whnf); refine Cl.mk (count_c pr 32 r false w _ H.e hlo (H.atC 1 rfl)) ?_)
  rintro _ _ ⟨rfl, H'⟩
  replace H := H.upd (c := rr w pr r false) H' rfl (.inl rfl)
  clear H'
  have hn := cnt_le 32 r (by decide)
  have hN : cntOf 32 r = ((dcN (x :: r) : Nat) : Int) := by rw [dcN]; show _ = ((cntOf 32 r).toNat : Int); omega
  have hN2 : dcN (x :: r) ≤ 32 := by omega
  rw [hN]
  generalize hs1 : cS 32 (r, false) = s1
  have hs11 : (r.tail, false || cntBad 32 r) = s1 := hs1
  replace H := Hp.nil (Hp.cds0 H) FE.enc 4 24
  repeat' ((conv => whnf); first | (((with_reducible show Gd _ _ _); first | with_reducible refine Gd.t ?_ | with_reducible refine Gd.f ?_ | with_reducible refine Gd.dec (fun _ => ?_) (fun _ => ?_) | with_reducible refine Gd.beq (fun _ => ?_) (fun _ => ?_) | with_reducible refine Gd.bne (fun _ => ?_) (fun _ => ?_) | with_reducible refine Gd.not ?_ | refine Gd.t ?_ | refine Gd.f ?_ | with_reducible refine Gd.var (fun _ => ?_) (fun _ => ?_)) <;> first | (exfalso; omega) | skip) | with_reducible refine Sq.mk ?_ | ((with_reducible show Ld1 _ _ _); first | refine Ld1.h H ?_ | refine Ld1.rF ?_ | refine Ld1.r ?_) | ((with_reducible show Ld _ _ _ _); first | refine Ld.h H ?_ | refine Ld.r ?_) | ((with_reducible show Ix _ _ _ _ _); (first | refine Ix.h ?_ | refine Ix.ha ?_)) | (refine Al.hp H ?_; clear H; intro _ _ H _) | (refine St.h H ?_; clear H; intro _ H))
  refine Lp.g0 T.ok (σ := Nat × Option Addr × Nat × List FE) (fun q => [(37, .int .i64 (q.1 : Int)), (36, .int .i64 (dcN (x :: r) : Int)), (5, .pointer (some ⟨pr, 0, none⟩)), (6, .pointer (some ⟨p6, 0, none⟩)), (2, .pointer (some ⟨pp, 0, none⟩))])
    (fun q w' => q.1 ≤ dcN (x :: r) ∧ fns q.2.2.2 = (rdFs s1 q.1).1 ∧ Hp nw w w' [qu FE.enc 4 24 q.2.1 q.2.2.1 q.2.2.2, cds q.2.2.2, bk p6 46 (pv q.2.1 q.2.2.2.length q.2.2.1).cells.toList, rr w pr (rdFs s1 q.1).2.1 (rdFs s1 q.1).2.2, bk pp 46 T.t46.zero.cells.toList]) (fun q _ => dcN (x :: r) - q.1) (0, none, 0, []) rfl ⟨rfl, rfl, rfl, rfl, rfl, trivial⟩ ⟨Nat.zero_le _, rfl, by rw [← hs11]; exact H⟩ ?_
  clear H
  rintro ⟨i, B, d, L⟩ w5 ⟨hi, hL, H⟩
  simp only at hi hL H ⊢
  have hil : L.length = i := by rw [← fns_len, hL, rdFs_len]
  by_cases hlt : i < dcN (x :: r)
  · have hq : rdFs s1 (i + 1) = ((rdFs s1 i).1 ++ [rdF (rdFs s1 i).2], nF (rdFs s1 i).2) := rfl
    generalize (rdFs s1 i).2 = t at *
    repeat' ((conv => whnf); first | (((with_reducible show Gd _ _ _); first | with_reducible refine Gd.t ?_ | with_reducible refine Gd.f ?_ | with_reducible refine Gd.dec (fun _ => ?_) (fun _ => ?_) | with_reducible refine Gd.beq (fun _ => ?_) (fun _ => ?_) | with_reducible refine Gd.bne (fun _ => ?_) (fun _ => ?_) | with_reducible refine Gd.not ?_ | refine Gd.t ?_ | refine Gd.f ?_ | with_reducible refine Gd.var (fun _ => ?_) (fun _ => ?_)) <;> first | (exfalso; omega) | skip) | with_reducible refine Sq.mk ?_ | ((with_reducible show Ld1 _ _ _); first | refine Ld1.h H ?_ | refine Ld1.rF ?_ | refine Ld1.r ?_) | ((with_reducible show Ld _ _ _ _); first | refine Ld.h H ?_ | refine Ld.r ?_) | ((with_reducible show Ix _ _ _ _ _); (first | refine Ix.h ?_ | refine Ix.ha ?_)) | (refine Al.hp H ?_; clear H; intro _ _ H _) | (refine St.h H ?_; clear H; intro _ H))
    (conv => whnf)
    refine Dr.ch T.ok mixed [0, 1, 2, 6] [3, 4, 5, 7] (by kernel_rfl) rfl rfl (fun w' => Blk w' p6 46 (pv B L.length d).cells.toList) (fun w1 eT _ => ?_)
    replace H := H.ext eT
    repeat' ((conv => whnf); refine QLd1.own (fun _ hw => hw) ?_)
    (conv => whnf)
    refine ⟨H.blk 2 rfl, ?_⟩
    ((conv => whnf); refine Cl.mk (function_c pr t w _ H.e hlo (H.atC 3 rfl)) ?_)
    rintro _ w2 ⟨CA, cc, rfl, H'⟩
    replace H := H.updn (c := rr w pr t.1 t.2) (Hp.swap H') rfl (.inl rfl) (.inl rfl)
    clear H'
    (conv => whnf)
    refine ⟨H.blk 3 rfl, ?_⟩
    refine Sm.lith (cs := FE.enc (rdF t, CA, cc)) H T.ok (fun p5 w3 H _ => ?_)
    (conv => whnf)
    refine ⟨H.blk 4 rfl, ?_⟩
    refine Sm.ap1 (enc := FE.enc) (rdF t, CA, cc) H T.ok ?_ ?_ (fun B' d' w4 H => ?_)
    · show (L.length + 1) * 48 ≤ _; omega
    · omega
    simp only [List.cons_append, List.nil_append] at H
    (conv => whnf)
    refine ⟨H.blk 3 rfl, ?_⟩
    repeat' ((conv => whnf); first | (((with_reducible show Gd _ _ _); first | with_reducible refine Gd.t ?_ | with_reducible refine Gd.f ?_ | with_reducible refine Gd.dec (fun _ => ?_) (fun _ => ?_) | with_reducible refine Gd.beq (fun _ => ?_) (fun _ => ?_) | with_reducible refine Gd.bne (fun _ => ?_) (fun _ => ?_) | with_reducible refine Gd.not ?_ | refine Gd.t ?_ | refine Gd.f ?_ | with_reducible refine Gd.var (fun _ => ?_) (fun _ => ?_)) <;> first | (exfalso; omega) | skip) | with_reducible refine Sq.mk ?_ | ((with_reducible show Ld1 _ _ _); first | refine Ld1.h H ?_ | refine Ld1.rF ?_ | refine Ld1.r ?_) | ((with_reducible show Ld _ _ _ _); first | refine Ld.h H ?_ | refine Ld.r ?_) | ((with_reducible show Ix _ _ _ _ _); (first | refine Ix.h ?_ | refine Ix.ha ?_)) | (refine Al.hp H ?_; clear H; intro _ _ H _) | (refine St.h H ?_; clear H; intro _ H))
    replace H := Hp.swap (Hp.cdsS (H.sel [0, 1, 0, 0, 0, 0] rfl))
    refine ⟨(i + 1, B', d', L ++ [(rdF t, CA, cc)]), ⟨at_int (m := ((i + 1 : Nat) : Int)) rfl (w64 (by simp) (by omega) (by omega)), rfl, rfl, rfl, rfl, trivial⟩, rfl, ⟨by simp only; omega, ?_, ?_⟩, by simp only; omega⟩
    · simp only [hq]; rw [← hL]; simp [fns]
    · simp only [hq, List.length_append, List.length_cons, List.length_nil]
      exact H
  have hi : i = dcN (x :: r) := by omega
  subst hi
  have hQ : dcQ (x :: r) = rdFs s1 (dcN (x :: r)) := by rw [dcQ, ← hs1]; rfl
  rw [← hQ] at H hL
  obtain ⟨A', c', hA', hc', hb'⟩ := H.atC 3 rfl
  replace H := H.upd (c := rr w pr (dcQ (x :: r)).2.1 (dcQ (x :: r)).2.2) (Hp.start (S := (· = pr)) (bk_ok hb') (fun k hk => hk)) rfl (.inl rfl)
  have hd0 : decL (x :: r) s = if (dcQ (x :: r)).2.2 = true ∨ (dcQ (x :: r)).2.1 ≠ [] then (57, []) else if (checkL (dcQ (x :: r)).1).1 ≠ 0 then ((checkL (dcQ (x :: r)).1).1, []) else (0, (dcQ (x :: r)).1) := by
    unfold decL; rw [if_neg (by simpa using hs), if_neg (by simpa [nx] using h0)]
  rw [hd0]
  clear hlt hQ hb' hd0
  generalize dcQ (x :: r) = Q at *
  obtain ⟨fs, rest, bad⟩ := Q
  simp only at H hL ⊢
  cases bad with
  | true =>
    repeat' ((conv => whnf); first | (((with_reducible show Gd _ _ _); first | with_reducible refine Gd.t ?_ | with_reducible refine Gd.f ?_ | with_reducible refine Gd.dec (fun _ => ?_) (fun _ => ?_) | with_reducible refine Gd.beq (fun _ => ?_) (fun _ => ?_) | with_reducible refine Gd.bne (fun _ => ?_) (fun _ => ?_) | with_reducible refine Gd.not ?_ | refine Gd.t ?_ | refine Gd.f ?_ | with_reducible refine Gd.var (fun _ => ?_) (fun _ => ?_)) <;> first | (exfalso; omega) | skip) | with_reducible refine Sq.mk ?_ | ((with_reducible show Ld1 _ _ _); first | refine Ld1.h H ?_ | refine Ld1.rF ?_ | refine Ld1.r ?_) | ((with_reducible show Ld _ _ _ _); first | refine Ld.h H ?_ | refine Ld.r ?_) | ((with_reducible show Ix _ _ _ _ _); (first | refine Ix.h ?_ | refine Ix.ha ?_)) | (refine Al.hp H ?_; clear H; intro _ _ H _) | (refine St.h H ?_; clear H; intro _ H))
    exact Decoded.no H (by rw [if_pos (.inl rfl)])
  | false =>
    cases rest with
    | cons y rest =>
      have hpos : (0 : Int) < ((y :: rest).length : Int) := by rw [List.length_cons]; omega
      repeat' ((conv => whnf); first | (((with_reducible show Gd _ _ _); first | with_reducible refine Gd.t ?_ | with_reducible refine Gd.f ?_ | with_reducible refine Gd.dec (fun _ => ?_) (fun _ => ?_) | with_reducible refine Gd.beq (fun _ => ?_) (fun _ => ?_) | with_reducible refine Gd.bne (fun _ => ?_) (fun _ => ?_) | with_reducible refine Gd.not ?_ | refine Gd.t ?_ | refine Gd.f ?_ | with_reducible refine Gd.var (fun _ => ?_) (fun _ => ?_)) <;> first | (exfalso; omega) | skip) | with_reducible refine Sq.mk ?_ | ((with_reducible show Ld1 _ _ _); first | refine Ld1.h H ?_ | refine Ld1.rF ?_ | refine Ld1.r ?_) | ((with_reducible show Ld _ _ _ _); first | refine Ld.h H ?_ | refine Ld.r ?_) | ((with_reducible show Ix _ _ _ _ _); (first | refine Ix.h ?_ | refine Ix.ha ?_)) | (refine Al.hp H ?_; clear H; intro _ _ H _) | (refine St.h H ?_; clear H; intro _ H))
      exact Decoded.no H (by rw [if_pos (.inr (by simp))])
    | nil =>
      have hz0 : ((([] : List Int).length : Nat) : Int) = 0 := rfl
      rw [if_neg (by simp)]
      repeat' ((conv => whnf); first | (((with_reducible show Gd _ _ _); first | with_reducible refine Gd.t ?_ | with_reducible refine Gd.f ?_ | with_reducible refine Gd.dec (fun _ => ?_) (fun _ => ?_) | with_reducible refine Gd.beq (fun _ => ?_) (fun _ => ?_) | with_reducible refine Gd.bne (fun _ => ?_) (fun _ => ?_) | with_reducible refine Gd.not ?_ | refine Gd.t ?_ | refine Gd.f ?_ | with_reducible refine Gd.var (fun _ => ?_) (fun _ => ?_)) <;> first | (exfalso; omega) | skip) | with_reducible refine Sq.mk ?_ | ((with_reducible show Ld1 _ _ _); first | refine Ld1.h H ?_ | refine Ld1.rF ?_ | refine Ld1.r ?_) | ((with_reducible show Ld _ _ _ _); first | refine Ld.h H ?_ | refine Ld.r ?_) | ((with_reducible show Ix _ _ _ _ _); (first | refine Ix.h ?_ | refine Ix.ha ?_)) | (refine Al.hp H ?_; clear H; intro _ _ H _) | (refine St.h H ?_; clear H; intro _ H))
      (((conv => whnf); refine Cl.mk (Check_c B L d _ (RdS.from H.e hG) ⟨H.rdq 0 rfl, H.atC 1 rfl⟩) ?_); rintro _ _ ⟨rfl, hx⟩; replace H := H.ext hx; clear hx)
      rw [hL]
      ((conv => whnf); refine Al.hp H ?_; clear H; intro p7 _ H _)
      by_cases hz : (checkL fs).1 = 0
      · repeat' ((conv => whnf); first | (((with_reducible show Gd _ _ _); first | with_reducible refine Gd.t ?_ | with_reducible refine Gd.f ?_ | with_reducible refine Gd.dec (fun _ => ?_) (fun _ => ?_) | with_reducible refine Gd.beq (fun _ => ?_) (fun _ => ?_) | with_reducible refine Gd.bne (fun _ => ?_) (fun _ => ?_) | with_reducible refine Gd.not ?_ | refine Gd.t ?_ | refine Gd.f ?_ | with_reducible refine Gd.var (fun _ => ?_) (fun _ => ?_)) <;> first | (exfalso; omega) | skip) | with_reducible refine Sq.mk ?_ | ((with_reducible show Ld1 _ _ _); first | refine Ld1.h H ?_ | refine Ld1.rF ?_ | refine Ld1.r ?_) | ((with_reducible show Ld _ _ _ _); first | refine Ld.h H ?_ | refine Ld.r ?_) | ((with_reducible show Ix _ _ _ _ _); (first | refine Ix.h ?_ | refine Ix.ha ?_)) | (refine Al.hp H ?_; clear H; intro _ _ H _) | (refine St.h H ?_; clear H; intro _ H))
        all_goals first | (exfalso; exact absurd hz (by assumption)) | skip
        all_goals exact ⟨B, d, L, by rw [if_neg (by simpa using hz)]; rfl, by rw [hL, if_neg (by simpa using hz)], H.sel [1, 1] rfl⟩
      · repeat' ((conv => whnf); first | (((with_reducible show Gd _ _ _); first | with_reducible refine Gd.t ?_ | with_reducible refine Gd.f ?_ | with_reducible refine Gd.dec (fun _ => ?_) (fun _ => ?_) | with_reducible refine Gd.beq (fun _ => ?_) (fun _ => ?_) | with_reducible refine Gd.bne (fun _ => ?_) (fun _ => ?_) | with_reducible refine Gd.not ?_ | refine Gd.t ?_ | refine Gd.f ?_ | with_reducible refine Gd.var (fun _ => ?_) (fun _ => ?_)) <;> first | (exfalso; omega) | skip) | with_reducible refine Sq.mk ?_ | ((with_reducible show Ld1 _ _ _); first | refine Ld1.h H ?_ | refine Ld1.rF ?_ | refine Ld1.r ?_) | ((with_reducible show Ld _ _ _ _); first | refine Ld.h H ?_ | refine Ld.r ?_) | ((with_reducible show Ix _ _ _ _ _); (first | refine Ix.h ?_ | refine Ix.ha ?_)) | (refine Al.hp H ?_; clear H; intro _ _ H _) | (refine St.h H ?_; clear H; intro _ H))
        all_goals first | (exfalso; exact absurd (by assumption) hz) | skip
        (conv => whnf)
        refine Dr.ch T.ok mixed [0, 1, 2] [3, 4] (by kernel_rfl) rfl rfl (fun w' => Blk w' p7 48 (fvV (checkL fs)).cells.toList) (fun w1 eT _ => ?_)
        replace H := H.ext eT
        repeat' ((conv => whnf); refine QLd1.own (fun _ hw => hw) ?_)
        (conv => whnf)
        refine ⟨H.blk 0 rfl, ?_⟩
        refine St.h H (fun w2 H => ?_)
        (conv => whnf)
        refine ⟨H.blk 0 rfl, ?_⟩
        repeat' ((conv => whnf); first | (((with_reducible show Gd _ _ _); first | with_reducible refine Gd.t ?_ | with_reducible refine Gd.f ?_ | with_reducible refine Gd.dec (fun _ => ?_) (fun _ => ?_) | with_reducible refine Gd.beq (fun _ => ?_) (fun _ => ?_) | with_reducible refine Gd.bne (fun _ => ?_) (fun _ => ?_) | with_reducible refine Gd.not ?_ | refine Gd.t ?_ | refine Gd.f ?_ | with_reducible refine Gd.var (fun _ => ?_) (fun _ => ?_)) <;> first | (exfalso; omega) | skip) | with_reducible refine Sq.mk ?_ | ((with_reducible show Ld1 _ _ _); first | refine Ld1.h H ?_ | refine Ld1.rF ?_ | refine Ld1.r ?_) | ((with_reducible show Ld _ _ _ _); first | refine Ld.h H ?_ | refine Ld.r ?_) | ((with_reducible show Ix _ _ _ _ _); (first | refine Ix.h ?_ | refine Ix.ha ?_)) | (refine Al.hp H ?_; clear H; intro _ _ H _) | (refine St.h H ?_; clear H; intro _ H))
        refine Decoded.no H ?_
        exact if_pos hz
end Go.Proofs.YtbbadmlekagloaaDoor
namespace Go.Proofs.YtbbadmlekagloaaDoor
open Go Go.Sh
set_option linter.unusedVariables false
set_option linter.unusedSimpArgs false
attribute [local irreducible] Blk Ext RdS
theorem progRound_c (A : Option Addr) (l : List FE) (c : Nat) (w : World) (hA : RdP w A l) (hG : RdG w) :
    Cl Tryd.prog 12 #[pv A l.length c] w (fun v w' => v = .bool true ∧ Ext w w') (fun _ _ => False) := by
  have hfl := fns_len l
  refine calls_ex (args := [pv A l.length c]) T.ok Tryd.func12 rfl rfl rfl rfl ?_
  have H := Hp.begin nw w
  refine Sq.mk ?_
  ((conv => whnf); refine Al.hp H ?_; clear H; intro pp _ H _)
  repeat' ((conv => whnf); first | (((with_reducible show Gd _ _ _); first | with_reducible refine Gd.t ?_ | with_reducible refine Gd.f ?_ | with_reducible refine Gd.dec (fun _ => ?_) (fun _ => ?_) | with_reducible refine Gd.beq (fun _ => ?_) (fun _ => ?_) | with_reducible refine Gd.bne (fun _ => ?_) (fun _ => ?_) | with_reducible refine Gd.not ?_ | refine Gd.t ?_ | refine Gd.f ?_ | with_reducible refine Gd.var (fun _ => ?_) (fun _ => ?_)) <;> first | (exfalso; omega) | skip) | with_reducible refine Sq.mk ?_ | ((with_reducible show Ld1 _ _ _); first | refine Ld1.h H ?_ | refine Ld1.rF ?_ | refine Ld1.r ?_) | ((with_reducible show Ld _ _ _ _); first | refine Ld.h H ?_ | refine Ld.r ?_) | ((with_reducible show Ix _ _ _ _ _); (first | refine Ix.h ?_ | refine Ix.ha ?_)) | (refine Al.hp H ?_; clear H; intro _ _ H _) | (refine St.h H ?_; clear H; intro _ H))
  (((conv => whnf); refine Cl.mk (Check_c A l c _ (RdS.from H.e hG) (hA.ext H.e)) ?_); rintro _ _ ⟨rfl, hx⟩; replace H := H.ext hx; clear hx)
  ((conv => whnf); refine Al.hp H ?_; clear H; intro pc _ H _)
  repeat' ((conv => whnf); first | (((with_reducible show Gd _ _ _); first | with_reducible refine Gd.t ?_ | with_reducible refine Gd.f ?_ | with_reducible refine Gd.dec (fun _ => ?_) (fun _ => ?_) | with_reducible refine Gd.beq (fun _ => ?_) (fun _ => ?_) | with_reducible refine Gd.bne (fun _ => ?_) (fun _ => ?_) | with_reducible refine Gd.not ?_ | refine Gd.t ?_ | refine Gd.f ?_ | with_reducible refine Gd.var (fun _ => ?_) (fun _ => ?_)) <;> first | (exfalso; omega) | skip) | with_reducible refine Sq.mk ?_ | ((with_reducible show Ld1 _ _ _); first | refine Ld1.h H ?_ | refine Ld1.rF ?_ | refine Ld1.r ?_) | ((with_reducible show Ld _ _ _ _); first | refine Ld.h H ?_ | refine Ld.r ?_) | ((with_reducible show Ix _ _ _ _ _); (first | refine Ix.h ?_ | refine Ix.ha ?_)) | (refine Al.hp H ?_; clear H; intro _ _ H _) | (refine St.h H ?_; clear H; intro _ H))
  ((conv => whnf); refine Cl.mk (pEncode_c A l c _ (RdS.from H.e hG) (hA.ext H.e)) ?_)
  rintro _ w2 ⟨D, dc, e, rfl, hv, hn, H'⟩
  replace H := H.fr0 H' (.inl rfl)
  clear H'
  by_cases hz : (checkL (fns l)).1 = 0
  · have hV := check_ok.1 hz
    obtain rfl := hv hV
    have hq := H.que 0 rfl
    have hdc := hq.le
    clear hq
    have hl82 := img_small hV
    have hlv := hV.len
    have hil : (imgS (fns l)).length = ((fns l).flatMap imgF).length + 3 := by rw [imgS, imgP]; simp only [List.length_append, List.length_cons, List.length_nil]; omega
    have hdi : decL (1886156142 :: ((fns l).length : Int) :: (fns l).flatMap imgF) (sumL (imgP (fns l))) = (0, fns l) := dec_img hV
    repeat' (first | ((conv => whnf); first | (((with_reducible show Gd _ _ _); first | with_reducible refine Gd.t ?_ | with_reducible refine Gd.f ?_ | with_reducible refine Gd.dec (fun _ => ?_) (fun _ => ?_) | with_reducible refine Gd.beq (fun _ => ?_) (fun _ => ?_) | with_reducible refine Gd.bne (fun _ => ?_) (fun _ => ?_) | with_reducible refine Gd.not ?_ | refine Gd.t ?_ | refine Gd.f ?_ | with_reducible refine Gd.var (fun _ => ?_) (fun _ => ?_)) <;> first | (exfalso; omega) | skip) | with_reducible refine Sq.mk ?_ | ((with_reducible show Ld1 _ _ _); first | refine Ld1.h H ?_ | refine Ld1.rF ?_ | refine Ld1.r ?_) | ((with_reducible show Ld _ _ _ _); first | refine Ld.h H ?_ | refine Ld.r ?_) | ((with_reducible show Ix _ _ _ _ _); (first | refine Ix.h ?_ | refine Ix.ha ?_)) | (refine Al.hp H ?_; clear H; intro _ _ H _) | (refine St.h H ?_; clear H; intro _ H)) | (((conv => whnf); refine Cl.mk (head_c _ (RdS.from H.e hG)) ?_); rintro _ _ ⟨rfl, hx⟩; replace H := H.ext hx; clear hx))
    all_goals first | (exfalso; exact absurd hz (by assumption)) | skip
    have hd := Decode_c D dc 1886156142 (((fns l).length : Int) :: (fns l).flatMap imgF) (sumL (imgP (fns l))) _ (RdS.from H.e hG) (H.rdq 0 rfl) (by rw [List.length_cons]; omega) (by rw [List.length_cons]; omega) (by rw [List.length_cons]; omega)
    rw [hdi] at hd
    ((conv => whnf); refine Cl.mk (hd) ?_)
    rintro _ w3 ⟨B, bc, L, rfl, hL, H'⟩
    replace H := H.fr0L H' (by simp [Ck.new])
    simp only [List.cons_append, List.nil_append] at H
    clear H' hd
    simp only at hL
    have hll : L.length = l.length := by rw [← fns_len, hL, hfl]
    have hlc : ∀ x ∈ l, x.1.code.length ≤ 1048576 := fun x hx => by have := (shaped_len (hV.shaped x.1 (List.mem_map.2 ⟨x, hx, rfl⟩))).2; omega
    repeat' (first | ((conv => whnf); first | (((with_reducible show Gd _ _ _); first | with_reducible refine Gd.t ?_ | with_reducible refine Gd.f ?_ | with_reducible refine Gd.dec (fun _ => ?_) (fun _ => ?_) | with_reducible refine Gd.beq (fun _ => ?_) (fun _ => ?_) | with_reducible refine Gd.bne (fun _ => ?_) (fun _ => ?_) | with_reducible refine Gd.not ?_ | refine Gd.t ?_ | refine Gd.f ?_ | with_reducible refine Gd.var (fun _ => ?_) (fun _ => ?_)) <;> first | (exfalso; omega) | skip) | with_reducible refine Sq.mk ?_ | ((with_reducible show Ld1 _ _ _); first | refine Ld1.h H ?_ | refine Ld1.rF ?_ | refine Ld1.r ?_) | ((with_reducible show Ld _ _ _ _); first | refine Ld.h H ?_ | refine Ld.r ?_) | ((with_reducible show Ix _ _ _ _ _); (first | refine Ix.h ?_ | refine Ix.ha ?_)) | (refine Al.hp H ?_; clear H; intro _ _ H _) | (refine St.h H ?_; clear H; intro _ H)) | (((conv => whnf); refine Cl.mk (same_c A B l L c bc _ (hA.ext H.e) ⟨H.rdq 1 rfl, H.atC 2 rfl⟩ (by omega) hlc) ?_); rintro _ _ ⟨rfl, hx⟩; replace H := H.ext hx; clear hx))
    all_goals exact ⟨b_eq (by rw [hL]; simp), H.e⟩
  · have hnv : ¬ Valid (fns l) := fun h => hz (check_ok.2 h)
    obtain rfl := hn hnv
    repeat' (first | ((conv => whnf); first | (((with_reducible show Gd _ _ _); first | with_reducible refine Gd.t ?_ | with_reducible refine Gd.f ?_ | with_reducible refine Gd.dec (fun _ => ?_) (fun _ => ?_) | with_reducible refine Gd.beq (fun _ => ?_) (fun _ => ?_) | with_reducible refine Gd.bne (fun _ => ?_) (fun _ => ?_) | with_reducible refine Gd.not ?_ | refine Gd.t ?_ | refine Gd.f ?_ | with_reducible refine Gd.var (fun _ => ?_) (fun _ => ?_)) <;> first | (exfalso; omega) | skip) | with_reducible refine Sq.mk ?_ | ((with_reducible show Ld1 _ _ _); first | refine Ld1.h H ?_ | refine Ld1.rF ?_ | refine Ld1.r ?_) | ((with_reducible show Ld _ _ _ _); first | refine Ld.h H ?_ | refine Ld.r ?_) | ((with_reducible show Ix _ _ _ _ _); (first | refine Ix.h ?_ | refine Ix.ha ?_)) | (refine Al.hp H ?_; clear H; intro _ _ H _) | (refine St.h H ?_; clear H; intro _ H)) | (((conv => whnf); refine Cl.mk (head_c _ (RdS.from H.e hG)) ?_); rintro _ _ ⟨rfl, hx⟩; replace H := H.ext hx; clear hx))
    all_goals first | (exfalso; exact absurd (by assumption) hz) | skip
    all_goals exact ⟨rfl, H.e⟩
end Go.Proofs.YtbbadmlekagloaaDoor
