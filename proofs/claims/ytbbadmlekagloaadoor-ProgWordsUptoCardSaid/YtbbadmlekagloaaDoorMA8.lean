/- own work: PhS, PrC -/
import Derived.Test.YtbbadmlekagloaaDoorMA7
namespace Go.Proofs.YtbbadmlekagloaaDoor
open Go Go.Sh
set_option linter.unusedVariables false
set_option linter.unusedSimpArgs false
attribute [local irreducible] Blk Ext RdS
def InR (n : Int) : Prop := -9223372036854775808 ≤ n ∧ n ≤ 9223372036854775807
def InsR (y : Ins) : Prop := InR y.kd ∧ InR y.a ∧ InR y.b ∧ InR y.c ∧ InR y.k
def FnR (f : Fn) : Prop := InR f.params ∧ InR f.regs ∧ InR f.slots ∧ ∀ y ∈ f.code, InsR y
theorem wrapR (n : Int) : InR (IntKind.i64.wrap n) := by
  unfold InR IntKind.wrap
  simp [IntKind.signed, IntKind.bits]
  split <;> omega
theorem wrap_in {a b : Int} (h : IntKind.i64.wrap a = IntKind.i64.wrap b) : ∃ k : Int, a - b = 18446744073709551616 * k := by
  unfold IntKind.wrap at h
  simp [IntKind.signed, IntKind.bits] at h
  refine ⟨a / 18446744073709551616 - b / 18446744073709551616, ?_⟩
  split at h <;> split at h <;> omega
theorem wrap_mod (a : Int) : ∃ k : Int, IntKind.i64.wrap a = a + 18446744073709551616 * k := by
  unfold IntKind.wrap
  simp [IntKind.signed, IntKind.bits]
  split
  · exact ⟨-(a / 18446744073709551616) - 1, by omega⟩
  · exact ⟨-(a / 18446744073709551616), by omega⟩
def stp (h x : Int) : Int := IntKind.i64.wrap (IntKind.i64.wrap (h * 31) + x)
theorem stp_h {h h' x : Int} (a : InR h) (b : InR h') (hne : h ≠ h') : stp h x ≠ stp h' x := fun e => by
  obtain ⟨k, hk⟩ := wrap_in e
  obtain ⟨k1, h1⟩ := wrap_mod (h * 31)
  obtain ⟨k2, h2⟩ := wrap_mod (h' * 31)
  unfold InR at a b
  rw [h1, h2] at hk
  clear h1 h2 e
  have h3 : 31 * (h - h') = 18446744073709551616 * (k - k1 + k2) := by
    rw [Int.mul_add, Int.mul_sub, Int.mul_sub]
    generalize 18446744073709551616 * k = p at *
    generalize 18446744073709551616 * k1 = p1 at *
    generalize 18446744073709551616 * k2 = p2 at *
    clear a b hne
    omega
  generalize k - k1 + k2 = K at h3
  clear hk
  have h4 : ∃ d, d = h - h' := ⟨_, rfl⟩
  obtain ⟨d, hd⟩ := h4
  rw [← hd] at h3
  have h5 : d = 18446744073709551616 * (17256631552825064415 * K - 29 * d) := by
    have g1 : (18446744073709551616 : Int) * (17256631552825064415 * K) = 17256631552825064415 * (31 * d) := by rw [h3, Int.mul_left_comm]
    rw [Int.mul_sub, g1, ← Int.mul_assoc, ← Int.mul_assoc, ← Int.sub_mul]
    exact (Int.one_mul d).symm
  generalize 17256631552825064415 * K - 29 * d = q at h5
  clear h3
  omega
theorem stp_x {h x y : Int} (a : InR x) (b : InR y) (hne : x ≠ y) : stp h x ≠ stp h y := fun e => by
  obtain ⟨k, hk⟩ := wrap_in e
  unfold InR at a b
  omega
theorem stp_r (h x : Int) : InR (stp h x) := wrapR _
theorem fold_ne : ∀ (r : List Int) {h h' : Int}, InR h → InR h' → h ≠ h' → r.foldl stp h ≠ r.foldl stp h'
  | [], h, h', _, _, hne => hne
  | x :: r, h, h', a, b, hne => fold_ne r (stp_r h x) (stp_r h' x) (stp_h a b hne)
theorem sumL_fold (l : List Int) : sumL l = l.foldl stp 0 := rfl
theorem sumL_r (l : List Int) : InR (sumL l) := by
  rcases List.eq_nil_or_concat l with rfl | ⟨m, x, rfl⟩
  · exact ⟨by decide, by decide⟩
  · rw [List.concat_eq_append, sumL_snoc]; exact wrapR _
theorem sum_set : ∀ {l : List Int} {j : Nat} {x y : Int} (h : Int), l[j]? = some x → InR x → InR y → x ≠ y → (l.set j y).foldl stp h ≠ l.foldl stp h
  | [], j, x, y, h, hj, _, _, _ => by simp at hj
  | z :: r, 0, x, y, h, hj, hx, hy, hne => by
    simp only [List.getElem?_cons_zero, Option.some.injEq] at hj
    subst hj
    exact fold_ne r (stp_r h y) (stp_r h z) (fun e => stp_x hx hy hne e.symm)
  | z :: r, j + 1, x, y, h, hj, hx, hy, hne => sum_set (stp h z) (l := r) (by simpa using hj) hx hy hne
/-- one word changed: the sum is wrong -/
theorem spoilt {m : List Int} {j : Nat} {x y : Int} (hj : (m ++ [sumL m])[j]? = some x) (hx : InR x) (hy : InR y) (hne : x ≠ y) : ∃ m' s', (m ++ [sumL m]).set j y = m' ++ [s'] ∧ sumL m' ≠ s' ∧ m'.length = m.length := by
  have hl := (List.getElem?_eq_some_iff.1 hj).1
  simp only [List.length_append, List.length_cons, List.length_nil] at hl
  rcases Nat.lt_or_ge j m.length with h | h
  · rw [List.getElem?_append_left h] at hj
    exact ⟨m.set j y, sumL m, List.set_append_left _ _ h, sum_set 0 hj hx hy hne, by simp⟩
  · have hjm : j = m.length := by omega
    subst hjm
    rw [List.getElem?_append_right (Nat.le_refl _)] at hj
    simp only [Nat.sub_self, List.getElem?_cons_zero, Option.some.injEq] at hj
    refine ⟨m, y, ?_, by rw [hj]; exact hne, rfl⟩
    rw [List.set_append_right _ _ (Nat.le_refl _)]
    simp
theorem imgF_r {f : Fn} (h : FnR f) (hl : f.code.length ≤ 512) : ∀ n ∈ imgF f, InR n := fun n hn => by
  obtain ⟨h1, h2, h3, h4⟩ := h
  simp only [imgF, funH, List.mem_append, List.mem_cons, List.not_mem_nil, or_false, List.mem_flatMap] at hn
  rcases hn with (rfl | rfl | rfl | rfl) | ⟨y, hy, hn⟩
  · exact h1
  · exact h2
  · exact h3
  · unfold InR; omega
  · obtain ⟨g1, g2, g3, g4, g5⟩ := h4 y hy
    simp only [insW, List.mem_cons, List.not_mem_nil, or_false] at hn
    rcases hn with rfl | rfl | rfl | rfl | rfl <;> assumption
theorem img_r {fs : List Fn} (hV : Valid fs) (h : ∀ f ∈ fs, FnR f) : ∀ n ∈ imgS fs, InR n := fun n hn => by
  simp only [imgS, imgP, List.mem_append, List.mem_cons, List.not_mem_nil, or_false, List.mem_flatMap] at hn
  rcases hn with ((rfl | rfl) | ⟨f, hf, hn⟩) | rfl
  · exact ⟨by decide, by decide⟩
  · have := hV.len; unfold InR; omega
  · exact imgF_r (h f hf) (shaped_len (hV.shaped f hf)).2 n hn
  · exact sumL_r _
theorem Decode_bad (A : Option Addr) (c : Nat) (m : List Int) (s : Int) (w : World) (hA : RdS ints 1 w A (m ++ [s])) (hc : m.length + 1 ≤ c) (hl : 2 ≤ m.length) (hl2 : m.length ≤ 9223372036854775800) (hne : sumL m ≠ s) :
    Cl Tryd.prog 45 #[.slice A (m ++ [s]).length c] w (fun v w' => v = .tuple #[.agg #[.slice none 0 0], .int .i64 58] ∧ Ext w w') (fun _ _ => False) := by
  have hlen : (m ++ [s]).length = m.length + 1 := by simp
  have hw1 : IntKind.i64.wrap (((m ++ [s]).length : Int) - 1) = ((m.length : Nat) : Int) := w64 (by rw [hlen]; omega) (by omega) (by omega)
  have hx : (m ++ [s])[m.length]? = some s := by simp
  have hm : ∀ w', RdS ints 1 w' A (m ++ [s]) → RdS ints 1 w' A m := fun w' h => by
    have := RdS.take (k := m.length) h
    rwa [List.take_left] at this
  refine calls_ex (args := [.slice A (m ++ [s]).length c]) T.ok Tryd.func45 rfl rfl rfl rfl ?_
  have H := Hp.begin nw w
  refine Sq.mk ?_
  ((conv => whnf); refine Al.hp H ?_; clear H; intro pp _ H _)
  repeat' ((conv => whnf); first | (((with_reducible show Gd _ _ _); first | with_reducible refine Gd.t ?_ | with_reducible refine Gd.f ?_ | with_reducible refine Gd.dec (fun _ => ?_) (fun _ => ?_) | with_reducible refine Gd.beq (fun _ => ?_) (fun _ => ?_) | with_reducible refine Gd.bne (fun _ => ?_) (fun _ => ?_) | with_reducible refine Gd.not ?_ | refine Gd.t ?_ | refine Gd.f ?_ | with_reducible refine Gd.var (fun _ => ?_) (fun _ => ?_)) <;> first | (exfalso; omega) | skip) | with_reducible refine Sq.mk ?_ | ((with_reducible show Ld1 _ _ _); first | refine Ld1.h H ?_ | refine Ld1.rF ?_ | refine Ld1.r ?_) | ((with_reducible show Ld _ _ _ _); first | refine Ld.h H ?_ | refine Ld.r ?_) | ((with_reducible show Ix _ _ _ _ _); (first | refine Ix.h ?_ | refine Ix.ha ?_)) | (refine Al.hp H ?_; clear H; intro _ _ H _) | (refine St.h H ?_; clear H; intro _ H))
  have hA5 := RdS.from H.e hA
  ((conv => whnf); refine Dr.quiet T.ok mixed (by kernel_rfl) (fun W hW => ?_))
  repeat' (first | ((conv => whnf); first | (((with_reducible show Gd _ _ _); first | with_reducible refine Gd.t ?_ | with_reducible refine Gd.f ?_ | with_reducible refine Gd.dec (fun _ => ?_) (fun _ => ?_) | with_reducible refine Gd.beq (fun _ => ?_) (fun _ => ?_) | with_reducible refine Gd.bne (fun _ => ?_) (fun _ => ?_) | with_reducible refine Gd.not ?_ | refine Gd.t ?_ | refine Gd.f ?_ | with_reducible refine Gd.var (fun _ => ?_) (fun _ => ?_)) <;> first | (exfalso; omega) | skip) | ((with_reducible show QLd1 _ _ _); first | refine QLd1.h hW H ?_ | refine QLd1.rF hW ?_ | refine QLd1.r hW ?_) | ((with_reducible show QLd _ _ _ _); first | refine QLd.h hW H ?_ | refine QLd.r hW ?_) | ((with_reducible show Ix _ _ _ _ _); (first | refine Ix.h ?_ | refine Ix.ha ?_))) | ((conv => whnf); refine QSm.cutHi (i := m.length) hW T.ok (by omega) ?_) | ((conv => whnf); refine QCl.mk hW (fun _ ee => Cl.mk (psum_c A c m _ (hm _ (RdS.from ee hA5)) (by omega)) (fun _ _ h => h)) ?_))
  all_goals first | (exfalso; exact absurd (by assumption) hne) | skip
  (intro _ eT; replace H := H.ext eT; clear hW eT)
  repeat' ((conv => whnf); first | (((with_reducible show Gd _ _ _); first | with_reducible refine Gd.t ?_ | with_reducible refine Gd.f ?_ | with_reducible refine Gd.dec (fun _ => ?_) (fun _ => ?_) | with_reducible refine Gd.beq (fun _ => ?_) (fun _ => ?_) | with_reducible refine Gd.bne (fun _ => ?_) (fun _ => ?_) | with_reducible refine Gd.not ?_ | refine Gd.t ?_ | refine Gd.f ?_ | with_reducible refine Gd.var (fun _ => ?_) (fun _ => ?_)) <;> first | (exfalso; omega) | skip) | with_reducible refine Sq.mk ?_ | ((with_reducible show Ld1 _ _ _); first | refine Ld1.h H ?_ | refine Ld1.rF ?_ | refine Ld1.r ?_) | ((with_reducible show Ld _ _ _ _); first | refine Ld.h H ?_ | refine Ld.r ?_) | ((with_reducible show Ix _ _ _ _ _); (first | refine Ix.h ?_ | refine Ix.ha ?_)) | (refine Al.hp H ?_; clear H; intro _ _ H _) | (refine St.h H ?_; clear H; intro _ H))
  exact ⟨rfl, H.e⟩
theorem progSpoilt_c (A : Option Addr) (l : List FE) (c : Nat) (n1 n2 : Int) (w : World) (hA : RdP w A l) (hG : RdG w) (hR : ∀ x ∈ l, FnR x.1) (h2 : InR n2) :
    Cl Tryd.prog 14 #[pv A l.length c, .int .i64 n1, .int .i64 n2] w (fun v w' => v = .bool true ∧ Ext w w') (fun _ _ => False) := by
  have hfl := fns_len l
  refine calls_ex (args := [pv A l.length c, .int .i64 n1, .int .i64 n2]) T.ok Tryd.func14 rfl rfl rfl rfl ?_
  have H := Hp.begin nw w
  refine Sq.mk ?_
  ((conv => whnf); refine Al.hp H ?_; clear H; intro pp _ H _)
  repeat' ((conv => whnf); first | (((with_reducible show Gd _ _ _); first | with_reducible refine Gd.t ?_ | with_reducible refine Gd.f ?_ | with_reducible refine Gd.dec (fun _ => ?_) (fun _ => ?_) | with_reducible refine Gd.beq (fun _ => ?_) (fun _ => ?_) | with_reducible refine Gd.bne (fun _ => ?_) (fun _ => ?_) | with_reducible refine Gd.not ?_ | refine Gd.t ?_ | refine Gd.f ?_ | with_reducible refine Gd.var (fun _ => ?_) (fun _ => ?_)) <;> first | (exfalso; omega) | skip) | with_reducible refine Sq.mk ?_ | ((with_reducible show Ld1 _ _ _); first | refine Ld1.h H ?_ | refine Ld1.rF ?_ | refine Ld1.r ?_) | ((with_reducible show Ld _ _ _ _); first | refine Ld.h H ?_ | refine Ld.r ?_) | ((with_reducible show Ix _ _ _ _ _); (first | refine Ix.h ?_ | refine Ix.ha ?_)) | (refine Al.hp H ?_; clear H; intro _ _ H _) | (refine St.h H ?_; clear H; intro _ H))
  (((conv => whnf); refine Cl.mk (Check_c A l c _ (RdS.from H.e hG) (hA.ext H.e)) ?_); rintro _ _ ⟨rfl, hx⟩; replace H := H.ext hx; clear hx)
  ((conv => whnf); refine Al.hp H ?_; clear H; intro pc _ H _)
  repeat' ((conv => whnf); first | (((with_reducible show Gd _ _ _); first | with_reducible refine Gd.t ?_ | with_reducible refine Gd.f ?_ | with_reducible refine Gd.dec (fun _ => ?_) (fun _ => ?_) | with_reducible refine Gd.beq (fun _ => ?_) (fun _ => ?_) | with_reducible refine Gd.bne (fun _ => ?_) (fun _ => ?_) | with_reducible refine Gd.not ?_ | refine Gd.t ?_ | refine Gd.f ?_ | with_reducible refine Gd.var (fun _ => ?_) (fun _ => ?_)) <;> first | (exfalso; omega) | skip) | with_reducible refine Sq.mk ?_ | ((with_reducible show Ld1 _ _ _); first | refine Ld1.h H ?_ | refine Ld1.rF ?_ | refine Ld1.r ?_) | ((with_reducible show Ld _ _ _ _); first | refine Ld.h H ?_ | refine Ld.r ?_) | ((with_reducible show Ix _ _ _ _ _); (first | refine Ix.h ?_ | refine Ix.ha ?_)) | (refine Al.hp H ?_; clear H; intro _ _ H _) | (refine St.h H ?_; clear H; intro _ H))
  ((conv => whnf); refine Cl.mk (pEncode_c A l c _ (RdS.from H.e hG) (hA.ext H.e)) ?_)
  rintro _ w2 ⟨D, dc, e, rfl, hv, hn, H'⟩
  replace H := H.fr0 H' (.inl rfl)
  clear H'
  by_cases hz : (checkL (fns l)).1 = 0
  · have hV := check_ok.1 hz
    obtain rfl := hv hV
    have hq := H.que 0 rfl
    have hdc := hq.le
    clear hq
    have hl82 := img_small hV
    have hl3 : 3 ≤ (imgS (fns l)).length := by rw [imgS, imgP]; simp only [List.length_append, List.length_cons, List.length_nil]; omega
    have hpl : (imgS (fns l)).length = (imgP (fns l)).length + 1 := by rw [imgS]; simp
    have hj := modN_lt n1 (n := (imgS (fns l)).length) (by omega)
    obtain ⟨x, hx⟩ : ∃ x, (imgS (fns l))[modN n1 (imgS (fns l)).length]? = some x := ⟨_, List.getElem?_eq_getElem hj⟩
    have hxr : InR x := img_r hV (fun f hf => by obtain ⟨y, hy, rfl⟩ := List.mem_map.1 hf; exact hR y hy) x (List.mem_of_getElem? hx)
    have fin : ∀ (y : Int), InR y → x ≠ y → ∃ m' s', (imgS (fns l)).set (modN n1 (imgS (fns l)).length) y = m' ++ [s'] ∧ sumL m' ≠ s' ∧ m'.length = (imgP (fns l)).length := fun y hy hne => spoilt (m := imgP (fns l)) hx hxr hy hne
    repeat' (first | ((conv => whnf); first | (((with_reducible show Gd _ _ _); first | with_reducible refine Gd.t ?_ | with_reducible refine Gd.f ?_ | with_reducible refine Gd.dec (fun _ => ?_) (fun _ => ?_) | with_reducible refine Gd.beq (fun _ => ?_) (fun _ => ?_) | with_reducible refine Gd.bne (fun _ => ?_) (fun _ => ?_) | with_reducible refine Gd.not ?_ | refine Gd.t ?_ | refine Gd.f ?_ | with_reducible refine Gd.var (fun _ => ?_) (fun _ => ?_)) <;> first | (exfalso; omega) | skip) | with_reducible refine Sq.mk ?_ | ((with_reducible show Ld1 _ _ _); first | refine Ld1.h H ?_ | refine Ld1.rF ?_ | refine Ld1.r ?_) | ((with_reducible show Ld _ _ _ _); first | refine Ld.h H ?_ | refine Ld.r ?_) | ((with_reducible show Ix _ _ _ _ _); (first | refine Ix.h ?_ | refine Ix.ha ?_)) | (refine Al.hp H ?_; clear H; intro _ _ H _) | (refine St.h H ?_; clear H; intro _ H)) | (((conv => whnf); refine Cl.mk (mod_c n1 (imgS (fns l)).length _ (by omega) (by omega)) ?_); rintro _ _ ⟨rfl, hx⟩; replace H := H.ext hx; clear hx))
    all_goals first | (exfalso; exact absurd hz (by assumption)) | skip
    · refine St.elq (enc := ints) (l := imgS (fns l)) (c := dc) (x := IntKind.i64.wrap (n2 + 1)) H rfl hj rfl (fun w' H => ?_)
      simp only [List.nil_append] at H
      obtain ⟨m', s', hms, hsn, hml⟩ := fin _ (wrapR _) (by obtain ⟨k, hk⟩ := wrap_mod (n2 + 1); rw [hk]; omega)
      rw [hms] at H
      have hd := Decode_bad D dc m' s' _ (H.rdq 0 rfl) (by omega) (by omega) (by omega) hsn
      rw [← hms, List.length_set] at hd
      repeat' (first | ((conv => whnf); first | (((with_reducible show Gd _ _ _); first | with_reducible refine Gd.t ?_ | with_reducible refine Gd.f ?_ | with_reducible refine Gd.dec (fun _ => ?_) (fun _ => ?_) | with_reducible refine Gd.beq (fun _ => ?_) (fun _ => ?_) | with_reducible refine Gd.bne (fun _ => ?_) (fun _ => ?_) | with_reducible refine Gd.not ?_ | refine Gd.t ?_ | refine Gd.f ?_ | with_reducible refine Gd.var (fun _ => ?_) (fun _ => ?_)) <;> first | (exfalso; omega) | skip) | with_reducible refine Sq.mk ?_ | ((with_reducible show Ld1 _ _ _); first | refine Ld1.h H ?_ | refine Ld1.rF ?_ | refine Ld1.r ?_) | ((with_reducible show Ld _ _ _ _); first | refine Ld.h H ?_ | refine Ld.r ?_) | ((with_reducible show Ix _ _ _ _ _); (first | refine Ix.h ?_ | refine Ix.ha ?_)) | (refine Al.hp H ?_; clear H; intro _ _ H _) | (refine St.h H ?_; clear H; intro _ H)) | (((conv => whnf); refine Cl.mk (hd) ?_); rintro _ _ ⟨rfl, hx⟩; replace H := H.ext hx; clear hx))
      exact ⟨rfl, H.e⟩
    · refine St.elq (enc := ints) (l := imgS (fns l)) (c := dc) (x := n2) H rfl hj rfl (fun w' H => ?_)
      simp only [List.nil_append] at H
      obtain ⟨m', s', hms, hsn, hml⟩ := fin _ h2 (by assumption)
      rw [hms] at H
      have hd := Decode_bad D dc m' s' _ (H.rdq 0 rfl) (by omega) (by omega) (by omega) hsn
      rw [← hms, List.length_set] at hd
      repeat' (first | ((conv => whnf); first | (((with_reducible show Gd _ _ _); first | with_reducible refine Gd.t ?_ | with_reducible refine Gd.f ?_ | with_reducible refine Gd.dec (fun _ => ?_) (fun _ => ?_) | with_reducible refine Gd.beq (fun _ => ?_) (fun _ => ?_) | with_reducible refine Gd.bne (fun _ => ?_) (fun _ => ?_) | with_reducible refine Gd.not ?_ | refine Gd.t ?_ | refine Gd.f ?_ | with_reducible refine Gd.var (fun _ => ?_) (fun _ => ?_)) <;> first | (exfalso; omega) | skip) | with_reducible refine Sq.mk ?_ | ((with_reducible show Ld1 _ _ _); first | refine Ld1.h H ?_ | refine Ld1.rF ?_ | refine Ld1.r ?_) | ((with_reducible show Ld _ _ _ _); first | refine Ld.h H ?_ | refine Ld.r ?_) | ((with_reducible show Ix _ _ _ _ _); (first | refine Ix.h ?_ | refine Ix.ha ?_)) | (refine Al.hp H ?_; clear H; intro _ _ H _) | (refine St.h H ?_; clear H; intro _ H)) | (((conv => whnf); refine Cl.mk (hd) ?_); rintro _ _ ⟨rfl, hx⟩; replace H := H.ext hx; clear hx))
      exact ⟨rfl, H.e⟩
  · repeat' ((conv => whnf); first | (((with_reducible show Gd _ _ _); first | with_reducible refine Gd.t ?_ | with_reducible refine Gd.f ?_ | with_reducible refine Gd.dec (fun _ => ?_) (fun _ => ?_) | with_reducible refine Gd.beq (fun _ => ?_) (fun _ => ?_) | with_reducible refine Gd.bne (fun _ => ?_) (fun _ => ?_) | with_reducible refine Gd.not ?_ | refine Gd.t ?_ | refine Gd.f ?_ | with_reducible refine Gd.var (fun _ => ?_) (fun _ => ?_)) <;> first | (exfalso; omega) | skip) | with_reducible refine Sq.mk ?_ | ((with_reducible show Ld1 _ _ _); first | refine Ld1.h H ?_ | refine Ld1.rF ?_ | refine Ld1.r ?_) | ((with_reducible show Ld _ _ _ _); first | refine Ld.h H ?_ | refine Ld.r ?_) | ((with_reducible show Ix _ _ _ _ _); (first | refine Ix.h ?_ | refine Ix.ha ?_)) | (refine Al.hp H ?_; clear H; intro _ _ H _) | (refine St.h H ?_; clear H; intro _ H))
    all_goals (try (exfalso; exact absurd (by assumption) hz))
    all_goals ((((conv => whnf); refine Cl.mk (head_c _ (RdS.from H.e hG)) ?_); rintro _ _ ⟨rfl, hx⟩; replace H := H.ext hx; clear hx))
    all_goals (repeat' ((conv => whnf); first | (((with_reducible show Gd _ _ _); first | with_reducible refine Gd.t ?_ | with_reducible refine Gd.f ?_ | with_reducible refine Gd.dec (fun _ => ?_) (fun _ => ?_) | with_reducible refine Gd.beq (fun _ => ?_) (fun _ => ?_) | with_reducible refine Gd.bne (fun _ => ?_) (fun _ => ?_) | with_reducible refine Gd.not ?_ | refine Gd.t ?_ | refine Gd.f ?_ | with_reducible refine Gd.var (fun _ => ?_) (fun _ => ?_)) <;> first | (exfalso; omega) | skip) | with_reducible refine Sq.mk ?_ | ((with_reducible show Ld1 _ _ _); first | refine Ld1.h H ?_ | refine Ld1.rF ?_ | refine Ld1.r ?_) | ((with_reducible show Ld _ _ _ _); first | refine Ld.h H ?_ | refine Ld.r ?_) | ((with_reducible show Ix _ _ _ _ _); (first | refine Ix.h ?_ | refine Ix.ha ?_)) | (refine Al.hp H ?_; clear H; intro _ _ H _) | (refine St.h H ?_; clear H; intro _ H)))
    all_goals exact ⟨b_eq (by simp), H.e⟩
end Go.Proofs.YtbbadmlekagloaaDoor
namespace Go.Proofs.YtbbadmlekagloaaDoor
open Go Go.Sh
set_option linter.unusedVariables false
set_option linter.unusedSimpArgs false
attribute [local irreducible] Blk Ext RdS
def FunAtR (w : World) (a : FE) (cs : List Value) : Prop := (cs = a.enc ∧ RdC w a.2.1 a.1.code) ∧ FnR a.1
section
variable {H : Type} {enc : TypeId × Value → H} {w : World} {sp : Nat → Bool} {held : Bool}
theorem read_insR (fuel : Nat) (cs : List Value) (x : DataW H × List MemPlace) (h : DataW.trod enc Tryd.prog w 0 sp held fuel 35 cs = some x) : ∃ a : Ins, cs.length = 5 ∧ (cs = a.enc ∧ InsR a) ∧ True := by
  obtain ⟨xs, n, _, _, hl, hxs, hf⟩ := DataW.trod_struct u_ins h
  rw [n_ins] at hl
  obtain ⟨c0, c1, c2, c3, c4, rfl⟩ := len5 hl
  have hx5 : xs.length = 5 := hxs
  have g (i : Nat) (hi : i < 5) : ∃ y, xs[i]? = some y := ⟨_, List.getElem?_eq_getElem (by omega)⟩
  have f0 : DataW.trod enc Tryd.prog w 0 sp held n 3 ((List.drop 0 [c0, c1, c2, c3, c4]).take (Tryd.prog.cellsOf 3)) = xs[0]? := hf 0 _ rfl
  have f1 : DataW.trod enc Tryd.prog w 0 sp held n 3 ((List.drop 1 [c0, c1, c2, c3, c4]).take (Tryd.prog.cellsOf 3)) = xs[1]? := hf 1 _ rfl
  have f2 : DataW.trod enc Tryd.prog w 0 sp held n 3 ((List.drop 2 [c0, c1, c2, c3, c4]).take (Tryd.prog.cellsOf 3)) = xs[2]? := hf 2 _ rfl
  have f3 : DataW.trod enc Tryd.prog w 0 sp held n 3 ((List.drop 3 [c0, c1, c2, c3, c4]).take (Tryd.prog.cellsOf 3)) = xs[3]? := hf 3 _ rfl
  have f4 : DataW.trod enc Tryd.prog w 0 sp held n 2 ((List.drop 4 [c0, c1, c2, c3, c4]).take (Tryd.prog.cellsOf 2)) = xs[4]? := hf 4 _ rfl
  obtain ⟨y0, e0⟩ := g 0 (by decide)
  obtain ⟨y1, e1⟩ := g 1 (by decide)
  obtain ⟨y2, e2⟩ := g 2 (by decide)
  obtain ⟨y3, e3⟩ := g 3 (by decide)
  obtain ⟨y4, e4⟩ := g 4 (by decide)
  rw [e0] at f0; rw [e1] at f1; rw [e2] at f2; rw [e3] at f3; rw [e4] at f4
  rw [n_int] at f0 f1 f2 f3
  rw [n_int64] at f4
  obtain ⟨n0, q0, _, w0⟩ := DataW.trod_int u_int f0
  obtain ⟨n1, q1, _, w1⟩ := DataW.trod_int u_int f1
  obtain ⟨n2, q2, _, w2⟩ := DataW.trod_int u_int f2
  obtain ⟨n3, q3, _, w3⟩ := DataW.trod_int u_int f3
  obtain ⟨n4, q4, _, w4⟩ := DataW.trod_int u_int64 f4
  simp at q0 q1 q2 q3 q4
  subst q0 q1 q2 q3 q4
  exact ⟨⟨n0, n1, n2, n3, n4⟩, rfl, ⟨rfl, wf64 w0, wf64 w1, wf64 w2, wf64 w3, wf64 w4⟩, trivial⟩
theorem read_funR (fuel : Nat) (cs : List Value) (x : DataW H × List MemPlace) (h : DataW.trod enc Tryd.prog w 0 sp held fuel 24 cs = some x) :
    ∃ a : FE, cs.length = 4 ∧ FunAtR w a cs ∧ a.1.code.length ≤ Rows.uptoBulk x.1 := by
  obtain ⟨xs, n, _, hx, hl, hxs, hf⟩ := DataW.trod_struct u_fun h
  rw [n_fun] at hl
  obtain ⟨c0, c1, c2, c3, rfl⟩ := len4 hl
  have hx4 : xs.length = 4 := hxs
  have g (i : Nat) (hi : i < 4) : ∃ y, xs[i]? = some y := ⟨_, List.getElem?_eq_getElem (by omega)⟩
  have f0 : DataW.trod enc Tryd.prog w 0 sp held n 3 ((List.drop 0 [c0, c1, c2, c3]).take (Tryd.prog.cellsOf 3)) = xs[0]? := hf 0 _ rfl
  have f1 : DataW.trod enc Tryd.prog w 0 sp held n 3 ((List.drop 1 [c0, c1, c2, c3]).take (Tryd.prog.cellsOf 3)) = xs[1]? := hf 1 _ rfl
  have f2 : DataW.trod enc Tryd.prog w 0 sp held n 3 ((List.drop 2 [c0, c1, c2, c3]).take (Tryd.prog.cellsOf 3)) = xs[2]? := hf 2 _ rfl
  have f3 : DataW.trod enc Tryd.prog w 0 sp held n 22 ((List.drop 3 [c0, c1, c2, c3]).take (Tryd.prog.cellsOf 22)) = xs[3]? := hf 3 _ rfl
  obtain ⟨y0, e0⟩ := g 0 (by decide)
  obtain ⟨y1, e1⟩ := g 1 (by decide)
  obtain ⟨y2, e2⟩ := g 2 (by decide)
  obtain ⟨y3, e3⟩ := g 3 (by decide)
  rw [e0] at f0; rw [e1] at f1; rw [e2] at f2; rw [e3] at f3
  rw [n_int] at f0 f1 f2
  rw [n_code] at f3
  obtain ⟨n0, q0, _, w0⟩ := DataW.trod_int u_int f0
  obtain ⟨n1, q1, _, w1⟩ := DataW.trod_int u_int f1
  obtain ⟨n2, q2, _, w2⟩ := DataW.trod_int u_int f2
  obtain ⟨A, l, c, q3, h1, h2, h3, h4, h5⟩ := read_slice (R := fun _ a cs => cs = Ins.enc a ∧ InsR a) (Q := fun _ _ => True) (sz := 5) u_code n_ins (by decide) read_insR f3
  simp at q0 q1 q2 q3
  subst q0 q1 q2 q3
  refine ⟨(⟨n0, n1, n2, l⟩, A, c), rfl, ⟨⟨rfl, ?_⟩, wf64 w0, wf64 w1, wf64 w2, fun y hy => ?_⟩, ?_⟩
  · unfold RdC RdS
    refine ⟨h4.some, fun i z hz => ?_⟩
    obtain ⟨vs, q1, q2, q3⟩ := h4.at_ i z hz
    exact ⟨vs, q1, q2.1, q3⟩
  · obtain ⟨i, hi⟩ := List.getElem?_of_mem hy
    obtain ⟨vs, q1, q2, q3⟩ := h4.at_ i y hi
    exact q2.2
  · rcases h5 with h5 | ⟨es, rest, h6, h7, _⟩
    · simp [h5]
    · have h8 : DataW.slice es rest ∈ xs.map (·.1) := by rw [← h6]; exact List.mem_map.2 ⟨y3, List.mem_of_getElem? e3, rfl⟩
      have hp := part_le h8
      have hl := len_le es
      rw [hx]
      simp only [Rows.uptoBulk] at hp ⊢
      omega
set_option maxRecDepth 100000 in
theorem read_progR {fuel : Nat} {cs : List Value} {x : DataW H × List MemPlace} (h : DataW.trod enc Tryd.prog w 0 sp held fuel 46 cs = some x) :
    ∃ (l : List FE) (A : Option Addr) (c : Nat), cs = [.slice A l.length c] ∧ RdP w A l ∧ ∀ y ∈ l, FnR y.1 := by
  obtain ⟨xs, n, _, hx, hl, hxs, hf⟩ := DataW.trod_struct u_prog h
  rw [n_prog] at hl
  obtain ⟨c0, rfl⟩ : ∃ c0, cs = [c0] := by
    match cs, hl with
    | [a], _ => exact ⟨a, rfl⟩
  obtain ⟨y0, rfl⟩ : ∃ y0, xs = [y0] := by
    match xs, (show xs.length = 1 from hxs) with
    | [a], _ => exact ⟨a, rfl⟩
  have f0 : DataW.trod enc Tryd.prog w 0 sp held n 44 ((List.drop 0 [c0]).take (Tryd.prog.cellsOf 44)) = some y0 := hf 0 _ rfl
  rw [n_funs] at f0
  obtain ⟨A, l, c, h1, h2, h3, h4, h5, h6⟩ := read_slice (R := FunAtR) (Q := fun a d => a.1.code.length ≤ Rows.uptoBulk d) (sz := 4) u_funs n_fun (by decide) (fun fuel cs y hy => read_funR fuel cs y hy) f0
  have h1 : [c0] = [.slice A l.length c] := h1
  refine ⟨l, A, c, h1, ⟨?_, fun z hz => ?_⟩, fun z hz => ?_⟩
  · unfold RdS
    refine ⟨h5.some, fun i z hz => ?_⟩
    obtain ⟨vs, q1, q2, q3⟩ := h5.at_ i z hz
    exact ⟨vs, q1, q2.1.1, q3⟩
  · obtain ⟨i, hi⟩ := List.getElem?_of_mem hz
    obtain ⟨vs, q1, q2, q3⟩ := h5.at_ i z hi
    exact q2.1.2
  · obtain ⟨i, hi⟩ := List.getElem?_of_mem hz
    obtain ⟨vs, q1, q2, q3⟩ := h5.at_ i z hi
    exact q2.2
set_option maxRecDepth 100000 in
theorem arg_progR {v : Value} {d : DataW H} {p : List MemPlace} {r : Go.Reach} {b0 : Nat} (hv : Value.okWide Tryd.prog w r b0 46 v) (h : DataW.Trod enc Tryd.prog w 0 sp held 46 v d p) :
    ∃ (l : List FE) (A : Option Addr) (c : Nat), v = pv A l.length c ∧ RdP w A l ∧ ∀ y ∈ l, FnR y.1 := by
  obtain ⟨n, hn⟩ := h
  obtain ⟨l, A, c, h1, h2, h3⟩ := read_progR hn
  refine ⟨l, A, c, ?_, h2, h3⟩
  unfold Value.okWide at hv
  rw [u_prog] at hv
  obtain ⟨cs, rfl, _, _⟩ := hv
  have : cs.toList = [.slice A l.length c] := h1
  rw [pv]
  congr 1
  exact Array.ext' this
end
end Go.Proofs.YtbbadmlekagloaaDoor
