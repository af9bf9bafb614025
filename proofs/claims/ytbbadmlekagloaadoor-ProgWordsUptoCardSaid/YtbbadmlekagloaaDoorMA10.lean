/- own work: PhX -/
import Derived.Test.YtbbadmlekagloaaDoorMA9
namespace Go.Proofs.YtbbadmlekagloaaDoor
open Go Go.Sh
set_option linter.unusedVariables false
set_option linter.unusedSimpArgs false
attribute [local irreducible] Blk Ext RdS
theorem Decode_short (A : Option Addr) (c : Nat) (l : List Int) (w : World) (hl : l.length < 3) :
    Cl Tryd.prog 45 #[.slice A l.length c] w (Decoded (57, []) w) (fun _ _ => False) := by
  refine calls_ex (args := [.slice A l.length c]) T.ok Tryd.func45 rfl rfl rfl rfl ?_
  have H := Hp.begin nw w
  refine Sq.mk ?_
  ((conv => whnf); refine Al.hp H ?_; clear H; intro pp _ H _)
  repeat' ((conv => whnf); first | (((with_reducible show Gd _ _ _); first | with_reducible refine Gd.t ?_ | with_reducible refine Gd.f ?_ | with_reducible refine Gd.dec (fun _ => ?_) (fun _ => ?_) | with_reducible refine Gd.beq (fun _ => ?_) (fun _ => ?_) | with_reducible refine Gd.bne (fun _ => ?_) (fun _ => ?_) | with_reducible refine Gd.not ?_ | refine Gd.t ?_ | refine Gd.f ?_ | with_reducible refine Gd.var (fun _ => ?_) (fun _ => ?_)) <;> first | (exfalso; omega) | skip) | with_reducible refine Sq.mk ?_ | ((with_reducible show Ld1 _ _ _); first | refine Ld1.h H ?_ | refine Ld1.rF ?_ | refine Ld1.r ?_) | ((with_reducible show Ld _ _ _ _); first | refine Ld.h H ?_ | refine Ld.r ?_) | ((with_reducible show Ix _ _ _ _ _); (first | refine Ix.h ?_ | refine Ix.ha ?_)) | (refine Al.hp H ?_; clear H; intro _ _ H _) | (refine St.h H ?_; clear H; intro _ H))
  exact Decoded.no H rfl
/-- Decode of words and their sum -/
noncomputable def decW (l : List Int) : Int × List Fn := if l.length < 2 then (57, []) else decL l (sumL l)
theorem Decode_w (A : Option Addr) (c : Nat) (l : List Int) (w : World) (hG : RdG w) (hA : RdS ints 1 w A (l ++ [sumL l])) (hc : l.length + 1 ≤ c) (hl : l.length ≤ 9223372036854775700) :
    Cl Tryd.prog 45 #[.slice A (l.length + 1) c] w (Decoded (decW l) w) (fun _ _ => False) := by
  have hlen : (l ++ [sumL l]).length = l.length + 1 := by simp
  unfold decW
  by_cases h2 : l.length < 2
  · rw [if_pos h2]
    have := Decode_short A c (l ++ [sumL l]) w (by omega)
    rwa [hlen] at this
  · rw [if_neg h2]
    obtain ⟨x, r, rfl⟩ := List.exists_cons_of_ne_nil (show l ≠ [] by rintro rfl; simp at h2)
    rw [List.length_cons] at h2 hc hl
    have := Decode_c A c x r (sumL (x :: r)) w hG hA (by omega) (by omega) (by omega)
    rwa [hlen] at this
theorem decW_no {l : List Int} (h : (decW l).1 ≠ 0) : (decW l).2 = [] := by
  unfold decW decL at h ⊢
  repeat' split
  all_goals first | rfl | (exfalso; simp_all; done)
theorem decW_ok {l : List Int} (h : (decW l).1 = 0) : Valid (decW l).2 ∧ l ++ [sumL l] = imgS (decW l).2 := by
  unfold decW at h ⊢
  by_cases h2 : l.length < 2
  · rw [if_pos h2] at h; simp at h
  · rw [if_neg h2] at h ⊢
    exact img_dec (Prod.ext h rfl) (by rintro rfl; simp at h2)
set_option maxHeartbeats 1000000 in
theorem progWords_c (A : Option Addr) (l : List Int) (c : Nat) (w : World) (hA : RdS ints 1 w A l) (hG : RdG w) (hl : l.length ≤ 1048576) :
    Cl Tryd.prog 13 #[.slice A l.length c] w (fun v w' => v = .bool true ∧ Ext w w') (fun _ _ => False) := by
  have hw1 : IntKind.i64.wrap ((l.length : Int) + 1) = ((l.length + 1 : Nat) : Int) := w64 (by omega) (by omega) (by omega)
  refine calls_ex (args := [.slice A l.length c]) T.ok Tryd.func13 rfl rfl rfl rfl ?_
  have H := Hp.begin nw w
  repeat' ((conv => whnf); first | (((with_reducible show Gd _ _ _); first | with_reducible refine Gd.t ?_ | with_reducible refine Gd.f ?_ | with_reducible refine Gd.dec (fun _ => ?_) (fun _ => ?_) | with_reducible refine Gd.beq (fun _ => ?_) (fun _ => ?_) | with_reducible refine Gd.bne (fun _ => ?_) (fun _ => ?_) | with_reducible refine Gd.not ?_ | refine Gd.t ?_ | refine Gd.f ?_ | with_reducible refine Gd.var (fun _ => ?_) (fun _ => ?_)) <;> first | (exfalso; omega) | skip) | with_reducible refine Sq.mk ?_ | ((with_reducible show Ld1 _ _ _); first | refine Ld1.h H ?_ | refine Ld1.rF ?_ | refine Ld1.r ?_) | ((with_reducible show Ld _ _ _ _); first | refine Ld.h H ?_ | refine Ld.r ?_) | ((with_reducible show Ix _ _ _ _ _); (first | refine Ix.h ?_ | refine Ix.ha ?_)) | (refine Al.hp H ?_; clear H; intro _ _ H _) | (refine St.h H ?_; clear H; intro _ H))
  refine Sm.makeh (enc := ints) (z := (0 : Int)) (n := l.length + 1) H T.ok ?_ (by omega) (fun pb w2 H _ => ?_)
  · show 8 * (l.length + 1) ≤ _; omega
  replace H := Hp.bq (sz := 1) H (fun _ _ => rfl)
  rw [List.length_replicate] at H
  repeat' ((conv => whnf); first | (((with_reducible show Gd _ _ _); first | with_reducible refine Gd.t ?_ | with_reducible refine Gd.f ?_ | with_reducible refine Gd.dec (fun _ => ?_) (fun _ => ?_) | with_reducible refine Gd.beq (fun _ => ?_) (fun _ => ?_) | with_reducible refine Gd.bne (fun _ => ?_) (fun _ => ?_) | with_reducible refine Gd.not ?_ | refine Gd.t ?_ | refine Gd.f ?_ | with_reducible refine Gd.var (fun _ => ?_) (fun _ => ?_)) <;> first | (exfalso; omega) | skip) | with_reducible refine Sq.mk ?_ | ((with_reducible show Ld1 _ _ _); first | refine Ld1.h H ?_ | refine Ld1.rF ?_ | refine Ld1.r ?_) | ((with_reducible show Ld _ _ _ _); first | refine Ld.h H ?_ | refine Ld.r ?_) | ((with_reducible show Ix _ _ _ _ _); (first | refine Ix.h ?_ | refine Ix.ha ?_)) | (refine Al.hp H ?_; clear H; intro _ _ H _) | (refine St.h H ?_; clear H; intro _ H))
  refine Lp.g0 T.ok (σ := Nat × List Int) (fun s => [(6, .int .i64 (s.1 : Int)), (5, .int .i64 (sumL (l.take s.1))), (3, .int .i64 (l.length : Int)), (4, .slice (some ⟨pb, 0, none⟩) (l.length + 1) (l.length + 1)), (0, .slice A l.length c)])
    (fun s w' => s.1 ≤ l.length ∧ s.2.length = l.length + 1 ∧ s.2.take s.1 = l.take s.1 ∧ Hp nw w w' [qu ints 1 2 (some ⟨pb, 0, none⟩) (l.length + 1) s.2]) (fun s _ => l.length - s.1) (0, List.replicate (l.length + 1) 0) rfl ⟨rfl, rfl, rfl, rfl, rfl, trivial⟩ ⟨Nat.zero_le _, by simp, by simp, H⟩ ?_
  clear H
  rintro ⟨i, f⟩ w5 ⟨hi, hf, hft, H⟩
  simp only at hi hf hft H ⊢
  by_cases hlt : i < l.length
  · obtain ⟨x, hx⟩ : ∃ x, l[i]? = some x := ⟨_, List.getElem?_eq_getElem hlt⟩
    obtain ⟨h1, h2⟩ := List.getElem?_eq_some_iff.1 hx
    have hA5 := RdS.from H.e hA
    repeat' ((conv => whnf); first | (((with_reducible show Gd _ _ _); first | with_reducible refine Gd.t ?_ | with_reducible refine Gd.f ?_ | with_reducible refine Gd.dec (fun _ => ?_) (fun _ => ?_) | with_reducible refine Gd.beq (fun _ => ?_) (fun _ => ?_) | with_reducible refine Gd.bne (fun _ => ?_) (fun _ => ?_) | with_reducible refine Gd.not ?_ | refine Gd.t ?_ | refine Gd.f ?_ | with_reducible refine Gd.var (fun _ => ?_) (fun _ => ?_)) <;> first | (exfalso; omega) | skip) | with_reducible refine Sq.mk ?_ | ((with_reducible show Ld1 _ _ _); first | refine Ld1.h H ?_ | refine Ld1.rF ?_ | refine Ld1.r ?_) | ((with_reducible show Ld _ _ _ _); first | refine Ld.h H ?_ | refine Ld.r ?_) | ((with_reducible show Ix _ _ _ _ _); (first | refine Ix.h ?_ | refine Ix.ha ?_)) | (refine Al.hp H ?_; clear H; intro _ _ H _) | (refine St.h H ?_; clear H; intro _ H))
    refine St.elq (enc := ints) (l := f) (c := l.length + 1) (x := x) H rfl (by omega) rfl (fun w' H => ?_)
    simp only [List.nil_append] at H
    clear hA5
    have hA5 := RdS.from H.e hA
    repeat' ((conv => whnf); first | (((with_reducible show Gd _ _ _); first | with_reducible refine Gd.t ?_ | with_reducible refine Gd.f ?_ | with_reducible refine Gd.dec (fun _ => ?_) (fun _ => ?_) | with_reducible refine Gd.beq (fun _ => ?_) (fun _ => ?_) | with_reducible refine Gd.bne (fun _ => ?_) (fun _ => ?_) | with_reducible refine Gd.not ?_ | refine Gd.t ?_ | refine Gd.f ?_ | with_reducible refine Gd.var (fun _ => ?_) (fun _ => ?_)) <;> first | (exfalso; omega) | skip) | with_reducible refine Sq.mk ?_ | ((with_reducible show Ld1 _ _ _); first | refine Ld1.h H ?_ | refine Ld1.rF ?_ | refine Ld1.r ?_) | ((with_reducible show Ld _ _ _ _); first | refine Ld.h H ?_ | refine Ld.r ?_) | ((with_reducible show Ix _ _ _ _ _); (first | refine Ix.h ?_ | refine Ix.ha ?_)) | (refine Al.hp H ?_; clear H; intro _ _ H _) | (refine St.h H ?_; clear H; intro _ H))
    clear hA5
    refine ⟨(i + 1, f.set i x), ⟨at_int (m := ((i + 1 : Nat) : Int)) rfl (w64 (by simp) (by omega) (by omega)), at_val rfl (i_eq ?_), rfl, rfl, rfl, trivial⟩, rfl, ⟨by simp only; omega, by simpa using hf, ?_, H⟩, by simp only; omega⟩
    · rw [List.take_succ_eq_append_getElem h1, sumL_snoc, h2]
    · rw [List.take_succ_eq_append_getElem h1, h2, List.take_succ_eq_append_getElem (by simp; omega), List.take_set_of_le (Nat.le_refl _), hft]
      simp
  have hi : i = l.length := by omega
  subst hi
  rw [List.take_length] at hft ⊢
  repeat' ((conv => whnf); first | (((with_reducible show Gd _ _ _); first | with_reducible refine Gd.t ?_ | with_reducible refine Gd.f ?_ | with_reducible refine Gd.dec (fun _ => ?_) (fun _ => ?_) | with_reducible refine Gd.beq (fun _ => ?_) (fun _ => ?_) | with_reducible refine Gd.bne (fun _ => ?_) (fun _ => ?_) | with_reducible refine Gd.not ?_ | refine Gd.t ?_ | refine Gd.f ?_ | with_reducible refine Gd.var (fun _ => ?_) (fun _ => ?_)) <;> first | (exfalso; omega) | skip) | with_reducible refine Sq.mk ?_ | ((with_reducible show Ld1 _ _ _); first | refine Ld1.h H ?_ | refine Ld1.rF ?_ | refine Ld1.r ?_) | ((with_reducible show Ld _ _ _ _); first | refine Ld.h H ?_ | refine Ld.r ?_) | ((with_reducible show Ix _ _ _ _ _); (first | refine Ix.h ?_ | refine Ix.ha ?_)) | (refine Al.hp H ?_; clear H; intro _ _ H _) | (refine St.h H ?_; clear H; intro _ H))
  refine St.elq (enc := ints) (l := f) (c := l.length + 1) (x := sumL l) H rfl (by omega) rfl (fun w' H => ?_)
  simp only [List.nil_append] at H
  have hfs : f.set l.length (sumL l) = l ++ [sumL l] := by
    have h1 : f = f.take l.length ++ f.drop l.length := (List.take_append_drop _ _).symm
    have h2 : (f.drop l.length).length = 1 := by rw [List.length_drop]; omega
    obtain ⟨y, hy⟩ := List.length_eq_one_iff.1 h2
    rw [hft, hy] at h1
    rw [h1, List.set_append_right _ _ (Nat.le_refl _)]
    simp
  rw [hfs] at H
  clear hfs hf hft hi
  repeat' ((conv => whnf); first | (((with_reducible show Gd _ _ _); first | with_reducible refine Gd.t ?_ | with_reducible refine Gd.f ?_ | with_reducible refine Gd.dec (fun _ => ?_) (fun _ => ?_) | with_reducible refine Gd.beq (fun _ => ?_) (fun _ => ?_) | with_reducible refine Gd.bne (fun _ => ?_) (fun _ => ?_) | with_reducible refine Gd.not ?_ | refine Gd.t ?_ | refine Gd.f ?_ | with_reducible refine Gd.var (fun _ => ?_) (fun _ => ?_)) <;> first | (exfalso; omega) | skip) | with_reducible refine Sq.mk ?_ | ((with_reducible show Ld1 _ _ _); first | refine Ld1.h H ?_ | refine Ld1.rF ?_ | refine Ld1.r ?_) | ((with_reducible show Ld _ _ _ _); first | refine Ld.h H ?_ | refine Ld.r ?_) | ((with_reducible show Ix _ _ _ _ _); (first | refine Ix.h ?_ | refine Ix.ha ?_)) | (refine Al.hp H ?_; clear H; intro _ _ H _) | (refine St.h H ?_; clear H; intro _ H))
  ((conv => whnf); refine Cl.mk (Decode_w (some ⟨pb, 0, none⟩) (l.length + 1) l _ (RdS.from H.e hG) (H.rdq 0 rfl) (Nat.le_refl _) (by omega)) ?_)
  rintro _ w3 ⟨B, bc, L, rfl, hL, H'⟩
  replace H := H.fr0L H' (by simp [Ck.new])
  simp only [List.cons_append, List.nil_append] at H
  clear H'
  repeat' ((conv => whnf); first | (((with_reducible show Gd _ _ _); first | with_reducible refine Gd.t ?_ | with_reducible refine Gd.f ?_ | with_reducible refine Gd.dec (fun _ => ?_) (fun _ => ?_) | with_reducible refine Gd.beq (fun _ => ?_) (fun _ => ?_) | with_reducible refine Gd.bne (fun _ => ?_) (fun _ => ?_) | with_reducible refine Gd.not ?_ | refine Gd.t ?_ | refine Gd.f ?_ | with_reducible refine Gd.var (fun _ => ?_) (fun _ => ?_)) <;> first | (exfalso; omega) | skip) | with_reducible refine Sq.mk ?_ | ((with_reducible show Ld1 _ _ _); first | refine Ld1.h H ?_ | refine Ld1.rF ?_ | refine Ld1.r ?_) | ((with_reducible show Ld _ _ _ _); first | refine Ld.h H ?_ | refine Ld.r ?_) | ((with_reducible show Ix _ _ _ _ _); (first | refine Ix.h ?_ | refine Ix.ha ?_)) | (refine St.h H ?_; clear H; intro _ H))
  ((conv => whnf); refine Al.hp H ?_; clear H; intro p7 _ H _)
  have hln : (l ++ [sumL l]).length = l.length + 1 := by simp
  have hno := @decW_no l
  have hok := @decW_ok l
  generalize decW l = dw at *
  obtain ⟨e, fs⟩ := dw
  simp only at hno hok hL ⊢
  by_cases hz : e = 0
  · obtain ⟨hV, hwd⟩ := hok hz
    have hck := check_ok.2 hV
    have hl82 := img_small hV
    repeat' ((conv => whnf); first | (((with_reducible show Gd _ _ _); first | with_reducible refine Gd.t ?_ | with_reducible refine Gd.f ?_ | with_reducible refine Gd.dec (fun _ => ?_) (fun _ => ?_) | with_reducible refine Gd.beq (fun _ => ?_) (fun _ => ?_) | with_reducible refine Gd.bne (fun _ => ?_) (fun _ => ?_) | with_reducible refine Gd.not ?_ | refine Gd.t ?_ | refine Gd.f ?_ | with_reducible refine Gd.var (fun _ => ?_) (fun _ => ?_)) <;> first | (exfalso; omega) | skip) | with_reducible refine Sq.mk ?_ | ((with_reducible show Ld1 _ _ _); first | refine Ld1.h H ?_ | refine Ld1.rF ?_ | refine Ld1.r ?_) | ((with_reducible show Ld _ _ _ _); first | refine Ld.h H ?_ | refine Ld.r ?_) | ((with_reducible show Ix _ _ _ _ _); (first | refine Ix.h ?_ | refine Ix.ha ?_)) | (refine Al.hp H ?_; clear H; intro _ _ H _) | (refine St.h H ?_; clear H; intro _ H))
    all_goals first | (exfalso; exact absurd hz (by assumption)) | skip
    (((conv => whnf); refine Cl.mk (Check_c B L bc _ (RdS.from H.e hG) ⟨H.rdq 1 rfl, H.atC 2 rfl⟩) ?_); rintro _ _ ⟨rfl, hx⟩; replace H := H.ext hx; clear hx)
    rw [hL]
    ((conv => whnf); refine Al.hp H ?_; clear H; intro p9 _ H _)
    repeat' ((conv => whnf); first | (((with_reducible show Gd _ _ _); first | with_reducible refine Gd.t ?_ | with_reducible refine Gd.f ?_ | with_reducible refine Gd.dec (fun _ => ?_) (fun _ => ?_) | with_reducible refine Gd.beq (fun _ => ?_) (fun _ => ?_) | with_reducible refine Gd.bne (fun _ => ?_) (fun _ => ?_) | with_reducible refine Gd.not ?_ | refine Gd.t ?_ | refine Gd.f ?_ | with_reducible refine Gd.var (fun _ => ?_) (fun _ => ?_)) <;> first | (exfalso; omega) | skip) | with_reducible refine Sq.mk ?_ | ((with_reducible show Ld1 _ _ _); first | refine Ld1.h H ?_ | refine Ld1.rF ?_ | refine Ld1.r ?_) | ((with_reducible show Ld _ _ _ _); first | refine Ld.h H ?_ | refine Ld.r ?_) | ((with_reducible show Ix _ _ _ _ _); (first | refine Ix.h ?_ | refine Ix.ha ?_)) | (refine Al.hp H ?_; clear H; intro _ _ H _) | (refine St.h H ?_; clear H; intro _ H))
    ((conv => whnf); refine Cl.mk (pEncode_c B L bc _ (RdS.from H.e hG) ⟨H.rdq 2 rfl, H.atC 3 rfl⟩) ?_)
    rintro _ w6 ⟨E, ec, le, rfl, hv, hn, H'⟩
    replace H := H.fr0 H' (.inl rfl)
    clear H'
    rw [hL] at hv hn ⊢
    obtain rfl := hv hV
    repeat' ((conv => whnf); first | (((with_reducible show Gd _ _ _); first | with_reducible refine Gd.t ?_ | with_reducible refine Gd.f ?_ | with_reducible refine Gd.dec (fun _ => ?_) (fun _ => ?_) | with_reducible refine Gd.beq (fun _ => ?_) (fun _ => ?_) | with_reducible refine Gd.bne (fun _ => ?_) (fun _ => ?_) | with_reducible refine Gd.not ?_ | refine Gd.t ?_ | refine Gd.f ?_ | with_reducible refine Gd.var (fun _ => ?_) (fun _ => ?_)) <;> first | (exfalso; omega) | skip) | with_reducible refine Sq.mk ?_ | ((with_reducible show Ld1 _ _ _); first | refine Ld1.h H ?_ | refine Ld1.rF ?_ | refine Ld1.r ?_) | ((with_reducible show Ld _ _ _ _); first | refine Ld.h H ?_ | refine Ld.r ?_) | ((with_reducible show Ix _ _ _ _ _); (first | refine Ix.h ?_ | refine Ix.ha ?_)) | (refine Al.hp H ?_; clear H; intro _ _ H _) | (refine St.h H ?_; clear H; intro _ H))
    all_goals first | (exfalso; exact absurd hck (by assumption)) | skip
    have hsw := sameWords_c E (some ⟨pb, 0, none⟩) ec (l.length + 1) (imgS fs) (l ++ [sumL l]) _ (H.rdq 0 rfl) (H.rdq 5 rfl) (by omega)
    rw [hln] at hsw
    repeat' (first | ((conv => whnf); first | (((with_reducible show Gd _ _ _); first | with_reducible refine Gd.t ?_ | with_reducible refine Gd.f ?_ | with_reducible refine Gd.dec (fun _ => ?_) (fun _ => ?_) | with_reducible refine Gd.beq (fun _ => ?_) (fun _ => ?_) | with_reducible refine Gd.bne (fun _ => ?_) (fun _ => ?_) | with_reducible refine Gd.not ?_ | refine Gd.t ?_ | refine Gd.f ?_ | with_reducible refine Gd.var (fun _ => ?_) (fun _ => ?_)) <;> first | (exfalso; omega) | skip) | with_reducible refine Sq.mk ?_ | ((with_reducible show Ld1 _ _ _); first | refine Ld1.h H ?_ | refine Ld1.rF ?_ | refine Ld1.r ?_) | ((with_reducible show Ld _ _ _ _); first | refine Ld.h H ?_ | refine Ld.r ?_) | ((with_reducible show Ix _ _ _ _ _); (first | refine Ix.h ?_ | refine Ix.ha ?_)) | (refine Al.hp H ?_; clear H; intro _ _ H _) | (refine St.h H ?_; clear H; intro _ H)) | (((conv => whnf); refine Cl.mk (hsw) ?_); rintro _ _ ⟨rfl, hx⟩; replace H := H.ext hx; clear hx))
    all_goals exact ⟨b_eq (by simp [hwd]), H.e⟩
  · have hfs := hno hz
    subst hfs
    have hl0 : L = [] := by simpa [fns] using hL
    subst hl0
    have hz0 : ((([] : List FE).length : Nat) : Int) = 0 := rfl
    repeat' (first | ((conv => whnf); first | (((with_reducible show Gd _ _ _); first | with_reducible refine Gd.t ?_ | with_reducible refine Gd.f ?_ | with_reducible refine Gd.dec (fun _ => ?_) (fun _ => ?_) | with_reducible refine Gd.beq (fun _ => ?_) (fun _ => ?_) | with_reducible refine Gd.bne (fun _ => ?_) (fun _ => ?_) | with_reducible refine Gd.not ?_ | refine Gd.t ?_ | refine Gd.f ?_ | with_reducible refine Gd.var (fun _ => ?_) (fun _ => ?_)) <;> first | (exfalso; omega) | skip) | with_reducible refine Sq.mk ?_ | ((with_reducible show Ld1 _ _ _); first | refine Ld1.h H ?_ | refine Ld1.rF ?_ | refine Ld1.r ?_) | ((with_reducible show Ld _ _ _ _); first | refine Ld.h H ?_ | refine Ld.r ?_) | ((with_reducible show Ix _ _ _ _ _); (first | refine Ix.h ?_ | refine Ix.ha ?_)) | (refine Al.hp H ?_; clear H; intro _ _ H _) | (refine St.h H ?_; clear H; intro _ H)) | (((conv => whnf); refine Cl.mk (head_c _ (RdS.from H.e hG)) ?_); rintro _ _ ⟨rfl, hx⟩; replace H := H.ext hx; clear hx))
    all_goals first | (exfalso; exact absurd (by assumption) hz) | skip
    all_goals exact ⟨rfl, H.e⟩
end Go.Proofs.YtbbadmlekagloaaDoor
