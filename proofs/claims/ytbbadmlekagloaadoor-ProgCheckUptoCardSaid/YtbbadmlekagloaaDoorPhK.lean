/- layer prog: the law's checkPlaced, ProgCheck; own work. -/
import Derived.Test.YtbbadmlekagloaaDoorPhJ
namespace Go.Proofs.YtbbadmlekagloaaDoor
open Go Go.Sh
set_option linter.unusedVariables false
set_option linter.unusedSimpArgs false
attribute [local irreducible] Blk Ext RdS
theorem Hp.dis {S : Nat → Prop} {w0 w : World} {Γ : List Ck} {c d : Ck} (H : Hp S w0 w Γ) (i j : Nat) (hi : Γ[i]? = some c) (hj : Γ[j]? = some d) (hlt : i < j) (ho : c.own = true ∨ d.own = true) : ∀ k, ¬ (c.fp k ∧ d.fp k) := by
  obtain ⟨h1, h2⟩ := List.getElem?_eq_some_iff.1 hi
  obtain ⟨h3, h4⟩ := List.getElem?_eq_some_iff.1 hj
  have := List.pairwise_iff_getElem.1 H.sep i j h1 h3 hlt
  rw [h2, h4] at this
  exact this ho
theorem turnZip (fs : List Fn) (qs : List Nat) : (zipE (fs.map turnedF) qs).flatMap FE.enc = (zipE fs qs).flatMap FE.enc := by
  induction fs generalizing qs with
  | nil => rfl
  | cons f r ih =>
    cases qs with
    | nil => rfl
    | cons q qr =>
      have := ih qr
      simp only [zipE, List.map_cons, List.zipWith_cons_cons, List.flatMap_cons] at this ⊢
      rw [this]
      congr 1
      simp [FE.enc, lai, turned_len]
      exact ⟨rfl, rfl, rfl⟩
theorem bool_self {x : Int × Nat × Nat} : ((x.1 == x.1) && (((x.2.1 : Int) == (x.2.1 : Int)) && ((x.2.2 : Int) == (x.2.2 : Int)))) = true := by simp
theorem checkPlaced_c (A : Option Addr) (l : List FE) (c : Nat) (w : World) (hA : RdP w A l) (hG : RdG w) (hl : l.length ≤ 1048576) (hc : ∀ x ∈ l, x.1.code.length ≤ 1048576) :
    Cl Tryd.prog 32 #[pv A l.length c] w (fun v w' => v = .bool true ∧ Ext w w') (fun _ _ => False) := by
  have hfl := fns_len l
  refine calls_ex (args := [pv A l.length c]) T.ok Tryd.func32 rfl rfl rfl rfl ?_
  have H := Hp.begin nw w
  refine Sq.mk ?_
  ((conv => whnf); refine Al.hp H ?_; clear H; intro pp _ H _)
  repeat' ((conv => whnf); first | (((with_reducible show Gd _ _ _); first | with_reducible refine Gd.t ?_ | with_reducible refine Gd.f ?_ | with_reducible refine Gd.dec (fun _ => ?_) (fun _ => ?_) | with_reducible refine Gd.beq (fun _ => ?_) (fun _ => ?_) | with_reducible refine Gd.bne (fun _ => ?_) (fun _ => ?_) | with_reducible refine Gd.not ?_ | refine Gd.t ?_ | refine Gd.f ?_ | with_reducible refine Gd.var (fun _ => ?_) (fun _ => ?_)) <;> first | (exfalso; omega) | skip) | with_reducible refine Sq.mk ?_ | ((with_reducible show Ld1 _ _ _); first | refine Ld1.h H ?_ | refine Ld1.rF ?_ | refine Ld1.r ?_) | ((with_reducible show Ld _ _ _ _); first | refine Ld.h H ?_ | refine Ld.r ?_) | ((with_reducible show Ix _ _ _ _ _); (first | refine Ix.h ?_ | refine Ix.ha ?_)) | (refine Al.hp H ?_; clear H; intro _ _ H _) | (refine St.h H ?_; clear H; intro _ H))
  ((conv => whnf); refine Cl.mk (turnedAll_c A l c _ (hA.ext H.e) hl hc) ?_)
  rintro _ w2 ⟨C, d, l', rfl, hts, H'⟩
  replace H := H.fr0L H' (by simp [Ck.new])
  simp only [List.cons_append, List.nil_append] at H
  clear H'
  have hl' : l'.length = l.length := by have := congrArg List.length hts; simp [fns_len] at this; exact this
  have hc' : ∀ x ∈ l', x.1.code.length ≤ 1048576 := fun x hx => by
    have h1 : x.1 ∈ (fns l).map turnedF := by rw [← hts]; exact List.mem_map.2 ⟨x, hx, rfl⟩
    obtain ⟨f, hf, e⟩ := List.mem_map.1 h1
    obtain ⟨y, hy, e2⟩ := List.mem_map.1 hf
    rw [← e, turned_len, ← e2]
    exact hc y hy
  ((conv => whnf); refine Al.hp H ?_; clear H; intro pt _ H _)
  repeat' ((conv => whnf); first | (((with_reducible show Gd _ _ _); first | with_reducible refine Gd.t ?_ | with_reducible refine Gd.f ?_ | with_reducible refine Gd.dec (fun _ => ?_) (fun _ => ?_) | with_reducible refine Gd.beq (fun _ => ?_) (fun _ => ?_) | with_reducible refine Gd.bne (fun _ => ?_) (fun _ => ?_) | with_reducible refine Gd.not ?_ | refine Gd.t ?_ | refine Gd.f ?_ | with_reducible refine Gd.var (fun _ => ?_) (fun _ => ?_)) <;> first | (exfalso; omega) | skip) | with_reducible refine Sq.mk ?_ | ((with_reducible show Ld1 _ _ _); first | refine Ld1.h H ?_ | refine Ld1.rF ?_ | refine Ld1.r ?_) | ((with_reducible show Ld _ _ _ _); first | refine Ld.h H ?_ | refine Ld.r ?_) | ((with_reducible show Ix _ _ _ _ _); (first | refine Ix.h ?_ | refine Ix.ha ?_)) | (refine Al.hp H ?_; clear H; intro _ _ H _) | (refine St.h H ?_; clear H; intro _ H))
  ((conv => whnf); refine Cl.mk (wrap_c C l' d _ ⟨H.rdq 2 rfl, H.atC 1 rfl⟩ (by omega) hc') ?_)
  rintro _ w3 ⟨pf, qs, C2, cc, rfl, hqs, H'⟩
  replace H := H.fr0L H' (by simp [Ck.new])
  simp only [List.cons_append, List.nil_append] at H
  clear H'
  rw [fns_len] at hqs
  ((conv => whnf); refine Al.hp H ?_; clear H; intro pg _ H _)
  repeat' ((conv => whnf); first | (((with_reducible show Gd _ _ _); first | with_reducible refine Gd.t ?_ | with_reducible refine Gd.f ?_ | with_reducible refine Gd.dec (fun _ => ?_) (fun _ => ?_) | with_reducible refine Gd.beq (fun _ => ?_) (fun _ => ?_) | with_reducible refine Gd.bne (fun _ => ?_) (fun _ => ?_) | with_reducible refine Gd.not ?_ | refine Gd.t ?_ | refine Gd.f ?_ | with_reducible refine Gd.var (fun _ => ?_) (fun _ => ?_)) <;> first | (exfalso; omega) | skip) | with_reducible refine Sq.mk ?_ | ((with_reducible show Ld1 _ _ _); first | refine Ld1.h H ?_ | refine Ld1.rF ?_ | refine Ld1.r ?_) | ((with_reducible show Ld _ _ _ _); first | refine Ld.h H ?_ | refine Ld.r ?_) | ((with_reducible show Ix _ _ _ _ _); (first | refine Ix.h ?_ | refine Ix.ha ?_)) | (refine Al.hp H ?_; clear H; intro _ _ H _) | (refine St.h H ?_; clear H; intro _ H))
  have hql : qs.length = (fns l').length := by rw [fns_len]; exact hqs
  have hzl : (zipE (fns l') qs).length = (fns l').length := by rw [zipE, zip_len lai (by omega)]; omega
  have hck1 := Check_c (some ⟨pf, 0, none⟩) (zipE (fns l') qs) ((fns l').length + 1) _ (RdS.from H.e hG) (rdp_zip hql (H.rdb (enc := FE.enc) 3 rfl (fun _ _ => rfl)) (H.atC 1 rfl))
  rw [hzl, fns_zip hql] at hck1
  (((conv => whnf); refine Cl.mk (hck1) ?_); rintro _ _ ⟨rfl, hx⟩; replace H := H.ext hx; clear hx)
  repeat' ((conv => whnf); first | (((with_reducible show Gd _ _ _); first | with_reducible refine Gd.t ?_ | with_reducible refine Gd.f ?_ | with_reducible refine Gd.dec (fun _ => ?_) (fun _ => ?_) | with_reducible refine Gd.beq (fun _ => ?_) (fun _ => ?_) | with_reducible refine Gd.bne (fun _ => ?_) (fun _ => ?_) | with_reducible refine Gd.not ?_ | refine Gd.t ?_ | refine Gd.f ?_ | with_reducible refine Gd.var (fun _ => ?_) (fun _ => ?_)) <;> first | (exfalso; omega) | skip) | with_reducible refine Sq.mk ?_ | ((with_reducible show Ld1 _ _ _); first | refine Ld1.h H ?_ | refine Ld1.rF ?_ | refine Ld1.r ?_) | ((with_reducible show Ld _ _ _ _); first | refine Ld.h H ?_ | refine Ld.r ?_) | ((with_reducible show Ix _ _ _ _ _); (first | refine Ix.h ?_ | refine Ix.ha ?_)) | (refine St.h H ?_; clear H; intro _ H))
  ((conv => whnf); refine Al.hp H ?_; clear H; intro p1 _ H _)
  repeat' ((conv => whnf); first | (((with_reducible show Gd _ _ _); first | with_reducible refine Gd.t ?_ | with_reducible refine Gd.f ?_ | with_reducible refine Gd.dec (fun _ => ?_) (fun _ => ?_) | with_reducible refine Gd.beq (fun _ => ?_) (fun _ => ?_) | with_reducible refine Gd.bne (fun _ => ?_) (fun _ => ?_) | with_reducible refine Gd.not ?_ | refine Gd.t ?_ | refine Gd.f ?_ | with_reducible refine Gd.var (fun _ => ?_) (fun _ => ?_)) <;> first | (exfalso; omega) | skip) | with_reducible refine Sq.mk ?_ | ((with_reducible show Ld1 _ _ _); first | refine Ld1.h H ?_ | refine Ld1.rF ?_ | refine Ld1.r ?_) | ((with_reducible show Ld _ _ _ _); first | refine Ld.h H ?_ | refine Ld.r ?_) | ((with_reducible show Ix _ _ _ _ _); (first | refine Ix.h ?_ | refine Ix.ha ?_)) | (refine Al.hp H ?_; clear H; intro _ _ H _) | (refine St.h H ?_; clear H; intro _ H))
  have hfe : (fns l').length = l.length := by rw [fns_len]; exact hl'
  have hpq : pf ∉ qs := fun h => (Hp.dis H 2 4 rfl rfl (by decide) (.inl rfl)) pf ⟨h, rfl⟩
  have hqlo : ∀ q ∈ qs, w.heap.size ≤ q := fun q hq => by
    rcases H.dom (cdk qs ((fns l').map spC)) (List.mem_of_getElem? (i := 2) rfl) (.inl rfl) q hq with h | h
    · exact h.elim
    · exact h
  have htc : ∀ (i : Nat) (f t : Fn), (fns l)[i]? = some f → (fns l')[i]? = some t → t.code.length = f.code.length := fun i f t hf ht => by
    rw [hts, List.getElem?_map, hf] at ht
    simp at ht; subst ht
    exact turned_len f
  have hzr : RdS FE.enc 4 _ (some ⟨pf, 0, none⟩) (zipE (fns l') qs) := (rdp_zip hql (H.rdb (enc := FE.enc) 4 rfl (fun _ _ => rfl)) (H.atC 2 rfl)).top
  have hly := lay_c (fns l) (fns l') pf (l.length + 1) qs A l c w _ H.e hA rfl (by omega) htc hl hc (by omega) hqlo (H.atC 2 rfl) hzr hpq
  clear hzr
  rw [hfe]
  ((conv => whnf); refine Cl.mk (hly) ?_)
  rintro _ w6 H'
  replace H := H.upd (c := cdk qs ((fns l').map spC)) H' rfl (.inl rfl)
  clear H' hly
  have hz : (zipE (fns l') qs ++ [markF]).flatMap FE.enc = (zipE (fns l) qs ++ [markF]).flatMap FE.enc := by rw [List.flatMap_append, List.flatMap_append, hts, turnZip]
  rw [hz] at H
  have hzl2 : (zipE (fns l) qs).length = l.length := by rw [zipE, zip_len lai (by omega)]; omega
  repeat' ((conv => whnf); first | (((with_reducible show Gd _ _ _); first | with_reducible refine Gd.t ?_ | with_reducible refine Gd.f ?_ | with_reducible refine Gd.dec (fun _ => ?_) (fun _ => ?_) | with_reducible refine Gd.beq (fun _ => ?_) (fun _ => ?_) | with_reducible refine Gd.bne (fun _ => ?_) (fun _ => ?_) | with_reducible refine Gd.not ?_ | refine Gd.t ?_ | refine Gd.f ?_ | with_reducible refine Gd.var (fun _ => ?_) (fun _ => ?_)) <;> first | (exfalso; omega) | skip) | with_reducible refine Sq.mk ?_ | ((with_reducible show Ld1 _ _ _); first | refine Ld1.h H ?_ | refine Ld1.rF ?_ | refine Ld1.r ?_) | ((with_reducible show Ld _ _ _ _); first | refine Ld.h H ?_ | refine Ld.r ?_) | ((with_reducible show Ix _ _ _ _ _); (first | refine Ix.h ?_ | refine Ix.ha ?_)) | (refine Al.hp H ?_; clear H; intro _ _ H _) | (refine St.h H ?_; clear H; intro _ H))
  have hck2 := Check_c (some ⟨pf, 0, none⟩) (zipE (fns l) qs) (l.length + 1) _ (RdS.from H.e hG) (rdp_zip (by omega) (H.rdb (enc := FE.enc) 4 rfl (fun _ _ => rfl)) (H.atC 2 rfl))
  rw [hzl2, fns_zip (by omega)] at hck2
  rw [hfe] at H ⊢
  (((conv => whnf); refine Cl.mk (hck2) ?_); rintro _ _ ⟨rfl, hx⟩; replace H := H.ext hx; clear hx)
  clear hck2
  ((conv => whnf); refine Al.hp H ?_; clear H; intro p2 _ H _)
  repeat' ((conv => whnf); first | (((with_reducible show Gd _ _ _); first | with_reducible refine Gd.t ?_ | with_reducible refine Gd.f ?_ | with_reducible refine Gd.dec (fun _ => ?_) (fun _ => ?_) | with_reducible refine Gd.beq (fun _ => ?_) (fun _ => ?_) | with_reducible refine Gd.bne (fun _ => ?_) (fun _ => ?_) | with_reducible refine Gd.not ?_ | refine Gd.t ?_ | refine Gd.f ?_ | with_reducible refine Gd.var (fun _ => ?_) (fun _ => ?_)) <;> first | (exfalso; omega) | skip) | with_reducible refine Sq.mk ?_ | ((with_reducible show Ld1 _ _ _); first | refine Ld1.h H ?_ | refine Ld1.rF ?_ | refine Ld1.r ?_) | ((with_reducible show Ld _ _ _ _); first | refine Ld.h H ?_ | refine Ld.r ?_) | ((with_reducible show Ix _ _ _ _ _); (first | refine Ix.h ?_ | refine Ix.ha ?_)) | (refine Al.hp H ?_; clear H; intro _ _ H _) | (refine St.h H ?_; clear H; intro _ H))
  have hP1 := hA.ext H.e
  have hP2 : RdP _ C l' := ⟨H.rdq 8 rfl, H.atC 7 rfl⟩
  ((conv => whnf); refine Dr.quiet T.ok mixed (by kernel_rfl) (fun W hW => ?_))
  repeat' (first | ((conv => whnf); first | (((with_reducible show Gd _ _ _); first | with_reducible refine Gd.t ?_ | with_reducible refine Gd.f ?_ | with_reducible refine Gd.dec (fun _ => ?_) (fun _ => ?_) | with_reducible refine Gd.beq (fun _ => ?_) (fun _ => ?_) | with_reducible refine Gd.bne (fun _ => ?_) (fun _ => ?_) | with_reducible refine Gd.not ?_ | refine Gd.t ?_ | refine Gd.f ?_ | with_reducible refine Gd.var (fun _ => ?_) (fun _ => ?_)) <;> first | (exfalso; omega) | skip) | ((with_reducible show QLd1 _ _ _); first | refine QLd1.h hW H ?_ | refine QLd1.rF hW ?_ | refine QLd1.r hW ?_) | ((with_reducible show QLd _ _ _ _); first | refine QLd.h hW H ?_ | refine QLd.r hW ?_) | ((with_reducible show Ix _ _ _ _ _); (first | refine Ix.h ?_ | refine Ix.ha ?_))) | ((conv => whnf); refine QCl.mk hW (fun _ ee => Cl.mk (rCheck_c C l' d _ (hP2.ext ee)) (fun _ _ h => h)) ?_) | ((conv => whnf); refine QCl.mk hW (fun _ ee => Cl.mk (rCheck_c A l c _ (hP1.ext ee)) (fun _ _ h => h)) ?_))
  all_goals first | (exfalso; rename_i hx; simp at hx; done) | skip
  (intro _ eT; replace H := H.ext eT; clear hW eT)
  clear hP1 hP2
  repeat' ((conv => whnf); first | (((with_reducible show Gd _ _ _); first | with_reducible refine Gd.t ?_ | with_reducible refine Gd.f ?_ | with_reducible refine Gd.dec (fun _ => ?_) (fun _ => ?_) | with_reducible refine Gd.beq (fun _ => ?_) (fun _ => ?_) | with_reducible refine Gd.bne (fun _ => ?_) (fun _ => ?_) | with_reducible refine Gd.not ?_ | refine Gd.t ?_ | refine Gd.f ?_ | with_reducible refine Gd.var (fun _ => ?_) (fun _ => ?_)) <;> first | (exfalso; omega) | skip) | with_reducible refine Sq.mk ?_ | ((with_reducible show Ld1 _ _ _); first | refine Ld1.h H ?_ | refine Ld1.rF ?_ | refine Ld1.r ?_) | ((with_reducible show Ld _ _ _ _); first | refine Ld.h H ?_ | refine Ld.r ?_) | ((with_reducible show Ix _ _ _ _ _); (first | refine Ix.h ?_ | refine Ix.ha ?_)) | (refine Al.hp H ?_; clear H; intro _ _ H _) | (refine St.h H ?_; clear H; intro _ H))
  exact ⟨b_eq (by simp), H.e⟩
theorem progCheck_c (A : Option Addr) (l : List FE) (c : Nat) (w : World) (hA : RdP w A l) (hG : RdG w) (hl : l.length ≤ 1048576) (hc : ∀ x ∈ l, x.1.code.length ≤ 1048576) :
    Cl Tryd.prog 5 #[pv A l.length c] w (fun v w' => v = .bool true ∧ Ext w w') (fun _ _ => False) := by
  have hfl := fns_len l
  refine calls_ex (args := [pv A l.length c]) T.ok Tryd.func5 rfl rfl rfl rfl ?_
  have H := Hp.begin nw w
  refine Sq.mk ?_
  ((conv => whnf); refine Al.hp H ?_; clear H; intro pp _ H _)
  repeat' ((conv => whnf); first | (((with_reducible show Gd _ _ _); first | with_reducible refine Gd.t ?_ | with_reducible refine Gd.f ?_ | with_reducible refine Gd.dec (fun _ => ?_) (fun _ => ?_) | with_reducible refine Gd.beq (fun _ => ?_) (fun _ => ?_) | with_reducible refine Gd.bne (fun _ => ?_) (fun _ => ?_) | with_reducible refine Gd.not ?_ | refine Gd.t ?_ | refine Gd.f ?_ | with_reducible refine Gd.var (fun _ => ?_) (fun _ => ?_)) <;> first | (exfalso; omega) | skip) | with_reducible refine Sq.mk ?_ | ((with_reducible show Ld1 _ _ _); first | refine Ld1.h H ?_ | refine Ld1.rF ?_ | refine Ld1.r ?_) | ((with_reducible show Ld _ _ _ _); first | refine Ld.h H ?_ | refine Ld.r ?_) | ((with_reducible show Ix _ _ _ _ _); (first | refine Ix.h ?_ | refine Ix.ha ?_)) | (refine Al.hp H ?_; clear H; intro _ _ H _) | (refine St.h H ?_; clear H; intro _ H))
  (((conv => whnf); refine Cl.mk (rCheck_c A l c _ (hA.ext H.e)) ?_); rintro _ _ ⟨rfl, hx⟩; replace H := H.ext hx; clear hx)
  ((conv => whnf); refine Al.hp H ?_; clear H; intro p1 _ H _)
  repeat' ((conv => whnf); first | (((with_reducible show Gd _ _ _); first | with_reducible refine Gd.t ?_ | with_reducible refine Gd.f ?_ | with_reducible refine Gd.dec (fun _ => ?_) (fun _ => ?_) | with_reducible refine Gd.beq (fun _ => ?_) (fun _ => ?_) | with_reducible refine Gd.bne (fun _ => ?_) (fun _ => ?_) | with_reducible refine Gd.not ?_ | refine Gd.t ?_ | refine Gd.f ?_ | with_reducible refine Gd.var (fun _ => ?_) (fun _ => ?_)) <;> first | (exfalso; omega) | skip) | with_reducible refine Sq.mk ?_ | ((with_reducible show Ld1 _ _ _); first | refine Ld1.h H ?_ | refine Ld1.rF ?_ | refine Ld1.r ?_) | ((with_reducible show Ld _ _ _ _); first | refine Ld.h H ?_ | refine Ld.r ?_) | ((with_reducible show Ix _ _ _ _ _); (first | refine Ix.h ?_ | refine Ix.ha ?_)) | (refine Al.hp H ?_; clear H; intro _ _ H _) | (refine St.h H ?_; clear H; intro _ H))
  ((conv => whnf); refine Cl.mk (wrap_c A l c _ (hA.ext H.e) hl hc) ?_)
  rintro _ w3 ⟨pf, qs, C2, cc, rfl, hqs, H'⟩
  replace H := H.fr0L H' (by simp [Ck.new])
  simp only [List.cons_append, List.nil_append] at H
  clear H'
  rw [hfl]
  ((conv => whnf); refine Al.hp H ?_; clear H; intro pg _ H _)
  have hzl : (zipE (fns l) qs).length = l.length := by rw [zipE, zip_len lai (by omega)]; omega
  repeat' ((conv => whnf); first | (((with_reducible show Gd _ _ _); first | with_reducible refine Gd.t ?_ | with_reducible refine Gd.f ?_ | with_reducible refine Gd.dec (fun _ => ?_) (fun _ => ?_) | with_reducible refine Gd.beq (fun _ => ?_) (fun _ => ?_) | with_reducible refine Gd.bne (fun _ => ?_) (fun _ => ?_) | with_reducible refine Gd.not ?_ | refine Gd.t ?_ | refine Gd.f ?_ | with_reducible refine Gd.var (fun _ => ?_) (fun _ => ?_)) <;> first | (exfalso; omega) | skip) | with_reducible refine Sq.mk ?_ | ((with_reducible show Ld1 _ _ _); first | refine Ld1.h H ?_ | refine Ld1.rF ?_ | refine Ld1.r ?_) | ((with_reducible show Ld _ _ _ _); first | refine Ld.h H ?_ | refine Ld.r ?_) | ((with_reducible show Ix _ _ _ _ _); (first | refine Ix.h ?_ | refine Ix.ha ?_)) | (refine Al.hp H ?_; clear H; intro _ _ H _) | (refine St.h H ?_; clear H; intro _ H))
  have hck1 := Check_c (some ⟨pf, 0, none⟩) (zipE (fns l) qs) (l.length + 1) _ (RdS.from H.e hG) (rdp_zip hqs (H.rdb (enc := FE.enc) 3 rfl (fun _ _ => rfl)) (H.atC 1 rfl))
  rw [hzl, fns_zip hqs] at hck1
  (((conv => whnf); refine Cl.mk (hck1) ?_); rintro _ _ ⟨rfl, hx⟩; replace H := H.ext hx; clear hx)
  clear hck1
  ((conv => whnf); refine Al.hp H ?_; clear H; intro p2 _ H _)
  repeat' ((conv => whnf); first | (((with_reducible show Gd _ _ _); first | with_reducible refine Gd.t ?_ | with_reducible refine Gd.f ?_ | with_reducible refine Gd.dec (fun _ => ?_) (fun _ => ?_) | with_reducible refine Gd.beq (fun _ => ?_) (fun _ => ?_) | with_reducible refine Gd.bne (fun _ => ?_) (fun _ => ?_) | with_reducible refine Gd.not ?_ | refine Gd.t ?_ | refine Gd.f ?_ | with_reducible refine Gd.var (fun _ => ?_) (fun _ => ?_)) <;> first | (exfalso; omega) | skip) | with_reducible refine Sq.mk ?_ | ((with_reducible show Ld1 _ _ _); first | refine Ld1.h H ?_ | refine Ld1.rF ?_ | refine Ld1.r ?_) | ((with_reducible show Ld _ _ _ _); first | refine Ld.h H ?_ | refine Ld.r ?_) | ((with_reducible show Ix _ _ _ _ _); (first | refine Ix.h ?_ | refine Ix.ha ?_)) | (refine Al.hp H ?_; clear H; intro _ _ H _) | (refine St.h H ?_; clear H; intro _ H))
  have hck1 := Check_c (some ⟨pf, 0, none⟩) (zipE (fns l) qs) (l.length + 1) _ (RdS.from H.e hG) (rdp_zip hqs (H.rdb (enc := FE.enc) 4 rfl (fun _ _ => rfl)) (H.atC 2 rfl))
  rw [hzl, fns_zip hqs] at hck1
  (((conv => whnf); refine Cl.mk (hck1) ?_); rintro _ _ ⟨rfl, hx⟩; replace H := H.ext hx; clear hx)
  clear hck1
  ((conv => whnf); refine Al.hp H ?_; clear H; intro p3 _ H _)
  repeat' ((conv => whnf); first | (((with_reducible show Gd _ _ _); first | with_reducible refine Gd.t ?_ | with_reducible refine Gd.f ?_ | with_reducible refine Gd.dec (fun _ => ?_) (fun _ => ?_) | with_reducible refine Gd.beq (fun _ => ?_) (fun _ => ?_) | with_reducible refine Gd.bne (fun _ => ?_) (fun _ => ?_) | with_reducible refine Gd.not ?_ | refine Gd.t ?_ | refine Gd.f ?_ | with_reducible refine Gd.var (fun _ => ?_) (fun _ => ?_)) <;> first | (exfalso; omega) | skip) | with_reducible refine Sq.mk ?_ | ((with_reducible show Ld1 _ _ _); first | refine Ld1.h H ?_ | refine Ld1.rF ?_ | refine Ld1.r ?_) | ((with_reducible show Ld _ _ _ _); first | refine Ld.h H ?_ | refine Ld.r ?_) | ((with_reducible show Ix _ _ _ _ _); (first | refine Ix.h ?_ | refine Ix.ha ?_)) | (refine Al.hp H ?_; clear H; intro _ _ H _) | (refine St.h H ?_; clear H; intro _ H))
  all_goals first | (exfalso; rename_i hx; simp at hx; done) | skip
  have hut := untouched_c (fns l) pf qs C2 cc A l c _ (hA.ext H.e) rfl hl hc hqs (H.atC 3 rfl) (H.rdq 4 rfl) (H.rdb (enc := FE.enc) 5 rfl (fun _ _ => rfl))
  repeat' (first | ((conv => whnf); first | (((with_reducible show Gd _ _ _); first | with_reducible refine Gd.t ?_ | with_reducible refine Gd.f ?_ | with_reducible refine Gd.dec (fun _ => ?_) (fun _ => ?_) | with_reducible refine Gd.beq (fun _ => ?_) (fun _ => ?_) | with_reducible refine Gd.bne (fun _ => ?_) (fun _ => ?_) | with_reducible refine Gd.not ?_ | refine Gd.t ?_ | refine Gd.f ?_ | with_reducible refine Gd.var (fun _ => ?_) (fun _ => ?_)) <;> first | (exfalso; omega) | skip) | with_reducible refine Sq.mk ?_ | ((with_reducible show Ld1 _ _ _); first | refine Ld1.h H ?_ | refine Ld1.rF ?_ | refine Ld1.r ?_) | ((with_reducible show Ld _ _ _ _); first | refine Ld.h H ?_ | refine Ld.r ?_) | ((with_reducible show Ix _ _ _ _ _); (first | refine Ix.h ?_ | refine Ix.ha ?_)) | (refine Al.hp H ?_; clear H; intro _ _ H _) | (refine St.h H ?_; clear H; intro _ H)) | (((conv => whnf); refine Cl.mk (hut) ?_); rintro _ _ ⟨rfl, hx⟩; replace H := H.ext hx; clear hx) | (((conv => whnf); refine Cl.mk (checkPlaced_c A l c _ (hA.ext H.e) (RdS.from H.e hG) hl hc) ?_); rintro _ _ ⟨rfl, hx⟩; replace H := H.ext hx; clear hx))
  exact ⟨rfl, H.e⟩
end Go.Proofs.YtbbadmlekagloaaDoor
