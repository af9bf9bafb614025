/- layer prog: the law's wrap; own work. -/
import Derived.Test.YtbbadmlekagloaaDoorPhF
namespace Go.Proofs.YtbbadmlekagloaaDoor
open Go Go.Sh
set_option linter.unusedVariables false
set_option linter.unusedSimpArgs false
attribute [local irreducible] Blk Ext RdS
/-- blocks of code, one apart from the other -/
def CodeBlks (qs : List Nat) (cs : List (List Ins)) (w : World) : Prop := qs.length = cs.length ∧ qs.Nodup ∧ ∀ (i q : Nat) (c : List Ins), qs[i]? = some q → cs[i]? = some c → Blk w q 35 (c.flatMap Ins.enc)
abbrev cdk (qs : List Nat) (cs : List (List Ins)) : Ck := ⟨fun k => k ∈ qs, CodeBlks qs cs, true, false⟩
theorem cdk_ok {qs : List Nat} {cs : List (List Ins)} {w : World} (h : CodeBlks qs cs w) : (cdk qs cs).Ok w := by
  obtain ⟨h1, h2, h3⟩ := h
  refine ⟨⟨h1, h2, h3⟩, fun k hk => ?_, fun w' _ hb => ⟨h1, h2, fun i q c hq hc => ?_⟩⟩
  · obtain ⟨i, hi⟩ := List.getElem?_of_mem hk
    obtain ⟨c, hc⟩ : ∃ c, cs[i]? = some c := ⟨_, List.getElem?_eq_getElem (by rw [← h1]; exact (List.getElem?_eq_some_iff.1 hi).1)⟩
    exact (h3 i k c hi hc).lt
  · have := h3 i q c hq hc
    unfold Blk at this ⊢; rw [hb q (List.mem_of_getElem? hq)]; exact this
theorem cdk_nil (w : World) : CodeBlks [] [] w := ⟨rfl, List.nodup_nil, fun i q c h => by simp at h⟩
theorem Hp.cdSnoc {S : Nat → Prop} {w0 w : World} {Γ : List Ck} {q : Nat} {c : List Ins} {qs : List Nat} {cs : List (List Ins)} (H : Hp S w0 w (bk q 35 (c.flatMap Ins.enc) :: cdk qs cs :: Γ)) : Hp S w0 w (cdk (qs ++ [q]) (cs ++ [c]) :: Γ) := by
  refine H.join2 rfl rfl (.inl rfl) (fun k hk => ?_) fun hd h1 h2 => cdk_ok ?_
  · rcases List.mem_append.1 hk with h | h
    · exact .inr h
    · exact .inl (by simpa using h)
  · obtain ⟨g1, g2, g3⟩ := h2.holds
    have hq : q ∉ qs := fun h => hd q ⟨rfl, h⟩
    refine ⟨by simp [g1], ?_, fun i q' c' hi hc => ?_⟩
    · rw [List.nodup_append]
      exact ⟨g2, by simp, fun a ha b hb => by simp at hb; subst hb; exact fun e => hq (e ▸ ha)⟩
    · rcases Nat.lt_or_ge i qs.length with hlt | hge
      · rw [List.getElem?_append_left hlt] at hi
        rw [List.getElem?_append_left (by omega)] at hc
        exact g3 i q' c' hi hc
      · have : i = qs.length := by have := (List.getElem?_eq_some_iff.1 hi).1; simp at this; omega
        subst this
        rw [List.getElem?_append_right (Nat.le_refl _)] at hi
        rw [List.getElem?_append_right (by omega), g1] at hc
        simp at hi hc
        subst hi hc
        exact h1.holds
/-- an element of one of them is written -/
theorem St.cd {S : Nat → Prop} {w0 w : World} {Γ Γ' : List Ck} {k : World → Prop} {qs : List Nat} {cs : List (List Ins)} {i j q : Nat} {c : List Ins} {x : Ins} (H : Hp S w0 w Γ) (hq : qs[i]? = some q) (hc : cs[i]? = some c) (hj : j < c.length) (hk : ∀ w', Hp S w0 w' Γ' → k w')
    (u : Upd1 Γ (cdk qs cs) (cdk qs (cs.set i (c.set j x))) Γ' := by (repeat (first | exact Upd1.head | apply Upd1.tail))) : St w ((gA (some ⟨q, 0, none⟩)).add (j * 5)) (Ins.enc x) k := by
  obtain ⟨L, R, h2, rfl⟩ := u.sp
  obtain ⟨g1, g2, g3⟩ : CodeBlks qs cs w := H.mem (c := cdk qs cs) (by rw [h2.eq]; simp)
  refine St.elb (g3 i q c hq hc) (fun _ _ => rfl) rfl hj rfl fun w' u hb => hk w' (H.putS h2 (Hp.one (((Tch.refl _ _).upd u (.inl (List.mem_of_getElem? hq)))) (cdk_ok ⟨by simpa using g1, g2, fun i' q' c' hi' hc' => ?_⟩) (fun k hk => .inl hk)) rfl (.inl rfl))
  by_cases e : i' = i
  · subst e
    have hlt := (List.getElem?_eq_some_iff.1 hc).1
    rw [List.getElem?_set_self hlt] at hc'
    rw [hq] at hi'
    simp at hi' hc'
    subst hi' hc'
    exact hb
  · rw [List.getElem?_set_ne (fun h => e h.symm)] at hc'
    have hne : q' ≠ q := fun h => by
      subst h
      have h1 := (List.getElem?_eq_some_iff.1 hi')
      have h2 := (List.getElem?_eq_some_iff.1 hq)
      have h3 := List.pairwise_iff_getElem.1 g2
      rcases Nat.lt_trichotomy i' i with hlt | heq | hgt
      · exact h3 i' i h1.1 h2.1 hlt (h1.2.trans h2.2.symm)
      · exact e heq
      · exact h3 i i' h2.1 h1.1 hgt (h2.2.trans h1.2.symm)
    exact (g3 i' q' c' hi' hc').upd u hne
def lai (f : Fn) (q : Nat) : FE := (f, some ⟨q, 0, none⟩, f.code.length + 2)
def zipE (fs : List Fn) (qs : List Nat) : List FE := List.zipWith lai fs qs
def cdV (f : Fn) (q : Nat) : Value := .slice (some ⟨q, 0, none⟩) (f.code.length + 2) (f.code.length + 2)
def zipV (fs : List Fn) (qs : List Nat) : List Value := List.zipWith cdV fs qs
def spC (f : Fn) : List Ins := f.code ++ [oddI 0, oddI 1]
def zF : FE := (⟨0, 0, 0, []⟩, none, 0)
def markF : FE := (⟨-5, 0, 0, []⟩, none, 0)
theorem zip_snoc {α : Type} (g : Fn → Nat → α) {f : Fn} {q : Nat} : ∀ {fs : List Fn} {qs : List Nat}, fs[qs.length]? = some f → List.zipWith g fs (qs ++ [q]) = List.zipWith g fs qs ++ [g f q]
  | [], qs, h => by simp at h
  | f0 :: r, [], h => by simp at h; subst h; simp
  | f0 :: r, q0 :: qs, h => by simp at h; simp [zip_snoc g h]
theorem zip_len {α : Type} (g : Fn → Nat → α) {fs : List Fn} {qs : List Nat} (h : qs.length ≤ fs.length) : (List.zipWith g fs qs).length = qs.length := by simp; omega
theorem set_end {α : Type} {l r : List α} {x z : α} {n : Nat} (h : n = l.length) : (l ++ z :: r).set n x = l ++ [x] ++ r := by
  subst h; simp
/-- a program laid anew -/
def Wrapped (fs : List Fn) (w : World) (v : Value) (w' : World) : Prop := ∃ pf qs C cc, v = .agg #[.slice (some ⟨pf, 0, none⟩) fs.length (fs.length + 1), .slice (some ⟨pf, 0, none⟩) (fs.length + 1) (fs.length + 1), .slice C fs.length cc] ∧ qs.length = fs.length ∧
  Hp nw w w' [cdk qs (fs.map spC), qu vals 1 22 C cc (zipV fs qs), bk pf 24 ((zipE fs qs ++ [markF]).flatMap FE.enc)]
theorem wrap_c (A : Option Addr) (l : List FE) (c : Nat) (w : World) (hA : RdP w A l) (hl : l.length ≤ 1048576) (hc : ∀ x ∈ l, x.1.code.length ≤ 1048576) :
    Cl Tryd.prog 29 #[pv A l.length c] w (Wrapped (fns l) w) (fun _ _ => False) := by
  have hfl := fns_len l
  have hw1 : IntKind.i64.wrap ((l.length : Int) + 1) = ((l.length + 1 : Nat) : Int) := w64 (by simp) (by omega) (by omega)
  refine calls_ex (args := [pv A l.length c]) T.ok Tryd.func29 rfl rfl rfl rfl ?_
  have H := Hp.begin nw w
  refine Sq.mk ?_
  ((conv => whnf); refine Al.hp H ?_; clear H; intro pp _ H _)
  ((conv => whnf); refine Al.hp H ?_; clear H; intro pr _ H _)
  repeat' ((conv => whnf); first | (((with_reducible show Gd _ _ _); first | with_reducible refine Gd.t ?_ | with_reducible refine Gd.f ?_ | with_reducible refine Gd.dec (fun _ => ?_) (fun _ => ?_) | with_reducible refine Gd.beq (fun _ => ?_) (fun _ => ?_) | with_reducible refine Gd.bne (fun _ => ?_) (fun _ => ?_) | with_reducible refine Gd.not ?_ | refine Gd.t ?_ | refine Gd.f ?_ | with_reducible refine Gd.var (fun _ => ?_) (fun _ => ?_)) <;> first | (exfalso; omega) | skip) | with_reducible refine Sq.mk ?_ | ((with_reducible show Ld1 _ _ _); first | refine Ld1.h H ?_ | refine Ld1.rF ?_ | refine Ld1.r ?_) | ((with_reducible show Ld _ _ _ _); first | refine Ld.h H ?_ | refine Ld.r ?_) | ((with_reducible show Ix _ _ _ _ _); (first | refine Ix.h ?_ | refine Ix.ha ?_)) | (refine St.h H ?_; clear H; intro _ H))
  ((conv => whnf); refine Al.hp H ?_; clear H; intro pg _ H _)
  repeat' ((conv => whnf); first | (((with_reducible show Gd _ _ _); first | with_reducible refine Gd.t ?_ | with_reducible refine Gd.f ?_ | with_reducible refine Gd.dec (fun _ => ?_) (fun _ => ?_) | with_reducible refine Gd.beq (fun _ => ?_) (fun _ => ?_) | with_reducible refine Gd.bne (fun _ => ?_) (fun _ => ?_) | with_reducible refine Gd.not ?_ | refine Gd.t ?_ | refine Gd.f ?_ | with_reducible refine Gd.var (fun _ => ?_) (fun _ => ?_)) <;> first | (exfalso; omega) | skip) | with_reducible refine Sq.mk ?_ | ((with_reducible show Ld1 _ _ _); first | refine Ld1.h H ?_ | refine Ld1.rF ?_ | refine Ld1.r ?_) | ((with_reducible show Ld _ _ _ _); first | refine Ld.h H ?_ | refine Ld.r ?_) | ((with_reducible show Ix _ _ _ _ _); (first | refine Ix.h ?_ | refine Ix.ha ?_)) | (refine Al.hp H ?_; clear H; intro _ _ H _) | (refine St.h H ?_; clear H; intro _ H))
  refine Sm.makeh (enc := FE.enc) (z := zF) (n := l.length + 1) H T.ok ?_ (by omega) (fun pf w2 H _ => ?_)
  · exact Nat.le_trans (Nat.mul_le_mul_left _ (show l.length + 1 ≤ 1048577 by omega)) (by decide)
  repeat' ((conv => whnf); first | (((with_reducible show Gd _ _ _); first | with_reducible refine Gd.t ?_ | with_reducible refine Gd.f ?_ | with_reducible refine Gd.dec (fun _ => ?_) (fun _ => ?_) | with_reducible refine Gd.beq (fun _ => ?_) (fun _ => ?_) | with_reducible refine Gd.bne (fun _ => ?_) (fun _ => ?_) | with_reducible refine Gd.not ?_ | refine Gd.t ?_ | refine Gd.f ?_ | with_reducible refine Gd.var (fun _ => ?_) (fun _ => ?_)) <;> first | (exfalso; omega) | skip) | with_reducible refine Sq.mk ?_ | ((with_reducible show Ld1 _ _ _); first | refine Ld1.h H ?_ | refine Ld1.rF ?_ | refine Ld1.r ?_) | ((with_reducible show Ld _ _ _ _); first | refine Ld.h H ?_ | refine Ld.r ?_) | ((with_reducible show Ix _ _ _ _ _); (first | refine Ix.h ?_ | refine Ix.ha ?_)) | (refine Al.hp H ?_; clear H; intro _ _ H _) | (refine St.h H ?_; clear H; intro _ H))
  replace H := H.fr0 (Hp.one (Tch.refl _ _) (cdk_ok (cdk_nil _)) (fun k hk => absurd hk (by simp))) (.inl rfl)
  replace H := H.nil vals 1 22
  refine Lp.g0 T.ok (σ := List Nat × Option Addr × Nat) (fun s => [(5, .int .i64 (s.1.length : Int)), (3, .int .i64 (l.length : Int)), (4, .pointer (some ⟨pg, 0, none⟩)), (1, .pointer (some ⟨pp, 0, none⟩)), (2, .pointer (some ⟨pr, 0, none⟩))])
    (fun s w' => s.1.length ≤ l.length ∧ Hp nw w w' [qu vals 1 22 s.2.1 s.2.2 (zipV (fns l) s.1), cdk s.1 (((fns l).take s.1.length).map spC), bk pf 24 ((zipE (fns l) s.1 ++ List.replicate (l.length + 1 - s.1.length) zF).flatMap FE.enc),
      bk pg 52 [.slice none 0 0, .slice (some ⟨pf, 0, none⟩) (l.length + 1) (l.length + 1), .slice s.2.1 s.1.length s.2.2], bk pr 52 T.t52.zero.cells.toList, bk pp 46 (pv A l.length c).cells.toList]) (fun s _ => l.length - s.1.length) ([], none, 0) rfl ⟨rfl, rfl, rfl, rfl, rfl, trivial⟩ ⟨Nat.zero_le _, by simp only [zipE, zipV, List.zipWith_nil_right]; exact H⟩ ?_
  clear H
  rintro ⟨qs, C, cc⟩ w5 ⟨hi, H⟩
  simp only at hi H ⊢
  have hzl : (zipE (fns l) qs).length = qs.length := zip_len lai (by omega)
  have hvl : (zipV (fns l) qs).length = qs.length := zip_len cdV (by omega)
  by_cases hlt : qs.length < l.length
  · obtain ⟨x, hx⟩ : ∃ x, l[qs.length]? = some x := ⟨_, List.getElem?_eq_getElem hlt⟩
    have hxm := List.mem_of_getElem? hx
    have hfx := fns_at hx
    have hA5 := RdS.from H.e hA.top
    have hcx := hc x hxm
    repeat' ((conv => whnf); first | (((with_reducible show Gd _ _ _); first | with_reducible refine Gd.t ?_ | with_reducible refine Gd.f ?_ | with_reducible refine Gd.dec (fun _ => ?_) (fun _ => ?_) | with_reducible refine Gd.beq (fun _ => ?_) (fun _ => ?_) | with_reducible refine Gd.bne (fun _ => ?_) (fun _ => ?_) | with_reducible refine Gd.not ?_ | refine Gd.t ?_ | refine Gd.f ?_ | with_reducible refine Gd.var (fun _ => ?_) (fun _ => ?_)) <;> first | (exfalso; omega) | skip) | with_reducible refine Sq.mk ?_ | ((with_reducible show Ld1 _ _ _); first | refine Ld1.h H ?_ | refine Ld1.rF ?_ | refine Ld1.r ?_) | ((with_reducible show Ld _ _ _ _); first | refine Ld.h H ?_ | refine Ld.r ?_) | ((with_reducible show Ix _ _ _ _ _); (first | refine Ix.h ?_ | refine Ix.ha ?_)) | (refine Al.hp H ?_; clear H; intro _ _ H _) | (refine St.h H ?_; clear H; intro _ H))
    clear hA5
    ((conv => whnf); refine Cl.mk (spare_c x.1 x.2.1 x.2.2 _ (RdS.from H.e (hA.code x hxm)) hcx) ?_)
    rintro _ w6 ⟨q, rfl, hqlo, hbq, e⟩
    replace H := H.fr0 (Hp.one (Tch.of_ext e) (bk_ok hbq) (fun k hk => .inr (by subst hk; exact hqlo))) (.inl rfl)
    clear hbq e hqlo
    repeat' ((conv => whnf); first | (((with_reducible show Gd _ _ _); first | with_reducible refine Gd.t ?_ | with_reducible refine Gd.f ?_ | with_reducible refine Gd.dec (fun _ => ?_) (fun _ => ?_) | with_reducible refine Gd.beq (fun _ => ?_) (fun _ => ?_) | with_reducible refine Gd.bne (fun _ => ?_) (fun _ => ?_) | with_reducible refine Gd.not ?_ | refine Gd.t ?_ | refine Gd.f ?_ | with_reducible refine Gd.var (fun _ => ?_) (fun _ => ?_)) <;> first | (exfalso; omega) | skip) | with_reducible refine Sq.mk ?_ | ((with_reducible show Ld1 _ _ _); first | refine Ld1.h H ?_ | refine Ld1.rF ?_ | refine Ld1.r ?_) | ((with_reducible show Ld _ _ _ _); first | refine Ld.h H ?_ | refine Ld.r ?_) | ((with_reducible show Ix _ _ _ _ _); (first | refine Ix.h ?_ | refine Ix.ha ?_)) | (refine St.h H ?_; clear H; intro _ H))
    ((conv => whnf); refine Al.hp H ?_; clear H; intro pt _ H _)
    repeat' ((conv => whnf); first | (((with_reducible show Gd _ _ _); first | with_reducible refine Gd.t ?_ | with_reducible refine Gd.f ?_ | with_reducible refine Gd.dec (fun _ => ?_) (fun _ => ?_) | with_reducible refine Gd.beq (fun _ => ?_) (fun _ => ?_) | with_reducible refine Gd.bne (fun _ => ?_) (fun _ => ?_) | with_reducible refine Gd.not ?_ | refine Gd.t ?_ | refine Gd.f ?_ | with_reducible refine Gd.var (fun _ => ?_) (fun _ => ?_)) <;> first | (exfalso; omega) | skip) | with_reducible refine Sq.mk ?_ | ((with_reducible show Ld1 _ _ _); first | refine Ld1.h H ?_ | refine Ld1.rF ?_ | refine Ld1.r ?_) | ((with_reducible show Ld _ _ _ _); first | refine Ld.h H ?_ | refine Ld.r ?_) | ((with_reducible show Ix _ _ _ _ _); (first | refine Ix.h ?_ | refine Ix.ha ?_)) | (refine Al.hp H ?_; clear H; intro _ _ H _) | (refine St.h H ?_; clear H; intro _ H))
    have hrp := H.rdb (enc := FE.enc) (sz := 4) 4 rfl (fun _ _ => rfl)
    have hrl : (zipE (fns l) qs ++ List.replicate (l.length + 1 - qs.length) zF).length = l.length + 1 := by simp [hzl]; omega
    repeat' ((conv => whnf); first | (((with_reducible show Gd _ _ _); first | with_reducible refine Gd.t ?_ | with_reducible refine Gd.f ?_ | with_reducible refine Gd.dec (fun _ => ?_) (fun _ => ?_) | with_reducible refine Gd.beq (fun _ => ?_) (fun _ => ?_) | with_reducible refine Gd.bne (fun _ => ?_) (fun _ => ?_) | with_reducible refine Gd.not ?_ | refine Gd.t ?_ | refine Gd.f ?_ | with_reducible refine Gd.var (fun _ => ?_) (fun _ => ?_)) <;> first | (exfalso; omega) | skip) | with_reducible refine Sq.mk ?_ | ((with_reducible show Ld1 _ _ _); first | refine Ld1.h H ?_ | refine Ld1.rF ?_ | refine Ld1.r ?_) | ((with_reducible show Ld _ _ _ _); first | refine Ld.h H ?_ | refine Ld.r ?_) | ((with_reducible show Ix _ _ _ _ _); (first | refine Ix.h ?_ | refine Ix.ha ?_)) | (refine Al.hp H ?_; clear H; intro _ _ H _) | (refine St.h H ?_; clear H; intro _ H))
    refine St.el (enc := FE.enc) (x := lai x.1 q) (j := qs.length) H (fun _ _ => rfl) rfl (by rw [hrl]; omega) rfl ?_
    clear H hrp
    rintro w7 H
    have hset : (zipE (fns l) qs ++ List.replicate (l.length + 1 - qs.length) zF).set qs.length (lai x.1 q) = zipE (fns l) (qs ++ [q]) ++ List.replicate (l.length + 1 - (qs ++ [q]).length) zF := by
      rw [show l.length + 1 - qs.length = (l.length + 1 - (qs ++ [q]).length) + 1 by simp; omega, List.replicate_succ, set_end hzl.symm, zipE, zipE, zip_snoc lai hfx]
    rw [hset] at H
    replace H := H.d0
    repeat' ((conv => whnf); first | (((with_reducible show Gd _ _ _); first | with_reducible refine Gd.t ?_ | with_reducible refine Gd.f ?_ | with_reducible refine Gd.dec (fun _ => ?_) (fun _ => ?_) | with_reducible refine Gd.beq (fun _ => ?_) (fun _ => ?_) | with_reducible refine Gd.bne (fun _ => ?_) (fun _ => ?_) | with_reducible refine Gd.not ?_ | refine Gd.t ?_ | refine Gd.f ?_ | with_reducible refine Gd.var (fun _ => ?_) (fun _ => ?_)) <;> first | (exfalso; omega) | skip) | with_reducible refine Sq.mk ?_ | ((with_reducible show Ld1 _ _ _); first | refine Ld1.h H ?_ | refine Ld1.rF ?_ | refine Ld1.r ?_) | ((with_reducible show Ld _ _ _ _); first | refine Ld.h H ?_ | refine Ld.r ?_) | ((with_reducible show Ix _ _ _ _ _); (first | refine Ix.h ?_ | refine Ix.ha ?_)) | (refine Al.hp H ?_; clear H; intro _ _ H _) | (refine St.h H ?_; clear H; intro _ H))
    refine Sm.lith (cs := [cdV x.1 q]) H T.ok (fun p8 w8 H _ => ?_)
    refine Sm.ap1 (enc := vals) (cdV x.1 q) H T.ok ?_ (by omega) (fun C' cc' w9 H => ?_) (hn := hvl.symm)
    · exact Nat.le_trans (Nat.mul_le_mul_right _ (show qs.length + 1 ≤ 1048577 by omega)) (by decide)
    have hz : zipV (fns l) qs ++ [cdV x.1 q] = zipV (fns l) (qs ++ [q]) := by rw [zipV, zipV, zip_snoc cdV hfx]
    rw [hz] at H
    simp only [List.cons_append, List.nil_append] at H
    repeat' ((conv => whnf); first | (((with_reducible show Gd _ _ _); first | with_reducible refine Gd.t ?_ | with_reducible refine Gd.f ?_ | with_reducible refine Gd.dec (fun _ => ?_) (fun _ => ?_) | with_reducible refine Gd.beq (fun _ => ?_) (fun _ => ?_) | with_reducible refine Gd.bne (fun _ => ?_) (fun _ => ?_) | with_reducible refine Gd.not ?_ | refine Gd.t ?_ | refine Gd.f ?_ | with_reducible refine Gd.var (fun _ => ?_) (fun _ => ?_)) <;> first | (exfalso; omega) | skip) | with_reducible refine Sq.mk ?_ | ((with_reducible show Ld1 _ _ _); first | refine Ld1.h H ?_ | refine Ld1.rF ?_ | refine Ld1.r ?_) | ((with_reducible show Ld _ _ _ _); first | refine Ld.h H ?_ | refine Ld.r ?_) | ((with_reducible show Ix _ _ _ _ _); (first | refine Ix.h ?_ | refine Ix.ha ?_)) | (refine Al.hp H ?_; clear H; intro _ _ H _) | (refine St.h H ?_; clear H; intro _ H))
    replace H := Hp.cdSnoc (H.sel [0, 1, 0, 0, 0, 0, 0] rfl)
    have htk : ((fns l).take qs.length).map spC ++ [spC x.1] = ((fns l).take (qs ++ [q]).length).map spC := by
      obtain ⟨h1, h2⟩ := List.getElem?_eq_some_iff.1 hfx
      rw [List.length_append, List.length_singleton, List.take_succ_eq_append_getElem h1, List.map_append, h2]; rfl
    have hql : (qs ++ [q]).length = qs.length + 1 := by simp
    replace H := H.sel [1, 0, 0, 0, 0, 0] rfl
    refine ⟨(qs ++ [q], C', cc'), ⟨at_int rfl (w64 (by simp) (by omega) (by simp; omega)), rfl, rfl, rfl, rfl, trivial⟩, rfl, ⟨by simp only [hql]; omega, ?_⟩, by simp only [hql]; omega⟩
    simp only
    rw [← htk, hql]
    rw [hql] at H
    exact H
  · have hq : qs.length = l.length := by omega
    have hrp := H.rdb (enc := FE.enc) (sz := 4) 2 rfl (fun _ _ => rfl)
    have hrl : (zipE (fns l) qs ++ List.replicate (l.length + 1 - qs.length) zF).length = l.length + 1 := by simp [hzl]; omega
    repeat' ((conv => whnf); first | (((with_reducible show Gd _ _ _); first | with_reducible refine Gd.t ?_ | with_reducible refine Gd.f ?_ | with_reducible refine Gd.dec (fun _ => ?_) (fun _ => ?_) | with_reducible refine Gd.beq (fun _ => ?_) (fun _ => ?_) | with_reducible refine Gd.bne (fun _ => ?_) (fun _ => ?_) | with_reducible refine Gd.not ?_ | refine Gd.t ?_ | refine Gd.f ?_ | with_reducible refine Gd.var (fun _ => ?_) (fun _ => ?_)) <;> first | (exfalso; omega) | skip) | with_reducible refine Sq.mk ?_ | ((with_reducible show Ld1 _ _ _); first | refine Ld1.h H ?_ | refine Ld1.rF ?_ | refine Ld1.r ?_) | ((with_reducible show Ld _ _ _ _); first | refine Ld.h H ?_ | refine Ld.r ?_) | ((with_reducible show Ix _ _ _ _ _); (first | refine Ix.h ?_ | refine Ix.ha ?_)) | (refine Al.hp H ?_; clear H; intro _ _ H _) | (refine St.h H ?_; clear H; intro _ H))
    refine St.el (enc := FE.enc) (x := markF) (j := l.length) H (fun _ _ => rfl) rfl (by rw [hrl]; omega) rfl ?_
    clear H hrp
    rintro w7 H
    have hset : (zipE (fns l) qs ++ List.replicate (l.length + 1 - qs.length) zF).set l.length markF = zipE (fns l) qs ++ [markF] := by
      rw [show l.length + 1 - qs.length = 0 + 1 by omega, List.replicate_succ, set_end (by omega)]; simp
    rw [hset] at H
    repeat' ((conv => whnf); first | (((with_reducible show Gd _ _ _); first | with_reducible refine Gd.t ?_ | with_reducible refine Gd.f ?_ | with_reducible refine Gd.dec (fun _ => ?_) (fun _ => ?_) | with_reducible refine Gd.beq (fun _ => ?_) (fun _ => ?_) | with_reducible refine Gd.bne (fun _ => ?_) (fun _ => ?_) | with_reducible refine Gd.not ?_ | refine Gd.t ?_ | refine Gd.f ?_ | with_reducible refine Gd.var (fun _ => ?_) (fun _ => ?_)) <;> first | (exfalso; omega) | skip) | with_reducible refine Sq.mk ?_ | ((with_reducible show Ld1 _ _ _); first | refine Ld1.h H ?_ | refine Ld1.rF ?_ | refine Ld1.r ?_) | ((with_reducible show Ld _ _ _ _); first | refine Ld.h H ?_ | refine Ld.r ?_) | ((with_reducible show Ix _ _ _ _ _); (first | refine Ix.h ?_ | refine Ix.ha ?_)) | (refine Al.hp H ?_; clear H; intro _ _ H _) | (refine St.h H ?_; clear H; intro _ H))
    refine Sm.cutHi T.ok rfl rfl rfl rfl rfl (by omega) ?_
    repeat' ((conv => whnf); first | (((with_reducible show Gd _ _ _); first | with_reducible refine Gd.t ?_ | with_reducible refine Gd.f ?_ | with_reducible refine Gd.dec (fun _ => ?_) (fun _ => ?_) | with_reducible refine Gd.beq (fun _ => ?_) (fun _ => ?_) | with_reducible refine Gd.bne (fun _ => ?_) (fun _ => ?_) | with_reducible refine Gd.not ?_ | refine Gd.t ?_ | refine Gd.f ?_ | with_reducible refine Gd.var (fun _ => ?_) (fun _ => ?_)) <;> first | (exfalso; omega) | skip) | with_reducible refine Sq.mk ?_ | ((with_reducible show Ld1 _ _ _); first | refine Ld1.h H ?_ | refine Ld1.rF ?_ | refine Ld1.r ?_) | ((with_reducible show Ld _ _ _ _); first | refine Ld.h H ?_ | refine Ld.r ?_) | ((with_reducible show Ix _ _ _ _ _); (first | refine Ix.h ?_ | refine Ix.ha ?_)) | (refine Al.hp H ?_; clear H; intro _ _ H _) | (refine St.h H ?_; clear H; intro _ H))
    refine ⟨pf, qs, C, cc, ?_, by omega, ?_⟩
    · rw [hfl, ← hq]; rfl
    · rw [hq, ← hfl, List.take_length] at H
      exact H.sel [1, 0, 0] rfl
end Go.Proofs.YtbbadmlekagloaaDoor
