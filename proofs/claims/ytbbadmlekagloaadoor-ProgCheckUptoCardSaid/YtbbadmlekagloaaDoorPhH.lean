/- layer prog: the law's untouched, turnedAll; own work. -/
import Derived.Test.YtbbadmlekagloaaDoorPhG
namespace Go.Proofs.YtbbadmlekagloaaDoor
open Go Go.Sh
set_option linter.unusedVariables false
set_option linter.unusedSimpArgs false
attribute [local irreducible] Blk Ext RdS
theorem zip_at {α : Type} (g : Fn → Nat → α) {fs : List Fn} {qs : List Nat} {i : Nat} {f : Fn} {q : Nat} (hf : fs[i]? = some f) (hq : qs[i]? = some q) : (List.zipWith g fs qs)[i]? = some (g f q) := by
  rw [List.getElem?_zipWith, hf, hq]
theorem fns_zip {fs : List Fn} {qs : List Nat} (h : qs.length = fs.length) : fns (zipE fs qs) = fs := by
  apply List.ext_getElem?
  intro i
  simp only [fns, zipE, List.getElem?_map, List.getElem?_zipWith]
  rcases hf : fs[i]? with _ | f
  · simp
  · obtain ⟨q, hq⟩ : ∃ q, qs[i]? = some q := ⟨_, List.getElem?_eq_getElem (by rw [h]; exact (List.getElem?_eq_some_iff.1 hf).1)⟩
    simp [hq, lai]
/-- a program laid anew reads as it should -/
theorem rdp_zip {fs : List Fn} {qs : List Nat} {pf : Nat} {w : World} {tl : List FE} (h : qs.length = fs.length) (hf : RdS FE.enc 4 w (some ⟨pf, 0, none⟩) (zipE fs qs ++ tl)) (hc : CodeBlks qs (fs.map spC) w) : RdP w (some ⟨pf, 0, none⟩) (zipE fs qs) := by
  refine ⟨?_, fun x hx => ?_⟩
  · have := RdS.take (k := (zipE fs qs).length) hf
    rw [List.take_left] at this
    exact this
  · obtain ⟨i, hi⟩ := List.getElem?_of_mem hx
    obtain ⟨g1, g2, g3⟩ := hc
    rw [zipE, List.getElem?_zipWith] at hi
    rcases hfi : fs[i]? with _ | f
    · rw [hfi] at hi; simp at hi
    rcases hqi : qs[i]? with _ | q
    · rw [hfi, hqi] at hi; simp at hi
    rw [hfi, hqi] at hi
    simp at hi
    subst hi
    exact rd_pre (g3 i q (spC f) hqi (by simp [hfi]))
theorem untouched_c (fs : List Fn) (pf : Nat) (qs : List Nat) (C : Option Addr) (cc : Nat) (A : Option Addr) (l : List FE) (c : Nat) (w : World) (hA : RdP w A l) (hfs : fns l = fs) (hl : l.length ≤ 1048576) (hc : ∀ x ∈ l, x.1.code.length ≤ 1048576) (hq : qs.length = fs.length)
    (hcd : CodeBlks qs (fs.map spC) w) (hV : RdS vals 1 w C (zipV fs qs)) (hpf : RdS FE.enc 4 w (some ⟨pf, 0, none⟩) (zipE fs qs ++ [markF])) :
    Cl Tryd.prog 31 #[.agg #[.slice (some ⟨pf, 0, none⟩) l.length (l.length + 1), .slice (some ⟨pf, 0, none⟩) (l.length + 1) (l.length + 1), .slice C l.length cc], pv A l.length c] w (fun v w' => v = .bool true ∧ Ext w w') (fun _ _ => False) := by
  have hfl := fns_len l
  subst hfs
  have hzl : (zipE (fns l) qs).length = l.length := by rw [zipE, zip_len lai (by omega)]; omega
  have hvl : (zipV (fns l) qs).length = l.length := by rw [zipV, zip_len cdV (by omega)]; omega
  have hZ := rdp_zip hq hpf hcd
  have hlm : (zipE (fns l) qs ++ [markF]).length = l.length + 1 := by simp [hzl]
  have hlast : (zipE (fns l) qs ++ [markF])[l.length]? = some markF := by
    rw [List.getElem?_append_right (by omega), hzl]; simp
  have hcz : ∀ x ∈ zipE (fns l) qs, x.1.code.length ≤ 1048576 := fun x hx => by
    have h1 : x.1 ∈ fns l := by rw [← fns_zip hq]; exact List.mem_map.2 ⟨x, hx, rfl⟩
    obtain ⟨y, hy, e⟩ := List.mem_map.1 h1
    rw [← e]; exact hc y hy
  refine calls_ex (args := [.agg #[.slice (some ⟨pf, 0, none⟩) l.length (l.length + 1), .slice (some ⟨pf, 0, none⟩) (l.length + 1) (l.length + 1), .slice C l.length cc], pv A l.length c]) T.ok Tryd.func31 rfl rfl rfl rfl ?_
  have H := Hp.begin nw w
  refine Sq.mk ?_
  ((conv => whnf); refine Al.hp H ?_; clear H; intro pg _ H _)
  ((conv => whnf); refine Al.hp H ?_; clear H; intro pp _ H _)
  repeat' ((conv => whnf); first | (((with_reducible show Gd _ _ _); first | with_reducible refine Gd.t ?_ | with_reducible refine Gd.f ?_ | with_reducible refine Gd.dec (fun _ => ?_) (fun _ => ?_) | with_reducible refine Gd.beq (fun _ => ?_) (fun _ => ?_) | with_reducible refine Gd.bne (fun _ => ?_) (fun _ => ?_) | with_reducible refine Gd.not ?_ | refine Gd.t ?_ | refine Gd.f ?_ | with_reducible refine Gd.var (fun _ => ?_) (fun _ => ?_)) <;> first | (exfalso; omega) | skip) | with_reducible refine Sq.mk ?_ | ((with_reducible show Ld1 _ _ _); first | refine Ld1.h H ?_ | refine Ld1.rF ?_ | refine Ld1.r ?_) | ((with_reducible show Ld _ _ _ _); first | refine Ld.h H ?_ | refine Ld.r ?_) | ((with_reducible show Ix _ _ _ _ _); (first | refine Ix.h ?_ | refine Ix.ha ?_)) | (refine Al.hp H ?_; clear H; intro _ _ H _) | (refine St.h H ?_; clear H; intro _ H))
  have hsame : ∀ w', Ext w w' → Cl Tryd.prog 46 #[pv (some ⟨pf, 0, none⟩) l.length (l.length + 1), pv A l.length c] w' (fun v w'' => v = .bool true ∧ Ext w' w'') (fun _ _ => False) := fun w' e => by
    have := same_c (some ⟨pf, 0, none⟩) A (zipE (fns l) qs) l (l.length + 1) c w' (hZ.ext e) (hA.ext e) (by omega) hcz
    rw [hzl, decide_eq_true (fns_zip hq)] at this
    exact this
  ((conv => whnf); refine Dr.quiet T.ok mixed (by kernel_rfl) (fun W hW => ?_))
  have e5 := H.e
  have hpf5 := RdS.from H.e hpf
  repeat' (first | ((conv => whnf); first | (((with_reducible show Gd _ _ _); first | with_reducible refine Gd.t ?_ | with_reducible refine Gd.f ?_ | with_reducible refine Gd.dec (fun _ => ?_) (fun _ => ?_) | with_reducible refine Gd.beq (fun _ => ?_) (fun _ => ?_) | with_reducible refine Gd.bne (fun _ => ?_) (fun _ => ?_) | with_reducible refine Gd.not ?_ | refine Gd.t ?_ | refine Gd.f ?_ | with_reducible refine Gd.var (fun _ => ?_) (fun _ => ?_)) <;> first | (exfalso; omega) | skip) | ((with_reducible show QLd1 _ _ _); first | refine QLd1.h hW H ?_ | refine QLd1.rF hW ?_ | refine QLd1.r hW ?_) | ((with_reducible show QLd _ _ _ _); first | refine QLd.h hW H ?_ | refine QLd.r hW ?_) | ((with_reducible show Ix _ _ _ _ _); (first | refine Ix.h ?_ | refine Ix.ha ?_))) | ((conv => whnf); refine QSm.cutHi (i := l.length) hW T.ok (by omega) ?_) | (exfalso; exact absurd (rfl : markF.1.params = -5) (by assumption)) | ((conv => whnf); refine QCl.mk hW (fun _ ee => Cl.mk (hsame _ (Ext.trans e5 ee)) (fun _ _ h => h)) ?_))
  clear hpf5
  (intro _ eT; replace H := H.ext eT; clear hW eT)
  repeat' ((conv => whnf); first | (((with_reducible show Gd _ _ _); first | with_reducible refine Gd.t ?_ | with_reducible refine Gd.f ?_ | with_reducible refine Gd.dec (fun _ => ?_) (fun _ => ?_) | with_reducible refine Gd.beq (fun _ => ?_) (fun _ => ?_) | with_reducible refine Gd.bne (fun _ => ?_) (fun _ => ?_) | with_reducible refine Gd.not ?_ | refine Gd.t ?_ | refine Gd.f ?_ | with_reducible refine Gd.var (fun _ => ?_) (fun _ => ?_)) <;> first | (exfalso; omega) | skip) | with_reducible refine Sq.mk ?_ | ((with_reducible show Ld1 _ _ _); first | refine Ld1.h H ?_ | refine Ld1.rF ?_ | refine Ld1.r ?_) | ((with_reducible show Ld _ _ _ _); first | refine Ld.h H ?_ | refine Ld.r ?_) | ((with_reducible show Ix _ _ _ _ _); (first | refine Ix.h ?_ | refine Ix.ha ?_)) | (refine Al.hp H ?_; clear H; intro _ _ H _) | (refine St.h H ?_; clear H; intro _ H))
  refine Lp.g0 T.ok (σ := Nat) (fun i => [(6, .int .i64 (i : Int)), (5, .int .i64 (l.length : Int)), (2, .pointer (some ⟨pg, 0, none⟩)), (3, .pointer (some ⟨pp, 0, none⟩))])
    (fun i w' => i ≤ l.length ∧ Hp nw w w' [bk pp 46 (pv A l.length c).cells.toList, bk pg 52 [.slice (some ⟨pf, 0, none⟩) l.length (l.length + 1), .slice (some ⟨pf, 0, none⟩) (l.length + 1) (l.length + 1), .slice C l.length cc]]) (fun i _ => l.length - i) 0 rfl ⟨rfl, rfl, rfl, rfl, trivial⟩ ⟨Nat.zero_le _, H⟩ ?_
  clear H e5
  rintro i w5 ⟨hi, H⟩
  by_cases hlt : i < l.length
  · obtain ⟨x, hx⟩ : ∃ x, l[i]? = some x := ⟨_, List.getElem?_eq_getElem hlt⟩
    obtain ⟨q, hqi⟩ : ∃ q, qs[i]? = some q := ⟨_, List.getElem?_eq_getElem (by omega)⟩
    have hfx := fns_at hx
    have hA5 := RdS.from H.e hA.top
    have hV5 := RdS.from H.e hV
    have hvi : (zipV (fns l) qs)[i]? = some (cdV x.1 q) := zip_at cdV hfx hqi
    have hcb := RdS.from H.e (rd_of_code (hcd.2.2 i q (spC x.1) hqi (by simp [hfx])))
    have hsl : (spC x.1).length = x.1.code.length + 2 := by simp [spC]
    have hs0 : (spC x.1)[x.1.code.length]? = some (oddI 0) := by simp [spC]
    have hs1 : (spC x.1)[x.1.code.length + 1]? = some (oddI 1) := by simp [spC]
    have hcx := hc x (List.mem_of_getElem? hx)
    have hw1 : IntKind.i64.wrap ((x.1.code.length : Int) + 1) = ((x.1.code.length + 1 : Nat) : Int) := w64 (by omega) (by omega) (by omega)
    repeat' ((conv => whnf); first | (((with_reducible show Gd _ _ _); first | with_reducible refine Gd.t ?_ | with_reducible refine Gd.f ?_ | with_reducible refine Gd.dec (fun _ => ?_) (fun _ => ?_) | with_reducible refine Gd.beq (fun _ => ?_) (fun _ => ?_) | with_reducible refine Gd.bne (fun _ => ?_) (fun _ => ?_) | with_reducible refine Gd.not ?_ | refine Gd.t ?_ | refine Gd.f ?_ | with_reducible refine Gd.var (fun _ => ?_) (fun _ => ?_)) <;> first | (exfalso; omega) | skip) | with_reducible refine Sq.mk ?_ | ((with_reducible show Ld1 _ _ _); first | refine Ld1.h H ?_ | refine Ld1.rF ?_ | refine Ld1.r ?_) | ((with_reducible show Ld _ _ _ _); first | refine Ld.h H ?_ | refine Ld.r ?_) | ((with_reducible show Ix _ _ _ _ _); (first | refine Ix.h ?_ | refine Ix.ha ?_)) | (refine Al.hp H ?_; clear H; intro _ _ H _) | (refine St.h H ?_; clear H; intro _ H))
    ((conv => whnf); refine Dr.quiet T.ok mixed (by kernel_rfl) (fun W hW => ?_))
    repeat' (first | ((conv => whnf); first | (((with_reducible show Gd _ _ _); first | with_reducible refine Gd.t ?_ | with_reducible refine Gd.f ?_ | with_reducible refine Gd.dec (fun _ => ?_) (fun _ => ?_) | with_reducible refine Gd.beq (fun _ => ?_) (fun _ => ?_) | with_reducible refine Gd.bne (fun _ => ?_) (fun _ => ?_) | with_reducible refine Gd.not ?_ | refine Gd.t ?_ | refine Gd.f ?_ | with_reducible refine Gd.var (fun _ => ?_) (fun _ => ?_)) <;> first | (exfalso; omega) | skip) | ((with_reducible show QLd1 _ _ _); first | refine QLd1.h hW H ?_ | refine QLd1.rF hW ?_ | refine QLd1.r hW ?_) | ((with_reducible show QLd _ _ _ _); first | refine QLd.h hW H ?_ | refine QLd.r hW ?_) | ((with_reducible show Ix _ _ _ _ _); (first | refine Ix.h ?_ | refine Ix.ha ?_))) | ((conv => whnf); refine QCl.mk hW (fun _ ee => Cl.mk (odd_c 0 _ (by decide)) (fun _ _ h => h)) ?_) | ((conv => whnf); refine QCl.mk hW (fun _ ee => Cl.mk (odd_c 1 _ (by decide)) (fun _ _ h => h)) ?_))
    clear hA5 hV5 hcb
    (intro _ eT; replace H := H.ext eT; clear hW eT)
    repeat' ((conv => whnf); first | (((with_reducible show Gd _ _ _); first | with_reducible refine Gd.t ?_ | with_reducible refine Gd.f ?_ | with_reducible refine Gd.dec (fun _ => ?_) (fun _ => ?_) | with_reducible refine Gd.beq (fun _ => ?_) (fun _ => ?_) | with_reducible refine Gd.bne (fun _ => ?_) (fun _ => ?_) | with_reducible refine Gd.not ?_ | refine Gd.t ?_ | refine Gd.f ?_ | with_reducible refine Gd.var (fun _ => ?_) (fun _ => ?_)) <;> first | (exfalso; omega) | skip) | with_reducible refine Sq.mk ?_ | ((with_reducible show Ld1 _ _ _); first | refine Ld1.h H ?_ | refine Ld1.rF ?_ | refine Ld1.r ?_) | ((with_reducible show Ld _ _ _ _); first | refine Ld.h H ?_ | refine Ld.r ?_) | ((with_reducible show Ix _ _ _ _ _); (first | refine Ix.h ?_ | refine Ix.ha ?_)) | (refine Al.hp H ?_; clear H; intro _ _ H _) | (refine St.h H ?_; clear H; intro _ H))
    exact ⟨i + 1, ⟨at_int (m := ((i + 1 : Nat) : Int)) rfl (w64 (by simp) (by omega) (by omega)), rfl, rfl, rfl, trivial⟩, rfl, ⟨by omega, H⟩, by omega⟩
  · repeat' ((conv => whnf); first | (((with_reducible show Gd _ _ _); first | with_reducible refine Gd.t ?_ | with_reducible refine Gd.f ?_ | with_reducible refine Gd.dec (fun _ => ?_) (fun _ => ?_) | with_reducible refine Gd.beq (fun _ => ?_) (fun _ => ?_) | with_reducible refine Gd.bne (fun _ => ?_) (fun _ => ?_) | with_reducible refine Gd.not ?_ | refine Gd.t ?_ | refine Gd.f ?_ | with_reducible refine Gd.var (fun _ => ?_) (fun _ => ?_)) <;> first | (exfalso; omega) | skip) | with_reducible refine Sq.mk ?_ | ((with_reducible show Ld1 _ _ _); first | refine Ld1.h H ?_ | refine Ld1.rF ?_ | refine Ld1.r ?_) | ((with_reducible show Ld _ _ _ _); first | refine Ld.h H ?_ | refine Ld.r ?_) | ((with_reducible show Ix _ _ _ _ _); (first | refine Ix.h ?_ | refine Ix.ha ?_)) | (refine Al.hp H ?_; clear H; intro _ _ H _) | (refine St.h H ?_; clear H; intro _ H))
    exact ⟨rfl, H.e⟩
end Go.Proofs.YtbbadmlekagloaaDoor
