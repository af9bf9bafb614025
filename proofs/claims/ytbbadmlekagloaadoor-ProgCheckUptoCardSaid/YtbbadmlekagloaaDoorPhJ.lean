/- layer prog: the law's lay, checkPlaced, ProgCheck; own work. -/
import Derived.Test.YtbbadmlekagloaaDoorPhI
namespace Go.Proofs.YtbbadmlekagloaaDoor
open Go Go.Sh
set_option linter.unusedVariables false
set_option linter.unusedSimpArgs false
attribute [local irreducible] Blk Ext RdS
/-- a piece of the caller's memory that is read alone -/
theorem Hp.addOld {S : Nat → Prop} {w : World} {Γ : List Ck} {c : Ck} (H : Hp S w w Γ) (h : c.Ok w) (ho : c.own = false) (hold : c.old = true) (hd : ∀ a ∈ Γ, ∀ k, ¬ (c.fp k ∧ a.fp k)) : Hp S w w (c :: Γ) :=
  ⟨H.tch, fun b hb => by rcases List.mem_cons.1 hb with rfl | hb; exact h; exact H.ok b hb, List.pairwise_cons.2 ⟨fun a ha _ k => hd a ha k, H.sep⟩, fun b hb hn k hk => by
    rcases List.mem_cons.1 hb with rfl | hb
    · rcases hn with h | h
      · rw [ho] at h; simp at h
      · rw [hold] at h; simp at h
    · exact H.dom b hb hn k hk⟩
abbrev rko {α : Type} (enc : α → List Value) (sz : Nat) (A : Option Addr) (l : List α) : Ck := ⟨fun k => l ≠ [] ∧ obk A = some k, fun w => RdS enc sz w A l, false, true⟩
theorem rko_ok {α : Type} {enc : α → List Value} {sz : Nat} {A : Option Addr} {l : List α} {w : World} (h : RdS enc sz w A l) : (rko enc sz A l).Ok w := ⟨(rk_ok h).holds, (rk_ok h).lt, (rk_ok h).loc⟩
/-- the codes when those ahead of i are laid, and of i the places ahead of k -/
def layC (fs ts : List Fn) (i k : Nat) : List (List Ins) := (List.range fs.length).map fun j => match fs[j]?, ts[j]? with
  | some f, some t => if j < i then spC f else if j = i then f.code.take k ++ t.code.drop k ++ [oddI 0, oddI 1] else spC t
  | _, _ => []
theorem layC_len (fs ts : List Fn) (i k : Nat) : (layC fs ts i k).length = fs.length := by simp [layC]
theorem layC_at {fs ts : List Fn} {i k : Nat} {f t : Fn} (hf : fs[i]? = some f) (ht : ts[i]? = some t) : (layC fs ts i k)[i]? = some (f.code.take k ++ t.code.drop k ++ [oddI 0, oddI 1]) := by
  have := (List.getElem?_eq_some_iff.1 hf).1
  simp only [layC, List.getElem?_map, List.getElem?_range this, Option.map_some, hf, ht]
  simp
theorem layC_set {fs ts : List Fn} {i k : Nat} {f t : Fn} {x : Ins} (hf : fs[i]? = some f) (ht : ts[i]? = some t) (hl : t.code.length = f.code.length) (hx : f.code[k]? = some x) : (layC fs ts i k).set i ((f.code.take k ++ t.code.drop k ++ [oddI 0, oddI 1]).set k x) = layC fs ts i (k + 1) := by
  rw [lay_set hl hx]
  apply List.ext_getElem?
  intro j
  by_cases e : j = i
  · subst e
    have hlt := (List.getElem?_eq_some_iff.1 hf).1
    rw [List.getElem?_set_self (by rw [layC_len]; exact hlt), layC_at hf ht]
  · rw [List.getElem?_set_ne (fun h => e h.symm)]
    simp only [layC, List.getElem?_map]
    rcases hr : (List.range fs.length)[j]? with _ | j'
    · rfl
    · have : j' = j := by have := List.getElem?_range (n := fs.length) (i := j) (by have := (List.getElem?_eq_some_iff.1 hr).1; simpa using this); rw [hr] at this; simpa using this
      subst this
      simp [e]
theorem layC_next {fs ts : List Fn} {i : Nat} {f t : Fn} (hf : fs[i]? = some f) (ht : ts[i]? = some t) (hl : t.code.length = f.code.length) : layC fs ts i f.code.length = layC fs ts (i + 1) 0 := by
  apply List.ext_getElem?
  intro j
  simp only [layC, List.getElem?_map]
  rcases hr : (List.range fs.length)[j]? with _ | j'
  · rfl
  · have : j' = j := by have := List.getElem?_range (n := fs.length) (i := j) (by have := (List.getElem?_eq_some_iff.1 hr).1; simpa using this); rw [hr] at this; simpa using this
    subst this
    simp only [Option.map_some]
    congr 1
    rcases Nat.lt_trichotomy j' i with h | h | h
    · rcases fs[j']? with _ | g <;> rcases ts[j']? with _ | u <;> simp [h, show j' < i + 1 by omega]
    · subst h; rw [hf, ht]
      simp only [Nat.lt_irrefl, if_false, if_true, show j' < j' + 1 by omega]
      rw [List.take_length, List.drop_of_length_le (by omega), List.append_nil]; rfl
    · rcases fs[j']? with _ | g <;> rcases ts[j']? with _ | u <;> try rfl
      simp only [show ¬ j' < i by omega, show ¬ j' = i by omega, show ¬ j' < i + 1 by omega, if_false]
      by_cases e : j' = i + 1
      · simp [e, spC]
      · simp [e]
theorem layC_begin {fs ts : List Fn} (h : ts.length = fs.length) : layC fs ts 0 0 = ts.map spC := by
  apply List.ext_getElem?
  intro j
  simp only [layC, List.getElem?_map]
  by_cases hj : j < fs.length
  · obtain ⟨f, hf⟩ : ∃ f, fs[j]? = some f := ⟨_, List.getElem?_eq_getElem hj⟩
    obtain ⟨t, ht⟩ : ∃ t, ts[j]? = some t := ⟨_, List.getElem?_eq_getElem (by omega)⟩
    rw [List.getElem?_range hj]
    simp only [Option.map_some, hf, ht]
    by_cases e : j = 0
    · subst e; simp [spC]
    · simp [e]
  · rw [List.getElem?_eq_none (by simp; omega), List.getElem?_eq_none (by omega)]; rfl
theorem layC_end {fs ts : List Fn} (h : ts.length = fs.length) : layC fs ts fs.length 0 = fs.map spC := by
  apply List.ext_getElem?
  intro j
  simp only [layC, List.getElem?_map]
  by_cases hj : j < fs.length
  · obtain ⟨f, hf⟩ : ∃ f, fs[j]? = some f := ⟨_, List.getElem?_eq_getElem hj⟩
    obtain ⟨t, ht⟩ : ∃ t, ts[j]? = some t := ⟨_, List.getElem?_eq_getElem (by omega)⟩
    rw [List.getElem?_range hj]
    simp only [Option.map_some, hf, ht, hj, if_true]
  · rw [List.getElem?_eq_none (by simp; omega), List.getElem?_eq_none (by omega)]; rfl
theorem lay_c (fs ts : List Fn) (pf c2 : Nat) (qs : List Nat) (A : Option Addr) (l : List FE) (c : Nat) (wb w : World) (hb : Ext wb w) (hA : RdP wb A l) (hfs : fns l = fs) (htl : ts.length = fs.length) (htc : ∀ (i : Nat) (f t : Fn), fs[i]? = some f → ts[i]? = some t → t.code.length = f.code.length)
    (hl : l.length ≤ 1048576) (hc : ∀ x ∈ l, x.1.code.length ≤ 1048576) (hq : qs.length = fs.length) (hql : ∀ q ∈ qs, wb.heap.size ≤ q) (hcd : CodeBlks qs (ts.map spC) w) (hpf : RdS FE.enc 4 w (some ⟨pf, 0, none⟩) (zipE ts qs)) (hne : pf ∉ qs) :
    Cl Tryd.prog 69 #[pv (some ⟨pf, 0, none⟩) l.length c2, pv A l.length c] w (fun _ w' => Hp (fun k => k ∈ qs) w w' [cdk qs (fs.map spC)]) (fun _ _ => False) := by
  have hfl := fns_len l
  subst hfs
  have hzl : (zipE ts qs).length = l.length := by rw [zipE, zip_len lai (by omega)]; omega
  refine calls_ex (args := [pv (some ⟨pf, 0, none⟩) l.length c2, pv A l.length c]) T.ok Tryd.func69 rfl rfl rfl rfl ?_
  have HB : BaseOk (fun k => k ∈ qs) wb w := ⟨hb, hql⟩
  have H := Hp.addOld (Hp.start (S := fun k => k ∈ qs) (cdk_ok hcd) (fun k hk => hk)) (rko_ok hpf) rfl rfl (fun a ha k ⟨h1, h2⟩ => by
    simp at ha; subst ha
    have : pf = k := by have := h1.2; simpa [obk] using this
    exact hne (this ▸ h2))
  rw [← layC_begin (by omega : ts.length = (fns l).length)] at H
  refine Sq.mk ?_
  ((conv => whnf); refine Al.hp H ?_; clear H; intro pp _ H _)
  ((conv => whnf); refine Al.hp H ?_; clear H; intro pq _ H _)
  repeat' ((conv => whnf); first | (((with_reducible show Gd _ _ _); first | with_reducible refine Gd.t ?_ | with_reducible refine Gd.f ?_ | with_reducible refine Gd.dec (fun _ => ?_) (fun _ => ?_) | with_reducible refine Gd.beq (fun _ => ?_) (fun _ => ?_) | with_reducible refine Gd.bne (fun _ => ?_) (fun _ => ?_) | with_reducible refine Gd.not ?_ | refine Gd.t ?_ | refine Gd.f ?_ | with_reducible refine Gd.var (fun _ => ?_) (fun _ => ?_)) <;> first | (exfalso; omega) | skip) | with_reducible refine Sq.mk ?_ | ((with_reducible show Ld1 _ _ _); first | refine Ld1.h H ?_ | refine Ld1.rF ?_ | refine Ld1.r ?_) | ((with_reducible show Ld _ _ _ _); first | refine Ld.h H ?_ | refine Ld.r ?_) | ((with_reducible show Ix _ _ _ _ _); (first | refine Ix.h ?_ | refine Ix.ha ?_)) | (refine Al.hp H ?_; clear H; intro _ _ H _) | (refine St.h H ?_; clear H; intro _ H))
  refine Lp.g0 T.ok (σ := Nat) (fun i => [(4, .int .i64 (i : Int)), (2, .pointer (some ⟨pp, 0, none⟩)), (3, .pointer (some ⟨pq, 0, none⟩))])
    (fun i w' => i ≤ l.length ∧ Hp (fun k => k ∈ qs) w w' [bk pq 46 (pv A l.length c).cells.toList, bk pp 46 (pv (some ⟨pf, 0, none⟩) l.length c2).cells.toList, rko FE.enc 4 (some ⟨pf, 0, none⟩) (zipE ts qs), cdk qs (layC (fns l) ts i 0)]) (fun i _ => l.length - i) 0 rfl ⟨rfl, rfl, rfl, trivial⟩ ⟨Nat.zero_le _, H⟩ ?_
  clear H
  rintro i w5 ⟨hi, H⟩
  by_cases hlt : i < l.length
  · obtain ⟨x, hx⟩ : ∃ x, l[i]? = some x := ⟨_, List.getElem?_eq_getElem hlt⟩
    obtain ⟨q, hqi⟩ : ∃ q, qs[i]? = some q := ⟨_, List.getElem?_eq_getElem (by omega)⟩
    obtain ⟨t, hti⟩ : ∃ t, ts[i]? = some t := ⟨_, List.getElem?_eq_getElem (by omega)⟩
    have hxm := List.mem_of_getElem? hx
    have hfx := fns_at hx
    have htl2 := htc i x.1 t hfx hti
    have hzi : (zipE ts qs)[i]? = some (lai t q) := zip_at lai hti hqi
    have hcx := hc x hxm
    repeat' ((conv => whnf); first | (((with_reducible show Gd _ _ _); first | with_reducible refine Gd.t ?_ | with_reducible refine Gd.f ?_ | with_reducible refine Gd.dec (fun _ => ?_) (fun _ => ?_) | with_reducible refine Gd.beq (fun _ => ?_) (fun _ => ?_) | with_reducible refine Gd.bne (fun _ => ?_) (fun _ => ?_) | with_reducible refine Gd.not ?_ | refine Gd.t ?_ | refine Gd.f ?_ | with_reducible refine Gd.var (fun _ => ?_) (fun _ => ?_)) <;> first | (exfalso; omega) | skip) | with_reducible refine Sq.mk ?_ | ((with_reducible show Ld1 _ _ _); first | refine Ld1.h H ?_ | refine Ld1.rF ?_ | refine Ld1.r ?_) | ((with_reducible show Ld _ _ _ _); first | refine Ld.h H ?_ | refine Ld.r ?_) | ((with_reducible show Ix _ _ _ _ _); (first | refine Ix.h ?_ | refine Ix.ha ?_)) | (refine Al.hp H ?_; clear H; intro _ _ H _) | (refine St.h H ?_; clear H; intro _ H))
    refine Lp.g0 T.ok (σ := Nat) (fun k => [(5, .int .i64 (k : Int)), (4, .int .i64 (i : Int)), (2, .pointer (some ⟨pp, 0, none⟩)), (3, .pointer (some ⟨pq, 0, none⟩))])
      (fun k w' => k ≤ x.1.code.length ∧ Hp (fun k => k ∈ qs) w w' [bk pq 46 (pv A l.length c).cells.toList, bk pp 46 (pv (some ⟨pf, 0, none⟩) l.length c2).cells.toList, rko FE.enc 4 (some ⟨pf, 0, none⟩) (zipE ts qs), cdk qs (layC (fns l) ts i k)]) (fun k _ => x.1.code.length - k) 0 rfl ⟨rfl, rfl, rfl, rfl, trivial⟩ ⟨Nat.zero_le _, H⟩ ?_
    clear H
    rintro k w6 ⟨hk, H⟩
    have hAt := RdS.from (H.base2 HB) hA.top
    by_cases hkl : k < x.1.code.length
    · obtain ⟨y, hy⟩ : ∃ y, x.1.code[k]? = some y := ⟨_, List.getElem?_eq_getElem hkl⟩
      have hxc := RdS.from (H.base2 HB) (hA.code x hxm)
      have hzr : RdS FE.enc 4 w6 (some ⟨pf, 0, none⟩) (zipE ts qs) := H.atC 2 rfl
      have hcb : CodeBlks qs (layC (fns l) ts i k) w6 := H.atC 3 rfl
      have hqr := rd_pre (hcb.2.2 i q _ hqi (layC_at hfx hti))
      have hql2 : (x.1.code.take k ++ t.code.drop k ++ [oddI 0, oddI 1]).length = x.1.code.length + 2 := by simp; omega
      have hlaiv : (lai t q).1.code.length = x.1.code.length := htl2
      have hql3 : (x.1.code.take k ++ t.code.drop k).length = (lai t q).1.code.length := by simp [lai]; omega
      repeat' ((conv => whnf); first | (((with_reducible show Gd _ _ _); first | with_reducible refine Gd.t ?_ | with_reducible refine Gd.f ?_ | with_reducible refine Gd.dec (fun _ => ?_) (fun _ => ?_) | with_reducible refine Gd.beq (fun _ => ?_) (fun _ => ?_) | with_reducible refine Gd.bne (fun _ => ?_) (fun _ => ?_) | with_reducible refine Gd.not ?_ | refine Gd.t ?_ | refine Gd.f ?_ | with_reducible refine Gd.var (fun _ => ?_) (fun _ => ?_)) <;> first | (exfalso; omega) | skip) | with_reducible refine Sq.mk ?_ | ((with_reducible show Ld1 _ _ _); first | refine Ld1.h H ?_ | refine Ld1.rF ?_ | refine Ld1.r ?_) | ((with_reducible show Ld _ _ _ _); first | refine Ld.h H ?_ | refine Ld.r ?_) | ((with_reducible show Ix _ _ _ _ _); (first | refine Ix.h ?_ | refine Ix.ha ?_)) | (refine Al.hp H ?_; clear H; intro _ _ H _) | (refine St.h H ?_; clear H; intro _ H))
      ((conv => whnf); refine Dr.tail T.ok mixed 17 (by kernel_rfl) (fun W wT hW eT _ => ?_); (repeat' ((conv => whnf); first | (((with_reducible show Gd _ _ _); first | with_reducible refine Gd.t ?_ | with_reducible refine Gd.f ?_ | with_reducible refine Gd.dec (fun _ => ?_) (fun _ => ?_) | with_reducible refine Gd.beq (fun _ => ?_) (fun _ => ?_) | with_reducible refine Gd.bne (fun _ => ?_) (fun _ => ?_) | with_reducible refine Gd.not ?_ | refine Gd.t ?_ | refine Gd.f ?_ | with_reducible refine Gd.var (fun _ => ?_) (fun _ => ?_)) <;> first | (exfalso; omega) | skip) | ((with_reducible show QLd1 _ _ _); first | refine QLd1.h hW H ?_ | refine QLd1.rF hW ?_ | refine QLd1.r hW ?_) | ((with_reducible show QLd _ _ _ _); first | refine QLd.h hW H ?_ | refine QLd.r hW ?_) | ((with_reducible show Ix _ _ _ _ _); (first | refine Ix.h ?_ | refine Ix.ha ?_)))); replace H := H.ext eT; clear hW eT)
      (conv => whnf)
      refine St.cd (cs := layC (fns l) ts i k) (x := y) H hqi (layC_at hfx hti) (by rw [hql2]; omega) (fun w7 H7 => ?_)
      clear H
      have H := H7
      rw [layC_set hfx hti htl2 hy] at H
      clear H7 hAt hxc hzr hcb hqr
      repeat' ((conv => whnf); first | (((with_reducible show Gd _ _ _); first | with_reducible refine Gd.t ?_ | with_reducible refine Gd.f ?_ | with_reducible refine Gd.dec (fun _ => ?_) (fun _ => ?_) | with_reducible refine Gd.beq (fun _ => ?_) (fun _ => ?_) | with_reducible refine Gd.bne (fun _ => ?_) (fun _ => ?_) | with_reducible refine Gd.not ?_ | refine Gd.t ?_ | refine Gd.f ?_ | with_reducible refine Gd.var (fun _ => ?_) (fun _ => ?_)) <;> first | (exfalso; omega) | skip) | with_reducible refine Sq.mk ?_ | ((with_reducible show Ld1 _ _ _); first | refine Ld1.h H ?_ | refine Ld1.rF ?_ | refine Ld1.r ?_) | ((with_reducible show Ld _ _ _ _); first | refine Ld.h H ?_ | refine Ld.r ?_) | ((with_reducible show Ix _ _ _ _ _); (first | refine Ix.h ?_ | refine Ix.ha ?_)) | (refine Al.hp H ?_; clear H; intro _ _ H _) | (refine St.h H ?_; clear H; intro _ H))
      exact ⟨k + 1, ⟨at_int rfl (w64 (by simp) (by omega) (by omega)), rfl, rfl, rfl, trivial⟩, rfl, ⟨by omega, H⟩, by omega⟩
    · have hk : k = x.1.code.length := by omega
      subst hk
      repeat' ((conv => whnf); first | (((with_reducible show Gd _ _ _); first | with_reducible refine Gd.t ?_ | with_reducible refine Gd.f ?_ | with_reducible refine Gd.dec (fun _ => ?_) (fun _ => ?_) | with_reducible refine Gd.beq (fun _ => ?_) (fun _ => ?_) | with_reducible refine Gd.bne (fun _ => ?_) (fun _ => ?_) | with_reducible refine Gd.not ?_ | refine Gd.t ?_ | refine Gd.f ?_ | with_reducible refine Gd.var (fun _ => ?_) (fun _ => ?_)) <;> first | (exfalso; omega) | skip) | with_reducible refine Sq.mk ?_ | ((with_reducible show Ld1 _ _ _); first | refine Ld1.h H ?_ | refine Ld1.rF ?_ | refine Ld1.r ?_) | ((with_reducible show Ld _ _ _ _); first | refine Ld.h H ?_ | refine Ld.r ?_) | ((with_reducible show Ix _ _ _ _ _); (first | refine Ix.h ?_ | refine Ix.ha ?_)) | (refine Al.hp H ?_; clear H; intro _ _ H _) | (refine St.h H ?_; clear H; intro _ H))
      rw [layC_next hfx hti htl2] at H
      exact ⟨i + 1, ⟨at_int (m := ((i + 1 : Nat) : Int)) rfl (w64 (by simp) (by omega) (by omega)), rfl, rfl, trivial⟩, rfl, ⟨by omega, H⟩, by omega⟩
  · repeat' ((conv => whnf); first | (((with_reducible show Gd _ _ _); first | with_reducible refine Gd.t ?_ | with_reducible refine Gd.f ?_ | with_reducible refine Gd.dec (fun _ => ?_) (fun _ => ?_) | with_reducible refine Gd.beq (fun _ => ?_) (fun _ => ?_) | with_reducible refine Gd.bne (fun _ => ?_) (fun _ => ?_) | with_reducible refine Gd.not ?_ | refine Gd.t ?_ | refine Gd.f ?_ | with_reducible refine Gd.var (fun _ => ?_) (fun _ => ?_)) <;> first | (exfalso; omega) | skip) | with_reducible refine Sq.mk ?_ | ((with_reducible show Ld1 _ _ _); first | refine Ld1.h H ?_ | refine Ld1.rF ?_ | refine Ld1.r ?_) | ((with_reducible show Ld _ _ _ _); first | refine Ld.h H ?_ | refine Ld.r ?_) | ((with_reducible show Ix _ _ _ _ _); (first | refine Ix.h ?_ | refine Ix.ha ?_)) | (refine Al.hp H ?_; clear H; intro _ _ H _) | (refine St.h H ?_; clear H; intro _ H))
    have hi : i = l.length := by omega
    rw [hi, ← hfl, layC_end (by omega)] at H
    exact H.sel [3] rfl
end Go.Proofs.YtbbadmlekagloaaDoor
