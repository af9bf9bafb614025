/- layer prog: the law's turnedAll and lay; own work. -/
import Derived.Test.YtbbadmlekagloaaDoorPhH
namespace Go.Proofs.YtbbadmlekagloaaDoor
open Go Go.Sh
set_option linter.unusedVariables false
set_option linter.unusedSimpArgs false
attribute [local irreducible] Blk Ext RdS
/-- lists of code that are written no more -/
abbrev rcs (l : List FE) : Ck := ⟨fun k => ∃ x ∈ l, x.1.code ≠ [] ∧ obk x.2.1 = some k, fun w => ∀ x ∈ l, RdC w x.2.1 x.1.code, false, false⟩
theorem rcs_ok {l : List FE} {w : World} (h : ∀ x ∈ l, RdC w x.2.1 x.1.code) : (rcs l).Ok w := by
  refine ⟨h, fun k hk => ?_, fun w' hs hb x hx => ?_⟩
  · obtain ⟨x, hx, h1, h2⟩ := hk
    exact RdS.lt (h x hx) h1 k h2
  · by_cases hl : x.1.code = []
    · rw [hl]; exact RdS.nil
    · exact RdS.keep (h x hx) hs fun b hb' _ => hb b ⟨x, hx, hl, hb'⟩
theorem Hp.rcSnoc {S : Nat → Prop} {w0 w : World} {Γ : List Ck} {x : FE} {l : List FE} (H : Hp S w0 w (rk Ins.enc 5 x.2.1 x.1.code :: rcs l :: Γ)) : Hp S w0 w (rcs (l ++ [x]) :: Γ) := by
  have hs := List.pairwise_cons.1 H.sep
  have hs2 := List.pairwise_cons.1 hs.2
  have h1 := (H.ok _ (List.mem_cons_self ..)).holds
  have h2 := (H.ok _ (List.mem_cons_of_mem _ (List.mem_cons_self ..))).holds
  have hfp : ∀ k, (rcs (l ++ [x])).fp k → (rk Ins.enc 5 x.2.1 x.1.code).fp k ∨ (rcs l).fp k := fun k ⟨y, hy, q1, q2⟩ => by
    rcases List.mem_append.1 hy with h | h
    · exact .inr ⟨y, h, q1, q2⟩
    · simp at h; subst h; exact .inl ⟨q1, q2⟩
  refine ⟨H.tch, fun b hb => ?_, List.pairwise_cons.2 ⟨fun b hb h k hk => ?_, hs2.2⟩, fun b hb hb' k hk => ?_⟩
  · rcases List.mem_cons.1 hb with rfl | hb
    · refine rcs_ok fun y hy => ?_
      rcases List.mem_append.1 hy with h | h
      · exact h2 y h
      · simp at h; subst h; exact h1
    · exact H.ok b (by simp [hb])
  · rcases hfp k hk.1 with h' | h'
    · exact hs.1 b (by simp [hb]) h k ⟨h', hk.2⟩
    · exact hs2.1 b hb h k ⟨h', hk.2⟩
  · rcases List.mem_cons.1 hb with rfl | hb
    · rcases hfp k hk with h | h
      · exact H.dom _ (List.mem_cons_self ..) (.inr rfl) k h
      · exact H.dom _ (List.mem_cons_of_mem _ (List.mem_cons_self ..)) (.inr rfl) k h
    · exact H.dom b (by simp [hb]) hb' k hk
def TurnedAll (l : List FE) (w : World) (v : Value) (w' : World) : Prop := ∃ C d l', v = pv C l'.length d ∧ fns l' = (fns l).map turnedF ∧ Hp nw w w' [rcs l', qu FE.enc 4 24 C d l']
theorem turnedAll_c (A : Option Addr) (l : List FE) (c : Nat) (w : World) (hA : RdP w A l) (hl : l.length ≤ 1048576) (hc : ∀ x ∈ l, x.1.code.length ≤ 1048576) :
    Cl Tryd.prog 68 #[pv A l.length c] w (TurnedAll l w) (fun _ _ => False) := by
  refine calls_ex (args := [pv A l.length c]) T.ok Tryd.func68 rfl rfl rfl rfl ?_
  have H := Hp.begin nw w
  refine Sq.mk ?_
  ((conv => whnf); refine Al.hp H ?_; clear H; intro pp _ H _)
  ((conv => whnf); refine Al.hp H ?_; clear H; intro pr _ H _)
  repeat' ((conv => whnf); first | (((with_reducible show Gd _ _ _); first | with_reducible refine Gd.t ?_ | with_reducible refine Gd.f ?_ | with_reducible refine Gd.dec (fun _ => ?_) (fun _ => ?_) | with_reducible refine Gd.beq (fun _ => ?_) (fun _ => ?_) | with_reducible refine Gd.bne (fun _ => ?_) (fun _ => ?_) | with_reducible refine Gd.not ?_ | refine Gd.t ?_ | refine Gd.f ?_ | with_reducible refine Gd.var (fun _ => ?_) (fun _ => ?_)) <;> first | (exfalso; omega) | skip) | with_reducible refine Sq.mk ?_ | ((with_reducible show Ld1 _ _ _); first | refine Ld1.h H ?_ | refine Ld1.rF ?_ | refine Ld1.r ?_) | ((with_reducible show Ld _ _ _ _); first | refine Ld.h H ?_ | refine Ld.r ?_) | ((with_reducible show Ix _ _ _ _ _); (first | refine Ix.h ?_ | refine Ix.ha ?_)) | (refine St.h H ?_; clear H; intro _ H))
  ((conv => whnf); refine Al.hp H ?_; clear H; intro pq _ H _)
  repeat' ((conv => whnf); first | (((with_reducible show Gd _ _ _); first | with_reducible refine Gd.t ?_ | with_reducible refine Gd.f ?_ | with_reducible refine Gd.dec (fun _ => ?_) (fun _ => ?_) | with_reducible refine Gd.beq (fun _ => ?_) (fun _ => ?_) | with_reducible refine Gd.bne (fun _ => ?_) (fun _ => ?_) | with_reducible refine Gd.not ?_ | refine Gd.t ?_ | refine Gd.f ?_ | with_reducible refine Gd.var (fun _ => ?_) (fun _ => ?_)) <;> first | (exfalso; omega) | skip) | with_reducible refine Sq.mk ?_ | ((with_reducible show Ld1 _ _ _); first | refine Ld1.h H ?_ | refine Ld1.rF ?_ | refine Ld1.r ?_) | ((with_reducible show Ld _ _ _ _); first | refine Ld.h H ?_ | refine Ld.r ?_) | ((with_reducible show Ix _ _ _ _ _); (first | refine Ix.h ?_ | refine Ix.ha ?_)) | (refine Al.hp H ?_; clear H; intro _ _ H _) | (refine St.h H ?_; clear H; intro _ H))
  replace H := H.nil FE.enc 4 24
  replace H := H.fr0 (Hp.one (Tch.refl _ _) (rcs_ok (l := []) (by simp)) (fun k hk => by obtain ⟨x, hx, _⟩ := hk; simp at hx)) (.inr rfl)
  refine Lp.g0 T.ok (σ := Nat × List FE × Option Addr × Nat) (fun s => [(4, .int .i64 (s.1 : Int)), (1, .pointer (some ⟨pp, 0, none⟩)), (2, .pointer (some ⟨pr, 0, none⟩)), (3, .pointer (some ⟨pq, 0, none⟩))])
    (fun s w' => s.1 ≤ l.length ∧ s.2.1.length = s.1 ∧ fns s.2.1 = ((fns l).take s.1).map turnedF ∧ Hp nw w w' [rcs s.2.1, qu FE.enc 4 24 s.2.2.1 s.2.2.2 s.2.1, bk pq 46 [.slice s.2.2.1 s.1 s.2.2.2], bk pr 46 T.t46.zero.cells.toList, bk pp 46 (pv A l.length c).cells.toList]) (fun s _ => l.length - s.1) (0, [], none, 0) rfl ⟨rfl, rfl, rfl, rfl, trivial⟩ ⟨Nat.zero_le _, rfl, rfl, H⟩ ?_
  clear H
  rintro ⟨i, l', C, d⟩ w5 ⟨hi, hli, hfn, H⟩
  simp only at hi hli hfn H ⊢
  by_cases hlt : i < l.length
  · obtain ⟨x, hx⟩ : ∃ x, l[i]? = some x := ⟨_, List.getElem?_eq_getElem hlt⟩
    have hxm := List.mem_of_getElem? hx
    have hA5 := RdS.from H.e hA.top
    have hcx := hc x hxm
    repeat' ((conv => whnf); first | (((with_reducible show Gd _ _ _); first | with_reducible refine Gd.t ?_ | with_reducible refine Gd.f ?_ | with_reducible refine Gd.dec (fun _ => ?_) (fun _ => ?_) | with_reducible refine Gd.beq (fun _ => ?_) (fun _ => ?_) | with_reducible refine Gd.bne (fun _ => ?_) (fun _ => ?_) | with_reducible refine Gd.not ?_ | refine Gd.t ?_ | refine Gd.f ?_ | with_reducible refine Gd.var (fun _ => ?_) (fun _ => ?_)) <;> first | (exfalso; omega) | skip) | with_reducible refine Sq.mk ?_ | ((with_reducible show Ld1 _ _ _); first | refine Ld1.h H ?_ | refine Ld1.rF ?_ | refine Ld1.r ?_) | ((with_reducible show Ld _ _ _ _); first | refine Ld.h H ?_ | refine Ld.r ?_) | ((with_reducible show Ix _ _ _ _ _); (first | refine Ix.h ?_ | refine Ix.ha ?_)) | (refine Al.hp H ?_; clear H; intro _ _ H _) | (refine St.h H ?_; clear H; intro _ H))
    clear hA5
    ((conv => whnf); refine Cl.mk (turned_c x.1 x.2.1 x.2.2 _ (RdS.from H.e (hA.code x hxm)) hcx) ?_)
    rintro _ w6 ⟨D, dc, rfl, hD, e, hfr, _⟩
    replace H := H.fr0 (rk_new hD e hfr) (.inr rfl)
    clear hD e hfr
    ((conv => whnf); refine Al.hp H ?_; clear H; intro pt _ H _)
    repeat' ((conv => whnf); first | (((with_reducible show Gd _ _ _); first | with_reducible refine Gd.t ?_ | with_reducible refine Gd.f ?_ | with_reducible refine Gd.dec (fun _ => ?_) (fun _ => ?_) | with_reducible refine Gd.beq (fun _ => ?_) (fun _ => ?_) | with_reducible refine Gd.bne (fun _ => ?_) (fun _ => ?_) | with_reducible refine Gd.not ?_ | refine Gd.t ?_ | refine Gd.f ?_ | with_reducible refine Gd.var (fun _ => ?_) (fun _ => ?_)) <;> first | (exfalso; omega) | skip) | with_reducible refine Sq.mk ?_ | ((with_reducible show Ld1 _ _ _); first | refine Ld1.h H ?_ | refine Ld1.rF ?_ | refine Ld1.r ?_) | ((with_reducible show Ld _ _ _ _); first | refine Ld.h H ?_ | refine Ld.r ?_) | ((with_reducible show Ix _ _ _ _ _); (first | refine Ix.h ?_ | refine Ix.ha ?_)) | (refine Al.hp H ?_; clear H; intro _ _ H _) | (refine St.h H ?_; clear H; intro _ H))
    refine Sm.lith (cs := FE.enc (turnedF x.1, D, dc)) H T.ok (fun p8 w8 H _ => ?_)
    refine Sm.ap1 (enc := FE.enc) ((turnedF x.1, D, dc) : FE) H T.ok ?_ (by omega) (fun C' d' w9 H => ?_) (hn := hli.symm)
    · exact Nat.le_trans (Nat.mul_le_mul_right _ (show i + 1 ≤ 1048577 by omega)) (by decide)
    simp only [List.cons_append, List.nil_append] at H
    repeat' ((conv => whnf); first | (((with_reducible show Gd _ _ _); first | with_reducible refine Gd.t ?_ | with_reducible refine Gd.f ?_ | with_reducible refine Gd.dec (fun _ => ?_) (fun _ => ?_) | with_reducible refine Gd.beq (fun _ => ?_) (fun _ => ?_) | with_reducible refine Gd.bne (fun _ => ?_) (fun _ => ?_) | with_reducible refine Gd.not ?_ | refine Gd.t ?_ | refine Gd.f ?_ | with_reducible refine Gd.var (fun _ => ?_) (fun _ => ?_)) <;> first | (exfalso; omega) | skip) | with_reducible refine Sq.mk ?_ | ((with_reducible show Ld1 _ _ _); first | refine Ld1.h H ?_ | refine Ld1.rF ?_ | refine Ld1.r ?_) | ((with_reducible show Ld _ _ _ _); first | refine Ld.h H ?_ | refine Ld.r ?_) | ((with_reducible show Ix _ _ _ _ _); (first | refine Ix.h ?_ | refine Ix.ha ?_)) | (refine Al.hp H ?_; clear H; intro _ _ H _) | (refine St.h H ?_; clear H; intro _ H))
    replace H := Hp.rcSnoc (x := (turnedF x.1, D, dc)) (H.sel [1, 1, 1, 1, 1, 1] rfl)
    refine ⟨(i + 1, l' ++ [(turnedF x.1, D, dc)], C', d'), ⟨at_int (m := ((i + 1 : Nat) : Int)) rfl (w64 (by simp) (by omega) (by omega)), rfl, rfl, rfl, trivial⟩, rfl, ⟨by simp only; omega, by simp [hli], ?_, H⟩, by simp only; omega⟩
    obtain ⟨h1, h2⟩ := List.getElem?_eq_some_iff.1 (fns_at hx)
    simp only
    rw [List.take_succ_eq_append_getElem h1, List.map_append, ← hfn, h2]
    simp [fns]
  · have hi : i = l.length := by omega
    subst hi
    rw [← fns_len, List.take_length] at hfn
    repeat' ((conv => whnf); first | (((with_reducible show Gd _ _ _); first | with_reducible refine Gd.t ?_ | with_reducible refine Gd.f ?_ | with_reducible refine Gd.dec (fun _ => ?_) (fun _ => ?_) | with_reducible refine Gd.beq (fun _ => ?_) (fun _ => ?_) | with_reducible refine Gd.bne (fun _ => ?_) (fun _ => ?_) | with_reducible refine Gd.not ?_ | refine Gd.t ?_ | refine Gd.f ?_ | with_reducible refine Gd.var (fun _ => ?_) (fun _ => ?_)) <;> first | (exfalso; omega) | skip) | with_reducible refine Sq.mk ?_ | ((with_reducible show Ld1 _ _ _); first | refine Ld1.h H ?_ | refine Ld1.rF ?_ | refine Ld1.r ?_) | ((with_reducible show Ld _ _ _ _); first | refine Ld.h H ?_ | refine Ld.r ?_) | ((with_reducible show Ix _ _ _ _ _); (first | refine Ix.h ?_ | refine Ix.ha ?_)) | (refine Al.hp H ?_; clear H; intro _ _ H _) | (refine St.h H ?_; clear H; intro _ H))
    exact ⟨C, d, l', by rw [hli]; rfl, hfn, H.sel [0, 0] rfl⟩
end Go.Proofs.YtbbadmlekagloaaDoor
