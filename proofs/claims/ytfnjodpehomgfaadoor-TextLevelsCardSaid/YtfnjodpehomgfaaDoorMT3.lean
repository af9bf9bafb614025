/- own work: TyC, TyD, ShK, TyE, TyF, TyG, ShI -/
import Derived.Test.YtfnjodpehomgfaaDoorMT2
namespace Go.Proofs.YtfnjodpehomgfaaDoor
open Go Go.Sh Go.Tx
set_option linter.unusedVariables false
set_option linter.unusedSimpArgs false
set_option linter.unusedSectionVars false
attribute [local irreducible] Blk Ext RdS
theorem byte_lt (c : UInt8) : c.toNat < 256 := UInt8.toNat_lt c
theorem letter_c (c : UInt8) (w : World) : Cl Tryd.prog 44 #[.int .i32 (c.toNat : Int)] w (fun v w' => v = .bool (letter c) ∧ Ext w w') (fun _ _ => False) := by
  refine calls_ex (args := [.int .i32 (c.toNat : Int)]) T.ok Tryd.func44 rfl rfl rfl rfl ?_
  have H := Hp.begin nw w
  repeat' ((conv => whnf); first | (((with_reducible show Gd _ _ _); first | with_reducible refine Gd.t ?_ | with_reducible refine Gd.f ?_ | with_reducible refine Gd.dec (fun _ => ?_) (fun _ => ?_) | with_reducible refine Gd.beq (fun _ => ?_) (fun _ => ?_) | with_reducible refine Gd.bne (fun _ => ?_) (fun _ => ?_) | with_reducible refine Gd.not ?_ | refine Gd.t ?_ | refine Gd.f ?_ | with_reducible refine Gd.var (fun _ => ?_) (fun _ => ?_)) <;> first | (exfalso; omega) | skip) | with_reducible refine Sq.mk ?_ | ((with_reducible show Ld1 _ _ _); first | refine Ld1.h H ?_ | refine Ld1.rF ?_ | refine Ld1.r ?_) | ((with_reducible show Ld _ _ _ _); first | refine Ld.h H ?_ | refine Ld.r ?_) | ((with_reducible show Ix _ _ _ _ _); (first | refine Ix.h ?_ | refine Ix.ha ?_)) | (refine Al.hp H ?_; clear H; intro _ _ H _) | (refine St.h H ?_; clear H; intro _ H))
  all_goals (refine ⟨b_eq ?_, H.e⟩; rw [Bool.eq_iff_iff]; simp only [letter, decide_eq_true_eq, iff_true, true_iff, Bool.false_eq_true, false_iff]; omega)
theorem digit_c (c : UInt8) (w : World) : Cl Tryd.prog 45 #[.int .i32 (c.toNat : Int)] w (fun v w' => v = .bool (digit c) ∧ Ext w w') (fun _ _ => False) := by
  refine calls_ex (args := [.int .i32 (c.toNat : Int)]) T.ok Tryd.func45 rfl rfl rfl rfl ?_
  have H := Hp.begin nw w
  repeat' ((conv => whnf); first | (((with_reducible show Gd _ _ _); first | with_reducible refine Gd.t ?_ | with_reducible refine Gd.f ?_ | with_reducible refine Gd.dec (fun _ => ?_) (fun _ => ?_) | with_reducible refine Gd.beq (fun _ => ?_) (fun _ => ?_) | with_reducible refine Gd.bne (fun _ => ?_) (fun _ => ?_) | with_reducible refine Gd.not ?_ | refine Gd.t ?_ | refine Gd.f ?_ | with_reducible refine Gd.var (fun _ => ?_) (fun _ => ?_)) <;> first | (exfalso; omega) | skip) | with_reducible refine Sq.mk ?_ | ((with_reducible show Ld1 _ _ _); first | refine Ld1.h H ?_ | refine Ld1.rF ?_ | refine Ld1.r ?_) | ((with_reducible show Ld _ _ _ _); first | refine Ld.h H ?_ | refine Ld.r ?_) | ((with_reducible show Ix _ _ _ _ _); (first | refine Ix.h ?_ | refine Ix.ha ?_)) | (refine Al.hp H ?_; clear H; intro _ _ H _) | (refine St.h H ?_; clear H; intro _ H))
  all_goals (refine ⟨b_eq ?_, H.e⟩; rw [Bool.eq_iff_iff]; simp only [digit, decide_eq_true_eq, iff_true, true_iff, Bool.false_eq_true, false_iff]; omega)
/-- the program's tables of words -/
def RdK (w : World) : Prop := RdS (fun b : Bs => [Value.string (bs b)]) 1 w (some ⟨3, 0, none⟩) keywords
theorem contains_step {α : Type} [BEq α] [LawfulBEq α] {l : List α} {i : Nat} {x s : α} (h : l[i]? = some x) : (l.take (i + 1)).contains s = ((l.take i).contains s || x == s) := by
  obtain ⟨h1, h2⟩ := List.getElem?_eq_some_iff.1 h
  rw [List.take_succ_eq_append_getElem h1, h2, Bool.eq_iff_iff, List.contains_iff_mem, Bool.or_eq_true, List.contains_iff_mem, List.mem_append, List.mem_singleton, beq_iff_eq]
  exact ⟨fun h => h.imp id Eq.symm, fun h => h.imp id Eq.symm⟩
theorem keyword_c (s : Bs) (w : World) (hK : RdK w) : Cl Tryd.prog 49 #[.string (bs s)] w (fun v w' => v = .bool (isKw s) ∧ Ext w w') (fun _ _ => False) := by
  refine calls_ex (args := [.string (bs s)]) T.ok Tryd.func49 rfl rfl rfl rfl ?_
  have H := Hp.begin nw w
  repeat' ((conv => whnf); first | (((with_reducible show Gd _ _ _); first | with_reducible refine Gd.t ?_ | with_reducible refine Gd.f ?_ | with_reducible refine Gd.dec (fun _ => ?_) (fun _ => ?_) | with_reducible refine Gd.beq (fun _ => ?_) (fun _ => ?_) | with_reducible refine Gd.bne (fun _ => ?_) (fun _ => ?_) | with_reducible refine Gd.not ?_ | refine Gd.t ?_ | refine Gd.f ?_ | with_reducible refine Gd.var (fun _ => ?_) (fun _ => ?_)) <;> first | (exfalso; omega) | skip) | with_reducible refine Sq.mk ?_ | ((with_reducible show Ld1 _ _ _); first | refine Ld1.h H ?_ | refine Ld1.rF ?_ | refine Ld1.r ?_) | ((with_reducible show Ld _ _ _ _); first | refine Ld.h H ?_ | refine Ld.r ?_) | ((with_reducible show Ix _ _ _ _ _); (first | refine Ix.h ?_ | refine Ix.ha ?_)) | (refine Al.hp H ?_; clear H; intro _ _ H _) | (refine St.h H ?_; clear H; intro _ H))
  (conv => whnf)
  refine Ld.all hK ?_
  repeat' ((conv => whnf); first | (((with_reducible show Gd _ _ _); first | with_reducible refine Gd.t ?_ | with_reducible refine Gd.f ?_ | with_reducible refine Gd.dec (fun _ => ?_) (fun _ => ?_) | with_reducible refine Gd.beq (fun _ => ?_) (fun _ => ?_) | with_reducible refine Gd.bne (fun _ => ?_) (fun _ => ?_) | with_reducible refine Gd.not ?_ | refine Gd.t ?_ | refine Gd.f ?_ | with_reducible refine Gd.var (fun _ => ?_) (fun _ => ?_)) <;> first | (exfalso; omega) | skip) | with_reducible refine Sq.mk ?_ | ((with_reducible show Ld1 _ _ _); first | refine Ld1.h H ?_ | refine Ld1.rF ?_ | refine Ld1.r ?_) | ((with_reducible show Ld _ _ _ _); first | refine Ld.h H ?_ | refine Ld.r ?_) | ((with_reducible show Ix _ _ _ _ _); (first | refine Ix.h ?_ | refine Ix.ha ?_)) | (refine Al.hp H ?_; clear H; intro _ _ H _) | (refine St.h H ?_; clear H; intro _ H))
  refine Lp.g0 T.ok (σ := Nat) (fun i => [(6, .int .i64 (i : Int)), (5, .agg (keywords.map fun b => Value.string (bs b)).toArray), (0, .string (bs s))])
    (fun i w' => i ≤ 15 ∧ (keywords.take i).contains s = false ∧ Hp nw w w' []) (fun i _ => 15 - i) 0 rfl ⟨rfl, rfl, rfl, trivial⟩ ⟨Nat.zero_le _, rfl, H⟩ ?_
  clear H
  rintro i w5 ⟨hi, hc, H⟩
  by_cases hlt : i < 15
  · obtain ⟨x, hx⟩ : ∃ x, keywords[i]? = some x := ⟨_, List.getElem?_eq_getElem (show i < keywords.length from hlt)⟩
    have hst := contains_step (s := s) hx
    repeat' ((conv => whnf); first | (((with_reducible show Gd _ _ _); first | with_reducible refine Gd.t ?_ | with_reducible refine Gd.f ?_ | with_reducible refine Gd.dec (fun _ => ?_) (fun _ => ?_) | with_reducible refine Gd.beq (fun _ => ?_) (fun _ => ?_) | with_reducible refine Gd.bne (fun _ => ?_) (fun _ => ?_) | with_reducible refine Gd.not ?_ | refine Gd.t ?_ | refine Gd.f ?_ | with_reducible refine Gd.var (fun _ => ?_) (fun _ => ?_)) <;> first | (exfalso; omega) | skip) | with_reducible refine Sq.mk ?_ | ((with_reducible show Ld1 _ _ _); first | refine Ld1.h H ?_ | refine Ld1.rF ?_ | refine Ld1.r ?_) | ((with_reducible show Ld _ _ _ _); first | refine Ld.h H ?_ | refine Ld.r ?_) | ((with_reducible show Ix _ _ _ _ _); (first | refine Ix.h ?_ | refine Ix.ha ?_)) | (refine Al.hp H ?_; clear H; intro _ _ H _) | (refine St.h H ?_; clear H; intro _ H))
    refine Sm.arrix T.ok (v := .string (bs x)) (by simp [hx]) hlt ?_
    repeat' ((conv => whnf); first | (((with_reducible show Gd _ _ _); first | with_reducible refine Gd.t ?_ | with_reducible refine Gd.f ?_ | with_reducible refine Gd.dec (fun _ => ?_) (fun _ => ?_) | with_reducible refine Gd.beq (fun _ => ?_) (fun _ => ?_) | with_reducible refine Gd.bne (fun _ => ?_) (fun _ => ?_) | with_reducible refine Gd.not ?_ | refine Gd.t ?_ | refine Gd.f ?_ | with_reducible refine Gd.var (fun _ => ?_) (fun _ => ?_)) <;> first | (exfalso; omega) | skip) | with_reducible refine Sq.mk ?_ | ((with_reducible show Ld1 _ _ _); first | refine Ld1.h H ?_ | refine Ld1.rF ?_ | refine Ld1.r ?_) | ((with_reducible show Ld _ _ _ _); first | refine Ld.h H ?_ | refine Ld.r ?_) | ((with_reducible show Ix _ _ _ _ _); (first | refine Ix.h ?_ | refine Ix.ha ?_)) | (refine Al.hp H ?_; clear H; intro _ _ H _) | (refine St.h H ?_; clear H; intro _ H))
    · rename_i hb
      rw [bs_eq] at hb
      refine ⟨b_eq ?_, H.e⟩
      have hm : s ∈ keywords := by rw [← of_decide_eq_true hb]; exact List.mem_of_getElem? hx
      exact (List.contains_iff_mem.2 hm).symm
    · rename_i hb
      rw [bs_eq] at hb
      refine ⟨i + 1, ⟨at_int (m := ((i + 1 : Nat) : Int)) rfl (w64 (by simp) (by omega) (by omega)), rfl, rfl, trivial⟩, rfl, ⟨by omega, ?_, H⟩, by omega⟩
      rw [hst, hc, Bool.false_or]
      exact beq_eq_false_iff_ne.2 (of_decide_eq_false hb)
  · have hi : i = 15 := by omega
    subst hi
    repeat' ((conv => whnf); first | (((with_reducible show Gd _ _ _); first | with_reducible refine Gd.t ?_ | with_reducible refine Gd.f ?_ | with_reducible refine Gd.dec (fun _ => ?_) (fun _ => ?_) | with_reducible refine Gd.beq (fun _ => ?_) (fun _ => ?_) | with_reducible refine Gd.bne (fun _ => ?_) (fun _ => ?_) | with_reducible refine Gd.not ?_ | refine Gd.t ?_ | refine Gd.f ?_ | with_reducible refine Gd.var (fun _ => ?_) (fun _ => ?_)) <;> first | (exfalso; omega) | skip) | with_reducible refine Sq.mk ?_ | ((with_reducible show Ld1 _ _ _); first | refine Ld1.h H ?_ | refine Ld1.rF ?_ | refine Ld1.r ?_) | ((with_reducible show Ld _ _ _ _); first | refine Ld.h H ?_ | refine Ld.r ?_) | ((with_reducible show Ix _ _ _ _ _); (first | refine Ix.h ?_ | refine Ix.ha ?_)) | (refine Al.hp H ?_; clear H; intro _ _ H _) | (refine St.h H ?_; clear H; intro _ H))
    refine ⟨b_eq ?_, H.e⟩
    exact hc.symm
theorem skp_f {l : Bs} {p : Nat} {c : UInt8} (h : l[p]? = some c) : skp false (l.drop p) p = if Tx.blank c = true then skp false (l.drop (p + 1)) (p + 1) else if c.toNat = 47 ∧ (l[p + 1]?).map UInt8.toNat = some 47 then skp true (l.drop (p + 1)) (p + 1) else p := by
  obtain ⟨h1, h2⟩ := List.getElem?_eq_some_iff.1 h
  rw [List.drop_eq_getElem_cons h1, h2]
  simp only [skp, List.head?_drop]
theorem skp_t {l : Bs} {p : Nat} {c : UInt8} (h : l[p]? = some c) : skp true (l.drop p) p = if c.toNat = 10 then skp false (l.drop (p + 1)) (p + 1) else skp true (l.drop (p + 1)) (p + 1) := by
  obtain ⟨h1, h2⟩ := List.getElem?_eq_some_iff.1 h
  rw [List.drop_eq_getElem_cons h1, h2]
  simp only [skp]
theorem skp_end (b : Bool) (l : Bs) {p : Nat} (h : l.length ≤ p) : skp b (l.drop p) p = p := by
  rw [List.drop_of_length_le h]
  cases b <;> rfl
theorem skip_c (l : Bs) (p0 : Nat) (w : World) (hp : p0 ≤ l.length) (hl : l.length ≤ 1000000) :
    Cl Tryd.prog 43 #[.string (bs l), .int .i64 (p0 : Int)] w (fun v w' => v = .int .i64 (skp false (l.drop p0) p0 : Int) ∧ Ext w w') (fun _ _ => False) := by
  refine calls_ex (args := [.string (bs l), .int .i64 (p0 : Int)]) T.ok Tryd.func43 rfl rfl rfl rfl ?_
  have H := Hp.begin nw w
  have hsz := bs_size l
  repeat' ((conv => whnf); first | (((with_reducible show Gd _ _ _); first | with_reducible refine Gd.t ?_ | with_reducible refine Gd.f ?_ | with_reducible refine Gd.dec (fun _ => ?_) (fun _ => ?_) | with_reducible refine Gd.beq (fun _ => ?_) (fun _ => ?_) | with_reducible refine Gd.bne (fun _ => ?_) (fun _ => ?_) | with_reducible refine Gd.not ?_ | refine Gd.t ?_ | refine Gd.f ?_ | with_reducible refine Gd.var (fun _ => ?_) (fun _ => ?_)) <;> first | (exfalso; omega) | skip) | with_reducible refine Sq.mk ?_ | ((with_reducible show Ld1 _ _ _); first | refine Ld1.h H ?_ | refine Ld1.rF ?_ | refine Ld1.r ?_) | ((with_reducible show Ld _ _ _ _); first | refine Ld.h H ?_ | refine Ld.r ?_) | ((with_reducible show Ix _ _ _ _ _); (first | refine Ix.h ?_ | refine Ix.ha ?_)) | (refine Al.hp H ?_; clear H; intro _ _ H _) | (refine St.h H ?_; clear H; intro _ H))
  refine Lp.g0 T.ok (σ := Nat) (fun p => [(1, .int .i64 (p : Int)), (0, .string (bs l))])
    (fun p w' => p ≤ l.length ∧ skp false (l.drop p) p = skp false (l.drop p0) p0 ∧ Hp nw w w' []) (fun p _ => l.length - p) p0 rfl ⟨rfl, rfl, trivial⟩ ⟨hp, rfl, H⟩ ?_
  clear H
  rintro p w5 ⟨hpl, hsk, H⟩
  by_cases hlt : p < l.length
  case neg =>
    repeat' ((conv => whnf); first | (((with_reducible show Gd _ _ _); first | with_reducible refine Gd.t ?_ | with_reducible refine Gd.f ?_ | with_reducible refine Gd.dec (fun _ => ?_) (fun _ => ?_) | with_reducible refine Gd.beq (fun _ => ?_) (fun _ => ?_) | with_reducible refine Gd.bne (fun _ => ?_) (fun _ => ?_) | with_reducible refine Gd.not ?_ | refine Gd.t ?_ | refine Gd.f ?_ | with_reducible refine Gd.var (fun _ => ?_) (fun _ => ?_)) <;> first | (exfalso; omega) | skip) | with_reducible refine Sq.mk ?_ | ((with_reducible show Ld1 _ _ _); first | refine Ld1.h H ?_ | refine Ld1.rF ?_ | refine Ld1.r ?_) | ((with_reducible show Ld _ _ _ _); first | refine Ld.h H ?_ | refine Ld.r ?_) | ((with_reducible show Ix _ _ _ _ _); (first | refine Ix.h ?_ | refine Ix.ha ?_)) | (refine Al.hp H ?_; clear H; intro _ _ H _) | (refine St.h H ?_; clear H; intro _ H))
    all_goals first | (exfalso; omega) | skip
    refine ⟨i_eq ?_, H.e⟩
    rw [← hsk, skp_end false l (by omega)]
  obtain ⟨c, hc⟩ : ∃ c, l[p]? = some c := ⟨_, List.getElem?_eq_getElem hlt⟩
  have hw1 : IntKind.i64.wrap ((p : Int) + 1) = ((p + 1 : Nat) : Int) := w64 rfl (by omega) (by omega)
  have hsf := skp_f hc
  by_cases hbl : Tx.blank c = true
  · rw [if_pos hbl, hsk] at hsf
    have hbl2 := hbl
    simp only [Tx.blank, decide_eq_true_eq] at hbl2
    repeat' ((conv => whnf); first | ((with_reducible show Gd (bs _ == _) _ _); first | refine Gd.sY (by assumption) ?_ | refine Gd.sk (by assumption) ?_ | refine Gd.sN (by assumption) ?_) | ((conv => whnf); first | (((with_reducible show Gd _ _ _); first | with_reducible refine Gd.t ?_ | with_reducible refine Gd.f ?_ | with_reducible refine Gd.dec (fun _ => ?_) (fun _ => ?_) | with_reducible refine Gd.beq (fun _ => ?_) (fun _ => ?_) | with_reducible refine Gd.bne (fun _ => ?_) (fun _ => ?_) | with_reducible refine Gd.not ?_ | refine Gd.t ?_ | refine Gd.f ?_ | with_reducible refine Gd.var (fun _ => ?_) (fun _ => ?_)) <;> first | (exfalso; omega) | skip) | with_reducible refine Sq.mk ?_ | ((with_reducible show Ld1 _ _ _); first | refine Ld1.h H ?_ | refine Ld1.rF ?_ | refine Ld1.r ?_) | ((with_reducible show Ld _ _ _ _); first | refine Ld.h H ?_ | refine Ld.r ?_) | ((with_reducible show Ix _ _ _ _ _); (first | refine Ix.h ?_ | refine Ix.ha ?_)) | (refine Al.hp H ?_; clear H; intro _ _ H _) | (refine St.h H ?_; clear H; intro _ H)) | refine Sm.strix T.ok ?_)
    all_goals first | (exfalso; omega) | skip
    all_goals exact ⟨p + 1, ⟨at_int rfl hw1, rfl, trivial⟩, rfl, ⟨by omega, hsf.symm, H⟩, by omega⟩
  · rw [if_neg hbl, hsk] at hsf
    have hbl2 := hbl
    simp only [Tx.blank, decide_eq_true_eq] at hbl2
    by_cases h47 : c.toNat = 47 ∧ (l[p + 1]?).map UInt8.toNat = some 47
    · rw [if_pos h47] at hsf
      obtain ⟨d, hd, hd2⟩ : ∃ d, l[p + 1]? = some d ∧ d.toNat = 47 := by
        have h2 := h47.2
        cases hx : l[p + 1]? with
        | none => rw [hx] at h2; simp at h2
        | some d => rw [hx] at h2; exact ⟨d, rfl, by simpa using h2⟩
      have hd1 := (List.getElem?_eq_some_iff.1 hd).1
      have h471 := h47.1
      repeat' ((conv => whnf); first | ((with_reducible show Gd (bs _ == _) _ _); first | refine Gd.sY (by assumption) ?_ | refine Gd.sk (by assumption) ?_ | refine Gd.sN (by assumption) ?_) | ((conv => whnf); first | (((with_reducible show Gd _ _ _); first | with_reducible refine Gd.t ?_ | with_reducible refine Gd.f ?_ | with_reducible refine Gd.dec (fun _ => ?_) (fun _ => ?_) | with_reducible refine Gd.beq (fun _ => ?_) (fun _ => ?_) | with_reducible refine Gd.bne (fun _ => ?_) (fun _ => ?_) | with_reducible refine Gd.not ?_ | refine Gd.t ?_ | refine Gd.f ?_ | with_reducible refine Gd.var (fun _ => ?_) (fun _ => ?_)) <;> first | (exfalso; omega) | skip) | with_reducible refine Sq.mk ?_ | ((with_reducible show Ld1 _ _ _); first | refine Ld1.h H ?_ | refine Ld1.rF ?_ | refine Ld1.r ?_) | ((with_reducible show Ld _ _ _ _); first | refine Ld.h H ?_ | refine Ld.r ?_) | ((with_reducible show Ix _ _ _ _ _); (first | refine Ix.h ?_ | refine Ix.ha ?_)) | (refine Al.hp H ?_; clear H; intro _ _ H _) | (refine St.h H ?_; clear H; intro _ H)) | refine Sm.strix T.ok ?_)
      all_goals first | (exfalso; omega) | skip
      have hst := skp_t hc
      rw [if_neg (by omega)] at hst
      refine Lp.g0 T.ok (σ := Nat) (fun q => [(1, .int .i64 (q : Int)), (0, .string (bs l))])
        (fun q w' => p ≤ q ∧ q ≤ l.length ∧ skp true (l.drop q) q = skp false (l.drop p0) p0 ∧ Hp nw w w' []) (fun q _ => l.length - q) p rfl ⟨rfl, rfl, trivial⟩ ⟨Nat.le_refl _, hpl, by rw [hst, ← hsf], H⟩ ?_
      clear H
      rintro q w6 ⟨hpq, hql, hsq, H⟩
      have hout : (q = l.length ∨ ∃ e, l[q]? = some e ∧ e.toNat = 10) → p < q ∧ skp false (l.drop q) q = skp false (l.drop p0) p0 := fun h => by
        rcases h with h | ⟨e, he, he2⟩
        · refine ⟨by omega, ?_⟩
          rw [← hsq, skp_end true l (by omega), skp_end false l (by omega)]
        · refine ⟨?_, ?_⟩
          · rcases Nat.lt_or_eq_of_le hpq with h | rfl
            · exact h
            · rw [hc] at he
              simp only [Option.some.injEq] at he
              subst he
              omega
          · rw [← hsq, skp_t he, if_pos he2, skp_f he, if_pos (by simp only [Tx.blank, decide_eq_true_eq]; omega)]
      by_cases hqlt : q < l.length
      · obtain ⟨e, he⟩ : ∃ e, l[q]? = some e := ⟨_, List.getElem?_eq_getElem hqlt⟩
        have hwq : IntKind.i64.wrap ((q : Int) + 1) = ((q + 1 : Nat) : Int) := w64 rfl (by omega) (by omega)
        by_cases he2 : e.toNat = 10
        · obtain ⟨h1, h2⟩ := hout (.inr ⟨e, he, he2⟩)
          repeat' ((conv => whnf); first | ((with_reducible show Gd (bs _ == _) _ _); first | refine Gd.sY (by assumption) ?_ | refine Gd.sk (by assumption) ?_ | refine Gd.sN (by assumption) ?_) | ((conv => whnf); first | (((with_reducible show Gd _ _ _); first | with_reducible refine Gd.t ?_ | with_reducible refine Gd.f ?_ | with_reducible refine Gd.dec (fun _ => ?_) (fun _ => ?_) | with_reducible refine Gd.beq (fun _ => ?_) (fun _ => ?_) | with_reducible refine Gd.bne (fun _ => ?_) (fun _ => ?_) | with_reducible refine Gd.not ?_ | refine Gd.t ?_ | refine Gd.f ?_ | with_reducible refine Gd.var (fun _ => ?_) (fun _ => ?_)) <;> first | (exfalso; omega) | skip) | with_reducible refine Sq.mk ?_ | ((with_reducible show Ld1 _ _ _); first | refine Ld1.h H ?_ | refine Ld1.rF ?_ | refine Ld1.r ?_) | ((with_reducible show Ld _ _ _ _); first | refine Ld.h H ?_ | refine Ld.r ?_) | ((with_reducible show Ix _ _ _ _ _); (first | refine Ix.h ?_ | refine Ix.ha ?_)) | (refine Al.hp H ?_; clear H; intro _ _ H _) | (refine St.h H ?_; clear H; intro _ H)) | refine Sm.strix T.ok ?_)
          all_goals first | (exfalso; omega) | skip
          exact ⟨q, ⟨rfl, rfl, trivial⟩, rfl, ⟨hql, h2, H⟩, by omega⟩
        · have hsq2 := skp_t he
          rw [if_neg he2] at hsq2
          repeat' ((conv => whnf); first | ((with_reducible show Gd (bs _ == _) _ _); first | refine Gd.sY (by assumption) ?_ | refine Gd.sk (by assumption) ?_ | refine Gd.sN (by assumption) ?_) | ((conv => whnf); first | (((with_reducible show Gd _ _ _); first | with_reducible refine Gd.t ?_ | with_reducible refine Gd.f ?_ | with_reducible refine Gd.dec (fun _ => ?_) (fun _ => ?_) | with_reducible refine Gd.beq (fun _ => ?_) (fun _ => ?_) | with_reducible refine Gd.bne (fun _ => ?_) (fun _ => ?_) | with_reducible refine Gd.not ?_ | refine Gd.t ?_ | refine Gd.f ?_ | with_reducible refine Gd.var (fun _ => ?_) (fun _ => ?_)) <;> first | (exfalso; omega) | skip) | with_reducible refine Sq.mk ?_ | ((with_reducible show Ld1 _ _ _); first | refine Ld1.h H ?_ | refine Ld1.rF ?_ | refine Ld1.r ?_) | ((with_reducible show Ld _ _ _ _); first | refine Ld.h H ?_ | refine Ld.r ?_) | ((with_reducible show Ix _ _ _ _ _); (first | refine Ix.h ?_ | refine Ix.ha ?_)) | (refine Al.hp H ?_; clear H; intro _ _ H _) | (refine St.h H ?_; clear H; intro _ H)) | refine Sm.strix T.ok ?_)
          all_goals first | (exfalso; omega) | skip
          exact ⟨q + 1, ⟨at_int rfl hwq, rfl, trivial⟩, rfl, ⟨by omega, by omega, by rw [← hsq2, hsq], H⟩, by omega⟩
      · obtain ⟨h1, h2⟩ := hout (.inl (by omega))
        repeat' ((conv => whnf); first | ((with_reducible show Gd (bs _ == _) _ _); first | refine Gd.sY (by assumption) ?_ | refine Gd.sk (by assumption) ?_ | refine Gd.sN (by assumption) ?_) | ((conv => whnf); first | (((with_reducible show Gd _ _ _); first | with_reducible refine Gd.t ?_ | with_reducible refine Gd.f ?_ | with_reducible refine Gd.dec (fun _ => ?_) (fun _ => ?_) | with_reducible refine Gd.beq (fun _ => ?_) (fun _ => ?_) | with_reducible refine Gd.bne (fun _ => ?_) (fun _ => ?_) | with_reducible refine Gd.not ?_ | refine Gd.t ?_ | refine Gd.f ?_ | with_reducible refine Gd.var (fun _ => ?_) (fun _ => ?_)) <;> first | (exfalso; omega) | skip) | with_reducible refine Sq.mk ?_ | ((with_reducible show Ld1 _ _ _); first | refine Ld1.h H ?_ | refine Ld1.rF ?_ | refine Ld1.r ?_) | ((with_reducible show Ld _ _ _ _); first | refine Ld.h H ?_ | refine Ld.r ?_) | ((with_reducible show Ix _ _ _ _ _); (first | refine Ix.h ?_ | refine Ix.ha ?_)) | (refine Al.hp H ?_; clear H; intro _ _ H _) | (refine St.h H ?_; clear H; intro _ H)) | refine Sm.strix T.ok ?_)
        all_goals first | (exfalso; omega) | skip
        exact ⟨q, ⟨rfl, rfl, trivial⟩, rfl, ⟨hql, h2, H⟩, by omega⟩
    · rw [if_neg h47] at hsf
      have hfin : ∀ w', Ext w w' → Value.int .i64 (p : Int) = .int .i64 (skp false (l.drop p0) p0 : Int) ∧ Ext w w' := fun w' e => ⟨by rw [hsf], e⟩
      by_cases h471 : c.toNat = 47
      · by_cases hp1 : p + 1 < l.length
        · obtain ⟨d, hd⟩ : ∃ d, l[p + 1]? = some d := ⟨_, List.getElem?_eq_getElem hp1⟩
          have hd2 : d.toNat ≠ 47 := fun e => h47 ⟨h471, by rw [hd]; simpa using e⟩
          repeat' ((conv => whnf); first | ((with_reducible show Gd (bs _ == _) _ _); first | refine Gd.sY (by assumption) ?_ | refine Gd.sk (by assumption) ?_ | refine Gd.sN (by assumption) ?_) | ((conv => whnf); first | (((with_reducible show Gd _ _ _); first | with_reducible refine Gd.t ?_ | with_reducible refine Gd.f ?_ | with_reducible refine Gd.dec (fun _ => ?_) (fun _ => ?_) | with_reducible refine Gd.beq (fun _ => ?_) (fun _ => ?_) | with_reducible refine Gd.bne (fun _ => ?_) (fun _ => ?_) | with_reducible refine Gd.not ?_ | refine Gd.t ?_ | refine Gd.f ?_ | with_reducible refine Gd.var (fun _ => ?_) (fun _ => ?_)) <;> first | (exfalso; omega) | skip) | with_reducible refine Sq.mk ?_ | ((with_reducible show Ld1 _ _ _); first | refine Ld1.h H ?_ | refine Ld1.rF ?_ | refine Ld1.r ?_) | ((with_reducible show Ld _ _ _ _); first | refine Ld.h H ?_ | refine Ld.r ?_) | ((with_reducible show Ix _ _ _ _ _); (first | refine Ix.h ?_ | refine Ix.ha ?_)) | (refine Al.hp H ?_; clear H; intro _ _ H _) | (refine St.h H ?_; clear H; intro _ H)) | refine Sm.strix T.ok ?_)
          all_goals first | (exfalso; omega) | skip
          all_goals exact hfin _ H.e
        · repeat' ((conv => whnf); first | ((with_reducible show Gd (bs _ == _) _ _); first | refine Gd.sY (by assumption) ?_ | refine Gd.sk (by assumption) ?_ | refine Gd.sN (by assumption) ?_) | ((conv => whnf); first | (((with_reducible show Gd _ _ _); first | with_reducible refine Gd.t ?_ | with_reducible refine Gd.f ?_ | with_reducible refine Gd.dec (fun _ => ?_) (fun _ => ?_) | with_reducible refine Gd.beq (fun _ => ?_) (fun _ => ?_) | with_reducible refine Gd.bne (fun _ => ?_) (fun _ => ?_) | with_reducible refine Gd.not ?_ | refine Gd.t ?_ | refine Gd.f ?_ | with_reducible refine Gd.var (fun _ => ?_) (fun _ => ?_)) <;> first | (exfalso; omega) | skip) | with_reducible refine Sq.mk ?_ | ((with_reducible show Ld1 _ _ _); first | refine Ld1.h H ?_ | refine Ld1.rF ?_ | refine Ld1.r ?_) | ((with_reducible show Ld _ _ _ _); first | refine Ld.h H ?_ | refine Ld.r ?_) | ((with_reducible show Ix _ _ _ _ _); (first | refine Ix.h ?_ | refine Ix.ha ?_)) | (refine Al.hp H ?_; clear H; intro _ _ H _) | (refine St.h H ?_; clear H; intro _ H)) | refine Sm.strix T.ok ?_)
          all_goals first | (exfalso; omega) | skip
          all_goals exact hfin _ H.e
      · repeat' ((conv => whnf); first | ((with_reducible show Gd (bs _ == _) _ _); first | refine Gd.sY (by assumption) ?_ | refine Gd.sk (by assumption) ?_ | refine Gd.sN (by assumption) ?_) | ((conv => whnf); first | (((with_reducible show Gd _ _ _); first | with_reducible refine Gd.t ?_ | with_reducible refine Gd.f ?_ | with_reducible refine Gd.dec (fun _ => ?_) (fun _ => ?_) | with_reducible refine Gd.beq (fun _ => ?_) (fun _ => ?_) | with_reducible refine Gd.bne (fun _ => ?_) (fun _ => ?_) | with_reducible refine Gd.not ?_ | refine Gd.t ?_ | refine Gd.f ?_ | with_reducible refine Gd.var (fun _ => ?_) (fun _ => ?_)) <;> first | (exfalso; omega) | skip) | with_reducible refine Sq.mk ?_ | ((with_reducible show Ld1 _ _ _); first | refine Ld1.h H ?_ | refine Ld1.rF ?_ | refine Ld1.r ?_) | ((with_reducible show Ld _ _ _ _); first | refine Ld.h H ?_ | refine Ld.r ?_) | ((with_reducible show Ix _ _ _ _ _); (first | refine Ix.h ?_ | refine Ix.ha ?_)) | (refine Al.hp H ?_; clear H; intro _ _ H _) | (refine St.h H ?_; clear H; intro _ H)) | refine Sm.strix T.ok ?_)
        all_goals first | (exfalso; omega) | skip
        all_goals exact hfin _ H.e
end Go.Proofs.YtfnjodpehomgfaaDoor
namespace Go.Proofs.YtfnjodpehomgfaaDoor
open Go Go.Sh Go.Tx
set_option linter.unusedVariables false
set_option linter.unusedSimpArgs false
set_option linter.unusedSectionVars false
attribute [local irreducible] Blk Ext RdS
def tkV (t : Tk) : Value := .agg (wordCs t).toArray
def AllDig (s : Bs) : Prop := ∀ c ∈ s, digit c = true
/-- the tables that reading looks at, and what ops.Parse makes of digits -/
structure Tb (w : World) : Prop where
  kw : RdK w
  sg : RdS (fun b : Bs => [Value.string (bs b)]) 1 w (some ⟨1, 0, none⟩) signs
  nm : RdS (fun b : Bs => [Value.string (bs b)]) 1 w (some ⟨7, 0, none⟩) opNames
  lv : ∃ As : List (Option Addr × Nat), As.length = 8 ∧ RdS (fun x : Option Addr × Nat × Nat => [Value.slice x.1 x.2.1 x.2.2]) 1 w (some ⟨6, 0, none⟩) ((As.zip levels).map fun x => (x.1.1, x.2.length, x.1.2)) ∧ ∀ x ∈ As.zip levels, RdS (fun b : Bs => [Value.string (bs b)]) 1 w x.1.1 x.2
  pn : ∀ (s : Bs) (w' : World), Ext w w' → AllDig s → s ≠ [] → s ≠ [48] → Cl Tryd.prog 60 #[.string (bs (45 :: s))] w' (fun v w'' => ∃ n e, v = .tuple #[.int .i64 n, .int .i64 e] ∧ (negOf s = some n ∧ e = 0 ∨ negOf s = none ∧ n = 0 ∧ e ≠ 0) ∧ Ext w' w'') (fun _ _ => False)
theorem Tb.ext {w w' : World} (h : Tb w) (e : Ext w w') : Tb w' := by
  obtain ⟨As, h1, h2, h3⟩ := h.lv
  exact ⟨RdS.from e h.kw, RdS.from e h.sg, RdS.from e h.nm, ⟨As, h1, RdS.from e h2, fun x hx => RdS.from e (h3 x hx)⟩, fun s w'' e' => h.pn s w'' (Ext.trans e e')⟩
theorem named_c (s : Bs) (p : Nat) (w : World) (hT : Tb w) (hl : s.length ≤ 1000000) :
    Cl Tryd.prog 46 #[.string (bs s), .int .i64 (p : Int)] w (fun v w' => v = tkV (named s p) ∧ Ext w w') (fun _ _ => False) := by
  refine calls_ex (args := [.string (bs s), .int .i64 (p : Int)]) T.ok Tryd.func46 rfl rfl rfl rfl ?_
  have H := Hp.begin nw w
  have hsz := bs_size s
  refine Sq.mk ?_
  ((conv => whnf); refine Al.hp H ?_; clear H; intro p4 _ H _)
  repeat' ((conv => whnf); first | (((with_reducible show Gd _ _ _); first | with_reducible refine Gd.t ?_ | with_reducible refine Gd.f ?_ | with_reducible refine Gd.dec (fun _ => ?_) (fun _ => ?_) | with_reducible refine Gd.beq (fun _ => ?_) (fun _ => ?_) | with_reducible refine Gd.bne (fun _ => ?_) (fun _ => ?_) | with_reducible refine Gd.not ?_ | refine Gd.t ?_ | refine Gd.f ?_ | with_reducible refine Gd.var (fun _ => ?_) (fun _ => ?_)) <;> first | (exfalso; omega) | skip) | with_reducible refine Sq.mk ?_ | ((with_reducible show Ld1 _ _ _); first | refine Ld1.h H ?_ | refine Ld1.rF ?_ | refine Ld1.r ?_) | ((with_reducible show Ld _ _ _ _); first | refine Ld.h H ?_ | refine Ld.r ?_) | ((with_reducible show Ix _ _ _ _ _); (first | refine Ix.h ?_ | refine Ix.ha ?_)) | (refine Al.hp H ?_; clear H; intro _ _ H _) | (refine St.h H ?_; clear H; intro _ H))
  (((conv => whnf); refine Cl.mk (keyword_c s _ (hT.ext H.e).kw) ?_); rintro _ _ ⟨rfl, hx⟩; replace H := H.ext hx; clear hx)
  by_cases hk : isKw s = true
  · rw [hk]
    repeat' ((conv => whnf); first | (((with_reducible show Gd _ _ _); first | with_reducible refine Gd.t ?_ | with_reducible refine Gd.f ?_ | with_reducible refine Gd.dec (fun _ => ?_) (fun _ => ?_) | with_reducible refine Gd.beq (fun _ => ?_) (fun _ => ?_) | with_reducible refine Gd.bne (fun _ => ?_) (fun _ => ?_) | with_reducible refine Gd.not ?_ | refine Gd.t ?_ | refine Gd.f ?_ | with_reducible refine Gd.var (fun _ => ?_) (fun _ => ?_)) <;> first | (exfalso; omega) | skip) | with_reducible refine Sq.mk ?_ | ((with_reducible show Ld1 _ _ _); first | refine Ld1.h H ?_ | refine Ld1.rF ?_ | refine Ld1.r ?_) | ((with_reducible show Ld _ _ _ _); first | refine Ld.h H ?_ | refine Ld.r ?_) | ((with_reducible show Ix _ _ _ _ _); (first | refine Ix.h ?_ | refine Ix.ha ?_)) | (refine Al.hp H ?_; clear H; intro _ _ H _) | (refine St.h H ?_; clear H; intro _ H))
    refine ⟨?_, H.e⟩
    unfold named
    rw [if_pos hk]; rfl
  · rw [Bool.eq_false_iff.2 hk]
    unfold named
    rw [if_neg hk]
    repeat' ((conv => whnf); first | (((with_reducible show Gd _ _ _); first | with_reducible refine Gd.t ?_ | with_reducible refine Gd.f ?_ | with_reducible refine Gd.dec (fun _ => ?_) (fun _ => ?_) | with_reducible refine Gd.beq (fun _ => ?_) (fun _ => ?_) | with_reducible refine Gd.bne (fun _ => ?_) (fun _ => ?_) | with_reducible refine Gd.not ?_ | refine Gd.t ?_ | refine Gd.f ?_ | with_reducible refine Gd.var (fun _ => ?_) (fun _ => ?_)) <;> first | (exfalso; omega) | skip) | with_reducible refine Sq.mk ?_ | ((with_reducible show Ld1 _ _ _); first | refine Ld1.h H ?_ | refine Ld1.rF ?_ | refine Ld1.r ?_) | ((with_reducible show Ld _ _ _ _); first | refine Ld.h H ?_ | refine Ld.r ?_) | ((with_reducible show Ix _ _ _ _ _); (first | refine Ix.h ?_ | refine Ix.ha ?_)) | (refine St.h H ?_; clear H; intro _ H))
    ((conv => whnf); refine Al.hp H ?_; clear H; intro p5 _ H _)
    by_cases h24 : 24 < s.length
    · rw [if_pos h24]
      repeat' ((conv => whnf); first | (((with_reducible show Gd _ _ _); first | with_reducible refine Gd.t ?_ | with_reducible refine Gd.f ?_ | with_reducible refine Gd.dec (fun _ => ?_) (fun _ => ?_) | with_reducible refine Gd.beq (fun _ => ?_) (fun _ => ?_) | with_reducible refine Gd.bne (fun _ => ?_) (fun _ => ?_) | with_reducible refine Gd.not ?_ | refine Gd.t ?_ | refine Gd.f ?_ | with_reducible refine Gd.var (fun _ => ?_) (fun _ => ?_)) <;> first | (exfalso; omega) | skip) | with_reducible refine Sq.mk ?_ | ((with_reducible show Ld1 _ _ _); first | refine Ld1.h H ?_ | refine Ld1.rF ?_ | refine Ld1.r ?_) | ((with_reducible show Ld _ _ _ _); first | refine Ld.h H ?_ | refine Ld.r ?_) | ((with_reducible show Ix _ _ _ _ _); (first | refine Ix.h ?_ | refine Ix.ha ?_)) | (refine Al.hp H ?_; clear H; intro _ _ H _) | (refine St.h H ?_; clear H; intro _ H))
      all_goals first | (exfalso; omega) | skip
      exact ⟨rfl, H.e⟩
    · rw [if_neg h24]
      repeat' ((conv => whnf); first | (((with_reducible show Gd _ _ _); first | with_reducible refine Gd.t ?_ | with_reducible refine Gd.f ?_ | with_reducible refine Gd.dec (fun _ => ?_) (fun _ => ?_) | with_reducible refine Gd.beq (fun _ => ?_) (fun _ => ?_) | with_reducible refine Gd.bne (fun _ => ?_) (fun _ => ?_) | with_reducible refine Gd.not ?_ | refine Gd.t ?_ | refine Gd.f ?_ | with_reducible refine Gd.var (fun _ => ?_) (fun _ => ?_)) <;> first | (exfalso; omega) | skip) | with_reducible refine Sq.mk ?_ | ((with_reducible show Ld1 _ _ _); first | refine Ld1.h H ?_ | refine Ld1.rF ?_ | refine Ld1.r ?_) | ((with_reducible show Ld _ _ _ _); first | refine Ld.h H ?_ | refine Ld.r ?_) | ((with_reducible show Ix _ _ _ _ _); (first | refine Ix.h ?_ | refine Ix.ha ?_)) | (refine Al.hp H ?_; clear H; intro _ _ H _) | (refine St.h H ?_; clear H; intro _ H))
      all_goals first | (exfalso; omega) | skip
      exact ⟨rfl, H.e⟩
theorem number_c (s : Bs) (p : Nat) (w : World) (hT : Tb w) (hd : AllDig s) (hne : s ≠ []) (hl : s.length ≤ 1000000) :
    Cl Tryd.prog 47 #[.string (bs s), .int .i64 (p : Int)] w (fun v w' => v = tkV (number s p) ∧ Ext w w') (fun _ _ => False) := by
  refine calls_ex (args := [.string (bs s), .int .i64 (p : Int)]) T.ok Tryd.func47 rfl rfl rfl rfl ?_
  have H := Hp.begin nw w
  have hsz := bs_size s
  refine Sq.mk ?_
  ((conv => whnf); refine Al.hp H ?_; clear H; intro p4 _ H _)
  repeat' ((conv => whnf); first | (((with_reducible show Gd _ _ _); first | with_reducible refine Gd.t ?_ | with_reducible refine Gd.f ?_ | with_reducible refine Gd.dec (fun _ => ?_) (fun _ => ?_) | with_reducible refine Gd.beq (fun _ => ?_) (fun _ => ?_) | with_reducible refine Gd.bne (fun _ => ?_) (fun _ => ?_) | with_reducible refine Gd.not ?_ | refine Gd.t ?_ | refine Gd.f ?_ | with_reducible refine Gd.var (fun _ => ?_) (fun _ => ?_)) <;> first | (exfalso; omega) | skip) | with_reducible refine Sq.mk ?_ | ((with_reducible show Ld1 _ _ _); first | refine Ld1.h H ?_ | refine Ld1.rF ?_ | refine Ld1.r ?_) | ((with_reducible show Ld _ _ _ _); first | refine Ld.h H ?_ | refine Ld.r ?_) | ((with_reducible show Ix _ _ _ _ _); (first | refine Ix.h ?_ | refine Ix.ha ?_)) | (refine St.h H ?_; clear H; intro _ H))
  ((conv => whnf); refine Al.hp H ?_; clear H; intro p5 _ H _)
  by_cases h0 : s = [48]
  · repeat' ((conv => whnf); first | ((with_reducible show Gd (bs _ == _) _ _); first | refine Gd.sY (by assumption) ?_ | refine Gd.sk (by assumption) ?_ | refine Gd.sN (by assumption) ?_) | ((conv => whnf); first | (((with_reducible show Gd _ _ _); first | with_reducible refine Gd.t ?_ | with_reducible refine Gd.f ?_ | with_reducible refine Gd.dec (fun _ => ?_) (fun _ => ?_) | with_reducible refine Gd.beq (fun _ => ?_) (fun _ => ?_) | with_reducible refine Gd.bne (fun _ => ?_) (fun _ => ?_) | with_reducible refine Gd.not ?_ | refine Gd.t ?_ | refine Gd.f ?_ | with_reducible refine Gd.var (fun _ => ?_) (fun _ => ?_)) <;> first | (exfalso; omega) | skip) | with_reducible refine Sq.mk ?_ | ((with_reducible show Ld1 _ _ _); first | refine Ld1.h H ?_ | refine Ld1.rF ?_ | refine Ld1.r ?_) | ((with_reducible show Ld _ _ _ _); first | refine Ld.h H ?_ | refine Ld.r ?_) | ((with_reducible show Ix _ _ _ _ _); (first | refine Ix.h ?_ | refine Ix.ha ?_)) | (refine Al.hp H ?_; clear H; intro _ _ H _) | (refine St.h H ?_; clear H; intro _ H)) | refine Sm.strix T.ok ?_)
    refine ⟨?_, H.e⟩
    have hn : negOf s = some 0 := by unfold negOf; rw [if_pos h0]
    unfold number
    rw [hn]; rfl
  · repeat' ((conv => whnf); first | ((with_reducible show Gd (bs _ == _) _ _); first | refine Gd.sY (by assumption) ?_ | refine Gd.sk (by assumption) ?_ | refine Gd.sN (by assumption) ?_) | ((conv => whnf); first | (((with_reducible show Gd _ _ _); first | with_reducible refine Gd.t ?_ | with_reducible refine Gd.f ?_ | with_reducible refine Gd.dec (fun _ => ?_) (fun _ => ?_) | with_reducible refine Gd.beq (fun _ => ?_) (fun _ => ?_) | with_reducible refine Gd.bne (fun _ => ?_) (fun _ => ?_) | with_reducible refine Gd.not ?_ | refine Gd.t ?_ | refine Gd.f ?_ | with_reducible refine Gd.var (fun _ => ?_) (fun _ => ?_)) <;> first | (exfalso; omega) | skip) | with_reducible refine Sq.mk ?_ | ((with_reducible show Ld1 _ _ _); first | refine Ld1.h H ?_ | refine Ld1.rF ?_ | refine Ld1.r ?_) | ((with_reducible show Ld _ _ _ _); first | refine Ld.h H ?_ | refine Ld.r ?_) | ((with_reducible show Ix _ _ _ _ _); (first | refine Ix.h ?_ | refine Ix.ha ?_)) | (refine Al.hp H ?_; clear H; intro _ _ H _) | (refine St.h H ?_; clear H; intro _ H)) | refine Sm.strix T.ok ?_)
    (conv => whnf)
    refine Sm.cat (l := [45]) (m := s) (by rw [List.length_cons, List.length_nil]; omega) ?_
    repeat' ((conv => whnf); first | ((with_reducible show Gd (bs _ == _) _ _); first | refine Gd.sY (by assumption) ?_ | refine Gd.sk (by assumption) ?_ | refine Gd.sN (by assumption) ?_) | ((conv => whnf); first | (((with_reducible show Gd _ _ _); first | with_reducible refine Gd.t ?_ | with_reducible refine Gd.f ?_ | with_reducible refine Gd.dec (fun _ => ?_) (fun _ => ?_) | with_reducible refine Gd.beq (fun _ => ?_) (fun _ => ?_) | with_reducible refine Gd.bne (fun _ => ?_) (fun _ => ?_) | with_reducible refine Gd.not ?_ | refine Gd.t ?_ | refine Gd.f ?_ | with_reducible refine Gd.var (fun _ => ?_) (fun _ => ?_)) <;> first | (exfalso; omega) | skip) | with_reducible refine Sq.mk ?_ | ((with_reducible show Ld1 _ _ _); first | refine Ld1.h H ?_ | refine Ld1.rF ?_ | refine Ld1.r ?_) | ((with_reducible show Ld _ _ _ _); first | refine Ld.h H ?_ | refine Ld.r ?_) | ((with_reducible show Ix _ _ _ _ _); (first | refine Ix.h ?_ | refine Ix.ha ?_)) | (refine Al.hp H ?_; clear H; intro _ _ H _) | (refine St.h H ?_; clear H; intro _ H)) | refine Sm.strix T.ok ?_)
    ((conv => whnf); refine Cl.mk (hT.pn s _ H.e hd hne h0) ?_)
    rintro _ w2 ⟨n, e, rfl, hor, ex⟩
    replace H := H.ext ex
    clear ex
    rcases hor with ⟨hn, rfl⟩ | ⟨hn, rfl, he⟩
    · unfold number
      rw [hn]
      repeat' ((conv => whnf); first | ((with_reducible show Gd (bs _ == _) _ _); first | refine Gd.sY (by assumption) ?_ | refine Gd.sk (by assumption) ?_ | refine Gd.sN (by assumption) ?_) | ((conv => whnf); first | (((with_reducible show Gd _ _ _); first | with_reducible refine Gd.t ?_ | with_reducible refine Gd.f ?_ | with_reducible refine Gd.dec (fun _ => ?_) (fun _ => ?_) | with_reducible refine Gd.beq (fun _ => ?_) (fun _ => ?_) | with_reducible refine Gd.bne (fun _ => ?_) (fun _ => ?_) | with_reducible refine Gd.not ?_ | refine Gd.t ?_ | refine Gd.f ?_ | with_reducible refine Gd.var (fun _ => ?_) (fun _ => ?_)) <;> first | (exfalso; omega) | skip) | with_reducible refine Sq.mk ?_ | ((with_reducible show Ld1 _ _ _); first | refine Ld1.h H ?_ | refine Ld1.rF ?_ | refine Ld1.r ?_) | ((with_reducible show Ld _ _ _ _); first | refine Ld.h H ?_ | refine Ld.r ?_) | ((with_reducible show Ix _ _ _ _ _); (first | refine Ix.h ?_ | refine Ix.ha ?_)) | (refine Al.hp H ?_; clear H; intro _ _ H _) | (refine St.h H ?_; clear H; intro _ H)) | refine Sm.strix T.ok ?_)
      all_goals first | (exfalso; omega) | skip
      exact ⟨rfl, H.e⟩
    · unfold number
      rw [hn]
      repeat' ((conv => whnf); first | ((with_reducible show Gd (bs _ == _) _ _); first | refine Gd.sY (by assumption) ?_ | refine Gd.sk (by assumption) ?_ | refine Gd.sN (by assumption) ?_) | ((conv => whnf); first | (((with_reducible show Gd _ _ _); first | with_reducible refine Gd.t ?_ | with_reducible refine Gd.f ?_ | with_reducible refine Gd.dec (fun _ => ?_) (fun _ => ?_) | with_reducible refine Gd.beq (fun _ => ?_) (fun _ => ?_) | with_reducible refine Gd.bne (fun _ => ?_) (fun _ => ?_) | with_reducible refine Gd.not ?_ | refine Gd.t ?_ | refine Gd.f ?_ | with_reducible refine Gd.var (fun _ => ?_) (fun _ => ?_)) <;> first | (exfalso; omega) | skip) | with_reducible refine Sq.mk ?_ | ((with_reducible show Ld1 _ _ _); first | refine Ld1.h H ?_ | refine Ld1.rF ?_ | refine Ld1.r ?_) | ((with_reducible show Ld _ _ _ _); first | refine Ld.h H ?_ | refine Ld.r ?_) | ((with_reducible show Ix _ _ _ _ _); (first | refine Ix.h ?_ | refine Ix.ha ?_)) | (refine Al.hp H ?_; clear H; intro _ _ H _) | (refine St.h H ?_; clear H; intro _ H)) | refine Sm.strix T.ok ?_)
      all_goals first | (exfalso; omega) | skip
      exact ⟨rfl, H.e⟩
theorem span_at {f : UInt8 → Bool} {l : Bs} {e : Nat} {c : UInt8} (h : l[e]? = some c) : spanN f (l.drop e) = if f c = true then spanN f (l.drop (e + 1)) + 1 else 0 := by
  obtain ⟨h1, h2⟩ := List.getElem?_eq_some_iff.1 h
  rw [List.drop_eq_getElem_cons h1, h2]; rfl
theorem span_end {f : UInt8 → Bool} {l : Bs} {e : Nat} (h : l.length ≤ e) : spanN f (l.drop e) = 0 := by rw [List.drop_of_length_le h]; rfl
theorem span_all (f : UInt8 → Bool) : ∀ l : Bs, ∀ c ∈ l.take (spanN f l), f c = true
  | [], c, h => by simp at h
  | d :: r, c, h => by
    simp only [spanN] at h
    split at h
    · rename_i hd
      simp only [List.take_succ_cons, List.mem_cons] at h
      rcases h with rfl | h
      · exact hd
      · exact span_all f r c h
    · simp at h
theorem sign_found {p : Bs → Bool} {i : Nat} {x : Bs} (h : (signs.take i).find? p = none) (hx : signs[i]? = some x) (hp : p x = true) : signs.find? p = some x := by
  obtain ⟨h1, h2⟩ := List.getElem?_eq_some_iff.1 hx
  have h3 : signs = signs.take i ++ x :: signs.drop (i + 1) := by
    rw [← h2, ← List.drop_eq_getElem_cons h1, List.take_append_drop]
  rw [h3, List.find?_append, h, Option.none_or, List.find?_cons_of_pos hp]
theorem sign_more {p : Bs → Bool} {i : Nat} {x : Bs} (h : (signs.take i).find? p = none) (hx : signs.take (i + 1) = signs.take i ++ [x]) (hp : p x = false) : (signs.take (i + 1)).find? p = none := by
  rw [hx, List.find?_append, h, Option.none_or, List.find?_cons_of_neg (by rw [hp]; simp)]; rfl
set_option maxHeartbeats 1000000 in
theorem read_c (l : Bs) (p : Nat) (w : World) (hT : Tb w) (hp : p ≤ l.length) (hl : l.length ≤ 1000000) :
    Cl Tryd.prog 25 #[.string (bs l), .int .i64 (p : Int)] w (fun v w' => v = .tuple #[tkV (readT l p).1, .int .i64 ((readT l p).2 : Int)] ∧ Ext w w') (fun _ _ => False) := by
  refine calls_ex (args := [.string (bs l), .int .i64 (p : Int)]) T.ok Tryd.func25 rfl rfl rfl rfl ?_
  have H := Hp.begin nw w
  have hsz := bs_size l
  refine Sq.mk ?_
  ((conv => whnf); refine Al.hp H ?_; clear H; intro p4 _ H _)
  repeat' ((conv => whnf); first | (((with_reducible show Gd _ _ _); first | with_reducible refine Gd.t ?_ | with_reducible refine Gd.f ?_ | with_reducible refine Gd.dec (fun _ => ?_) (fun _ => ?_) | with_reducible refine Gd.beq (fun _ => ?_) (fun _ => ?_) | with_reducible refine Gd.bne (fun _ => ?_) (fun _ => ?_) | with_reducible refine Gd.not ?_ | refine Gd.t ?_ | refine Gd.f ?_ | with_reducible refine Gd.var (fun _ => ?_) (fun _ => ?_)) <;> first | (exfalso; omega) | skip) | with_reducible refine Sq.mk ?_ | ((with_reducible show Ld1 _ _ _); first | refine Ld1.h H ?_ | refine Ld1.rF ?_ | refine Ld1.r ?_) | ((with_reducible show Ld _ _ _ _); first | refine Ld.h H ?_ | refine Ld.r ?_) | ((with_reducible show Ix _ _ _ _ _); (first | refine Ix.h ?_ | refine Ix.ha ?_)) | (refine Al.hp H ?_; clear H; intro _ _ H _) | (refine St.h H ?_; clear H; intro _ H))
  (((conv => whnf); refine Cl.mk (skip_c l p _ hp hl) ?_); rintro _ _ ⟨rfl, hx⟩; replace H := H.ext hx; clear hx)
  obtain ⟨hr1, hr2⟩ := skp_range false (l.drop p) p
  rw [List.length_drop] at hr2
  generalize ha : skp false (l.drop p) p = a at *
  have hal : a ≤ l.length := by omega
  by_cases hlt : a < l.length
  case neg =>
    have hdn : l.drop a = [] := List.drop_of_length_le (by omega)
    have hR : readT l p = (⟨k_end, [], l.length, 0, 0⟩, l.length) := by
      unfold readT; rw [ha, hdn]
    rw [hR]
    repeat' ((conv => whnf); first | (((with_reducible show Gd _ _ _); first | with_reducible refine Gd.t ?_ | with_reducible refine Gd.f ?_ | with_reducible refine Gd.dec (fun _ => ?_) (fun _ => ?_) | with_reducible refine Gd.beq (fun _ => ?_) (fun _ => ?_) | with_reducible refine Gd.bne (fun _ => ?_) (fun _ => ?_) | with_reducible refine Gd.not ?_ | refine Gd.t ?_ | refine Gd.f ?_ | with_reducible refine Gd.var (fun _ => ?_) (fun _ => ?_)) <;> first | (exfalso; omega) | skip) | with_reducible refine Sq.mk ?_ | ((with_reducible show Ld1 _ _ _); first | refine Ld1.h H ?_ | refine Ld1.rF ?_ | refine Ld1.r ?_) | ((with_reducible show Ld _ _ _ _); first | refine Ld.h H ?_ | refine Ld.r ?_) | ((with_reducible show Ix _ _ _ _ _); (first | refine Ix.h ?_ | refine Ix.ha ?_)) | (refine Al.hp H ?_; clear H; intro _ _ H _) | (refine St.h H ?_; clear H; intro _ H))
    all_goals first | (exfalso; omega) | skip
    refine ⟨?_, H.e⟩
    show Value.tuple #[.agg #[_, _, .int .i64 ((bs l).size : Int), _, _], .int .i64 ((bs l).size : Int)] = _
    rw [hsz]; rfl
  obtain ⟨c, hc⟩ : ∃ c, l[a]? = some c := ⟨_, List.getElem?_eq_getElem hlt⟩
  have hcr : l.drop a = c :: l.drop (a + 1) := by
    obtain ⟨h1, h2⟩ := List.getElem?_eq_some_iff.1 hc
    rw [List.drop_eq_getElem_cons h1, h2]
  have hw32 : ∀ d : UInt8, IntKind.i32.wrap (d.toNat : Int) = (d.toNat : Int) := fun d => by
    have := byte_lt d
    simp [IntKind.wrap, IntKind.signed, IntKind.bits]
    omega
  have hlet : ∀ (d : UInt8) (w' : World), Cl Tryd.prog 44 #[.int .i32 (IntKind.i32.wrap (d.toNat : Int))] w' (fun v w'' => v = .bool (letter d) ∧ Ext w' w'') (fun _ _ => False) := fun d w' => by rw [hw32]; exact letter_c d w'
  have hdig : ∀ (d : UInt8) (w' : World), Cl Tryd.prog 45 #[.int .i32 (IntKind.i32.wrap (d.toNat : Int))] w' (fun v w'' => v = .bool (digit d) ∧ Ext w' w'') (fun _ _ => False) := fun d w' => by rw [hw32]; exact digit_c d w'
  have hR : readT l p = if letter c = true then (named ((l.drop a).take (spanN alnum (l.drop a))) a, a + spanN alnum (l.drop a)) else if digit c = true then (number ((l.drop a).take (spanN digit (l.drop a))) a, a + spanN digit (l.drop a)) else match signAt (l.drop a) with
      | some t => (⟨t, t, a, 0, 0⟩, a + t.length)
      | none => (⟨[], [], a, 0, 140⟩, a + 1) := by
    unfold readT; rw [ha, hcr]; rfl
  rw [hR]
  clear hR
  by_cases hle : letter c = true
  · rw [if_pos hle]
    repeat' (first | ((conv => whnf); first | ((with_reducible show Gd (bs _ == _) _ _); first | refine Gd.sY (by assumption) ?_ | refine Gd.sk (by assumption) ?_ | refine Gd.sN (by assumption) ?_) | ((conv => whnf); first | (((with_reducible show Gd _ _ _); first | with_reducible refine Gd.t ?_ | with_reducible refine Gd.f ?_ | with_reducible refine Gd.dec (fun _ => ?_) (fun _ => ?_) | with_reducible refine Gd.beq (fun _ => ?_) (fun _ => ?_) | with_reducible refine Gd.bne (fun _ => ?_) (fun _ => ?_) | with_reducible refine Gd.not ?_ | refine Gd.t ?_ | refine Gd.f ?_ | with_reducible refine Gd.var (fun _ => ?_) (fun _ => ?_)) <;> first | (exfalso; omega) | skip) | with_reducible refine Sq.mk ?_ | ((with_reducible show Ld1 _ _ _); first | refine Ld1.h H ?_ | refine Ld1.rF ?_ | refine Ld1.r ?_) | ((with_reducible show Ld _ _ _ _); first | refine Ld.h H ?_ | refine Ld.r ?_) | ((with_reducible show Ix _ _ _ _ _); (first | refine Ix.h ?_ | refine Ix.ha ?_)) | (refine Al.hp H ?_; clear H; intro _ _ H _) | (refine St.h H ?_; clear H; intro _ H)) | refine Sm.strix T.ok ?_) | ((((conv => whnf); refine Cl.mk (hlet c _) ?_); rintro _ _ ⟨rfl, hx⟩; replace H := H.ext hx; clear hx); rw [hle]))
    all_goals first | (exfalso; omega) | skip
    refine Lp.g0 T.ok (σ := Nat) (fun e => [(6, .int .i64 (e : Int)), (1, .int .i64 (a : Int)), (0, .string (bs l)), (4, .pointer (some ⟨p4, 0, none⟩))])
      (fun e w' => a ≤ e ∧ e ≤ l.length ∧ spanN alnum (l.drop e) + (e - a) = spanN alnum (l.drop a) ∧ Hp nw w w' [bk p4 62 T.t62.zero.cells.toList]) (fun e _ => l.length - e) a rfl ⟨rfl, rfl, rfl, rfl, trivial⟩ ⟨Nat.le_refl _, hal, by omega, H⟩ ?_
    clear H
    rintro e w5 ⟨hae, hel, hsp, H⟩
    have hfin : spanN alnum (l.drop e) = 0 → e = a + spanN alnum (l.drop a) := fun h => by omega
    by_cases hlt2 : e < l.length
    · obtain ⟨d, hd⟩ : ∃ d, l[e]? = some d := ⟨_, List.getElem?_eq_getElem hlt2⟩
      have hwe : IntKind.i64.wrap ((e : Int) + 1) = ((e + 1 : Nat) : Int) := w64 rfl (by omega) (by omega)
      have hsa := span_at (f := alnum) hd
      by_cases hdl : letter d = true
      · rw [if_pos (by simp [alnum, hdl])] at hsa
        repeat' (first | ((conv => whnf); first | ((with_reducible show Gd (bs _ == _) _ _); first | refine Gd.sY (by assumption) ?_ | refine Gd.sk (by assumption) ?_ | refine Gd.sN (by assumption) ?_) | ((conv => whnf); first | (((with_reducible show Gd _ _ _); first | with_reducible refine Gd.t ?_ | with_reducible refine Gd.f ?_ | with_reducible refine Gd.dec (fun _ => ?_) (fun _ => ?_) | with_reducible refine Gd.beq (fun _ => ?_) (fun _ => ?_) | with_reducible refine Gd.bne (fun _ => ?_) (fun _ => ?_) | with_reducible refine Gd.not ?_ | refine Gd.t ?_ | refine Gd.f ?_ | with_reducible refine Gd.var (fun _ => ?_) (fun _ => ?_)) <;> first | (exfalso; omega) | skip) | with_reducible refine Sq.mk ?_ | ((with_reducible show Ld1 _ _ _); first | refine Ld1.h H ?_ | refine Ld1.rF ?_ | refine Ld1.r ?_) | ((with_reducible show Ld _ _ _ _); first | refine Ld.h H ?_ | refine Ld.r ?_) | ((with_reducible show Ix _ _ _ _ _); (first | refine Ix.h ?_ | refine Ix.ha ?_)) | (refine Al.hp H ?_; clear H; intro _ _ H _) | (refine St.h H ?_; clear H; intro _ H)) | refine Sm.strix T.ok ?_) | ((((conv => whnf); refine Cl.mk (hlet d _) ?_); rintro _ _ ⟨rfl, hx⟩; replace H := H.ext hx; clear hx); rw [hdl]))
        all_goals first | (exfalso; omega) | skip
        exact ⟨e + 1, ⟨at_int rfl hwe, rfl, rfl, rfl, trivial⟩, rfl, ⟨by omega, by omega, by omega, H⟩, by omega⟩
      · by_cases hdd : digit d = true
        · rw [if_pos (by simp [alnum, hdd])] at hsa
          repeat' (first | ((conv => whnf); first | ((with_reducible show Gd (bs _ == _) _ _); first | refine Gd.sY (by assumption) ?_ | refine Gd.sk (by assumption) ?_ | refine Gd.sN (by assumption) ?_) | ((conv => whnf); first | (((with_reducible show Gd _ _ _); first | with_reducible refine Gd.t ?_ | with_reducible refine Gd.f ?_ | with_reducible refine Gd.dec (fun _ => ?_) (fun _ => ?_) | with_reducible refine Gd.beq (fun _ => ?_) (fun _ => ?_) | with_reducible refine Gd.bne (fun _ => ?_) (fun _ => ?_) | with_reducible refine Gd.not ?_ | refine Gd.t ?_ | refine Gd.f ?_ | with_reducible refine Gd.var (fun _ => ?_) (fun _ => ?_)) <;> first | (exfalso; omega) | skip) | with_reducible refine Sq.mk ?_ | ((with_reducible show Ld1 _ _ _); first | refine Ld1.h H ?_ | refine Ld1.rF ?_ | refine Ld1.r ?_) | ((with_reducible show Ld _ _ _ _); first | refine Ld.h H ?_ | refine Ld.r ?_) | ((with_reducible show Ix _ _ _ _ _); (first | refine Ix.h ?_ | refine Ix.ha ?_)) | (refine Al.hp H ?_; clear H; intro _ _ H _) | (refine St.h H ?_; clear H; intro _ H)) | refine Sm.strix T.ok ?_) | ((((conv => whnf); refine Cl.mk (hlet d _) ?_); rintro _ _ ⟨rfl, hx⟩; replace H := H.ext hx; clear hx); rw [Bool.eq_false_iff.2 hdl]) | ((((conv => whnf); refine Cl.mk (hdig d _) ?_); rintro _ _ ⟨rfl, hx⟩; replace H := H.ext hx; clear hx); rw [hdd]))
          all_goals first | (exfalso; omega) | skip
          exact ⟨e + 1, ⟨at_int rfl hwe, rfl, rfl, rfl, trivial⟩, rfl, ⟨by omega, by omega, by omega, H⟩, by omega⟩
        · rw [if_neg (by simp [alnum, hdl, hdd])] at hsa
          have he := hfin hsa
          repeat' (first | ((conv => whnf); first | ((with_reducible show Gd (bs _ == _) _ _); first | refine Gd.sY (by assumption) ?_ | refine Gd.sk (by assumption) ?_ | refine Gd.sN (by assumption) ?_) | ((conv => whnf); first | (((with_reducible show Gd _ _ _); first | with_reducible refine Gd.t ?_ | with_reducible refine Gd.f ?_ | with_reducible refine Gd.dec (fun _ => ?_) (fun _ => ?_) | with_reducible refine Gd.beq (fun _ => ?_) (fun _ => ?_) | with_reducible refine Gd.bne (fun _ => ?_) (fun _ => ?_) | with_reducible refine Gd.not ?_ | refine Gd.t ?_ | refine Gd.f ?_ | with_reducible refine Gd.var (fun _ => ?_) (fun _ => ?_)) <;> first | (exfalso; omega) | skip) | with_reducible refine Sq.mk ?_ | ((with_reducible show Ld1 _ _ _); first | refine Ld1.h H ?_ | refine Ld1.rF ?_ | refine Ld1.r ?_) | ((with_reducible show Ld _ _ _ _); first | refine Ld.h H ?_ | refine Ld.r ?_) | ((with_reducible show Ix _ _ _ _ _); (first | refine Ix.h ?_ | refine Ix.ha ?_)) | (refine Al.hp H ?_; clear H; intro _ _ H _) | (refine St.h H ?_; clear H; intro _ H)) | refine Sm.strix T.ok ?_) | ((((conv => whnf); refine Cl.mk (hlet d _) ?_); rintro _ _ ⟨rfl, hx⟩; replace H := H.ext hx; clear hx); rw [Bool.eq_false_iff.2 hdl]) | ((((conv => whnf); refine Cl.mk (hdig d _) ?_); rintro _ _ ⟨rfl, hx⟩; replace H := H.ext hx; clear hx); rw [Bool.eq_false_iff.2 hdd]) | refine Sm.strcut T.ok hae hel ?_ | (((conv => whnf); refine Cl.mk (named_c ((l.drop a).take (e - a)) a _ (hT.ext H.e) (by rw [List.length_take, List.length_drop]; omega)) ?_); rintro _ _ ⟨rfl, hx⟩; replace H := H.ext hx; clear hx))
          all_goals first | (exfalso; omega) | skip
          refine ⟨?_, H.e⟩
          have hea : e - a = spanN alnum (l.drop a) := by omega
          rw [← hea]
          have he2 : a + (e - a) = e := by omega
          rw [he2]; rfl
    · have he := hfin (span_end (by omega))
      repeat' (first | ((conv => whnf); first | ((with_reducible show Gd (bs _ == _) _ _); first | refine Gd.sY (by assumption) ?_ | refine Gd.sk (by assumption) ?_ | refine Gd.sN (by assumption) ?_) | ((conv => whnf); first | (((with_reducible show Gd _ _ _); first | with_reducible refine Gd.t ?_ | with_reducible refine Gd.f ?_ | with_reducible refine Gd.dec (fun _ => ?_) (fun _ => ?_) | with_reducible refine Gd.beq (fun _ => ?_) (fun _ => ?_) | with_reducible refine Gd.bne (fun _ => ?_) (fun _ => ?_) | with_reducible refine Gd.not ?_ | refine Gd.t ?_ | refine Gd.f ?_ | with_reducible refine Gd.var (fun _ => ?_) (fun _ => ?_)) <;> first | (exfalso; omega) | skip) | with_reducible refine Sq.mk ?_ | ((with_reducible show Ld1 _ _ _); first | refine Ld1.h H ?_ | refine Ld1.rF ?_ | refine Ld1.r ?_) | ((with_reducible show Ld _ _ _ _); first | refine Ld.h H ?_ | refine Ld.r ?_) | ((with_reducible show Ix _ _ _ _ _); (first | refine Ix.h ?_ | refine Ix.ha ?_)) | (refine Al.hp H ?_; clear H; intro _ _ H _) | (refine St.h H ?_; clear H; intro _ H)) | refine Sm.strix T.ok ?_) | refine Sm.strcut T.ok hae hel ?_ | (((conv => whnf); refine Cl.mk (named_c ((l.drop a).take (e - a)) a _ (hT.ext H.e) (by rw [List.length_take, List.length_drop]; omega)) ?_); rintro _ _ ⟨rfl, hx⟩; replace H := H.ext hx; clear hx))
      all_goals first | (exfalso; omega) | skip
      refine ⟨?_, H.e⟩
      have hea : e - a = spanN alnum (l.drop a) := by omega
      rw [← hea]
      have he2 : a + (e - a) = e := by omega
      rw [he2]; rfl
  · rw [if_neg hle]
    have hlef := Bool.eq_false_iff.2 hle
    by_cases hdi : digit c = true
    · rw [if_pos hdi]
      repeat' (first | ((conv => whnf); first | ((with_reducible show Gd (bs _ == _) _ _); first | refine Gd.sY (by assumption) ?_ | refine Gd.sk (by assumption) ?_ | refine Gd.sN (by assumption) ?_) | ((conv => whnf); first | (((with_reducible show Gd _ _ _); first | with_reducible refine Gd.t ?_ | with_reducible refine Gd.f ?_ | with_reducible refine Gd.dec (fun _ => ?_) (fun _ => ?_) | with_reducible refine Gd.beq (fun _ => ?_) (fun _ => ?_) | with_reducible refine Gd.bne (fun _ => ?_) (fun _ => ?_) | with_reducible refine Gd.not ?_ | refine Gd.t ?_ | refine Gd.f ?_ | with_reducible refine Gd.var (fun _ => ?_) (fun _ => ?_)) <;> first | (exfalso; omega) | skip) | with_reducible refine Sq.mk ?_ | ((with_reducible show Ld1 _ _ _); first | refine Ld1.h H ?_ | refine Ld1.rF ?_ | refine Ld1.r ?_) | ((with_reducible show Ld _ _ _ _); first | refine Ld.h H ?_ | refine Ld.r ?_) | ((with_reducible show Ix _ _ _ _ _); (first | refine Ix.h ?_ | refine Ix.ha ?_)) | (refine Al.hp H ?_; clear H; intro _ _ H _) | (refine St.h H ?_; clear H; intro _ H)) | refine Sm.strix T.ok ?_) | ((((conv => whnf); refine Cl.mk (hlet c _) ?_); rintro _ _ ⟨rfl, hx⟩; replace H := H.ext hx; clear hx); rw [hlef]) | ((((conv => whnf); refine Cl.mk (hdig c _) ?_); rintro _ _ ⟨rfl, hx⟩; replace H := H.ext hx; clear hx); rw [hdi]))
      all_goals first | (exfalso; omega) | skip
      have hall : ∀ e, e - a = spanN digit (l.drop a) → AllDig ((l.drop a).take (e - a)) := fun e h d hd => by
        rw [h] at hd
        exact span_all digit _ d hd
      have hnn : ∀ e, e - a = spanN digit (l.drop a) → (l.drop a).take (e - a) ≠ [] := fun e h => by
        rw [h, hcr]
        simp [spanN, hdi]
      refine Lp.g0 T.ok (σ := Nat) (fun e => [(6, .int .i64 (e : Int)), (1, .int .i64 (a : Int)), (0, .string (bs l)), (4, .pointer (some ⟨p4, 0, none⟩))])
        (fun e w' => a ≤ e ∧ e ≤ l.length ∧ spanN digit (l.drop e) + (e - a) = spanN digit (l.drop a) ∧ Hp nw w w' [bk p4 62 T.t62.zero.cells.toList]) (fun e _ => l.length - e) a rfl ⟨rfl, rfl, rfl, rfl, trivial⟩ ⟨Nat.le_refl _, hal, by omega, H⟩ ?_
      clear H
      rintro e w5 ⟨hae, hel, hsp, H⟩
      have hfin : spanN digit (l.drop e) = 0 → e = a + spanN digit (l.drop a) := fun h => by omega
      by_cases hlt2 : e < l.length
      · obtain ⟨d, hd⟩ : ∃ d, l[e]? = some d := ⟨_, List.getElem?_eq_getElem hlt2⟩
        have hwe : IntKind.i64.wrap ((e : Int) + 1) = ((e + 1 : Nat) : Int) := w64 rfl (by omega) (by omega)
        have hsa := span_at (f := digit) hd
        by_cases hdd : digit d = true
        · rw [if_pos hdd] at hsa
          repeat' (first | ((conv => whnf); first | ((with_reducible show Gd (bs _ == _) _ _); first | refine Gd.sY (by assumption) ?_ | refine Gd.sk (by assumption) ?_ | refine Gd.sN (by assumption) ?_) | ((conv => whnf); first | (((with_reducible show Gd _ _ _); first | with_reducible refine Gd.t ?_ | with_reducible refine Gd.f ?_ | with_reducible refine Gd.dec (fun _ => ?_) (fun _ => ?_) | with_reducible refine Gd.beq (fun _ => ?_) (fun _ => ?_) | with_reducible refine Gd.bne (fun _ => ?_) (fun _ => ?_) | with_reducible refine Gd.not ?_ | refine Gd.t ?_ | refine Gd.f ?_ | with_reducible refine Gd.var (fun _ => ?_) (fun _ => ?_)) <;> first | (exfalso; omega) | skip) | with_reducible refine Sq.mk ?_ | ((with_reducible show Ld1 _ _ _); first | refine Ld1.h H ?_ | refine Ld1.rF ?_ | refine Ld1.r ?_) | ((with_reducible show Ld _ _ _ _); first | refine Ld.h H ?_ | refine Ld.r ?_) | ((with_reducible show Ix _ _ _ _ _); (first | refine Ix.h ?_ | refine Ix.ha ?_)) | (refine Al.hp H ?_; clear H; intro _ _ H _) | (refine St.h H ?_; clear H; intro _ H)) | refine Sm.strix T.ok ?_) | ((((conv => whnf); refine Cl.mk (hdig d _) ?_); rintro _ _ ⟨rfl, hx⟩; replace H := H.ext hx; clear hx); rw [hdd]))
          all_goals first | (exfalso; omega) | skip
          exact ⟨e + 1, ⟨at_int rfl hwe, rfl, rfl, rfl, trivial⟩, rfl, ⟨by omega, by omega, by omega, H⟩, by omega⟩
        · rw [if_neg hdd] at hsa
          have he := hfin hsa
          repeat' (first | ((conv => whnf); first | ((with_reducible show Gd (bs _ == _) _ _); first | refine Gd.sY (by assumption) ?_ | refine Gd.sk (by assumption) ?_ | refine Gd.sN (by assumption) ?_) | ((conv => whnf); first | (((with_reducible show Gd _ _ _); first | with_reducible refine Gd.t ?_ | with_reducible refine Gd.f ?_ | with_reducible refine Gd.dec (fun _ => ?_) (fun _ => ?_) | with_reducible refine Gd.beq (fun _ => ?_) (fun _ => ?_) | with_reducible refine Gd.bne (fun _ => ?_) (fun _ => ?_) | with_reducible refine Gd.not ?_ | refine Gd.t ?_ | refine Gd.f ?_ | with_reducible refine Gd.var (fun _ => ?_) (fun _ => ?_)) <;> first | (exfalso; omega) | skip) | with_reducible refine Sq.mk ?_ | ((with_reducible show Ld1 _ _ _); first | refine Ld1.h H ?_ | refine Ld1.rF ?_ | refine Ld1.r ?_) | ((with_reducible show Ld _ _ _ _); first | refine Ld.h H ?_ | refine Ld.r ?_) | ((with_reducible show Ix _ _ _ _ _); (first | refine Ix.h ?_ | refine Ix.ha ?_)) | (refine Al.hp H ?_; clear H; intro _ _ H _) | (refine St.h H ?_; clear H; intro _ H)) | refine Sm.strix T.ok ?_) | ((((conv => whnf); refine Cl.mk (hdig d _) ?_); rintro _ _ ⟨rfl, hx⟩; replace H := H.ext hx; clear hx); rw [Bool.eq_false_iff.2 hdd]) | refine Sm.strcut T.ok hae hel ?_ | (((conv => whnf); refine Cl.mk (number_c ((l.drop a).take (e - a)) a _ (hT.ext H.e) (hall e (by omega)) (hnn e (by omega)) (by rw [List.length_take, List.length_drop]; omega)) ?_); rintro _ _ ⟨rfl, hx⟩; replace H := H.ext hx; clear hx))
          all_goals first | (exfalso; omega) | skip
          refine ⟨?_, H.e⟩
          have hea : e - a = spanN digit (l.drop a) := by omega
          rw [← hea]
          have he2 : a + (e - a) = e := by omega
          rw [he2]; rfl
      · have he := hfin (span_end (by omega))
        repeat' (first | ((conv => whnf); first | ((with_reducible show Gd (bs _ == _) _ _); first | refine Gd.sY (by assumption) ?_ | refine Gd.sk (by assumption) ?_ | refine Gd.sN (by assumption) ?_) | ((conv => whnf); first | (((with_reducible show Gd _ _ _); first | with_reducible refine Gd.t ?_ | with_reducible refine Gd.f ?_ | with_reducible refine Gd.dec (fun _ => ?_) (fun _ => ?_) | with_reducible refine Gd.beq (fun _ => ?_) (fun _ => ?_) | with_reducible refine Gd.bne (fun _ => ?_) (fun _ => ?_) | with_reducible refine Gd.not ?_ | refine Gd.t ?_ | refine Gd.f ?_ | with_reducible refine Gd.var (fun _ => ?_) (fun _ => ?_)) <;> first | (exfalso; omega) | skip) | with_reducible refine Sq.mk ?_ | ((with_reducible show Ld1 _ _ _); first | refine Ld1.h H ?_ | refine Ld1.rF ?_ | refine Ld1.r ?_) | ((with_reducible show Ld _ _ _ _); first | refine Ld.h H ?_ | refine Ld.r ?_) | ((with_reducible show Ix _ _ _ _ _); (first | refine Ix.h ?_ | refine Ix.ha ?_)) | (refine Al.hp H ?_; clear H; intro _ _ H _) | (refine St.h H ?_; clear H; intro _ H)) | refine Sm.strix T.ok ?_) | refine Sm.strcut T.ok hae hel ?_ | (((conv => whnf); refine Cl.mk (number_c ((l.drop a).take (e - a)) a _ (hT.ext H.e) (hall e (by omega)) (hnn e (by omega)) (by rw [List.length_take, List.length_drop]; omega)) ?_); rintro _ _ ⟨rfl, hx⟩; replace H := H.ext hx; clear hx))
        all_goals first | (exfalso; omega) | skip
        refine ⟨?_, H.e⟩
        have hea : e - a = spanN digit (l.drop a) := by omega
        rw [← hea]
        have he2 : a + (e - a) = e := by omega
        rw [he2]; rfl
    · rw [if_neg hdi]
      have hdif := Bool.eq_false_iff.2 hdi
      repeat' (first | ((conv => whnf); first | ((with_reducible show Gd (bs _ == _) _ _); first | refine Gd.sY (by assumption) ?_ | refine Gd.sk (by assumption) ?_ | refine Gd.sN (by assumption) ?_) | ((conv => whnf); first | (((with_reducible show Gd _ _ _); first | with_reducible refine Gd.t ?_ | with_reducible refine Gd.f ?_ | with_reducible refine Gd.dec (fun _ => ?_) (fun _ => ?_) | with_reducible refine Gd.beq (fun _ => ?_) (fun _ => ?_) | with_reducible refine Gd.bne (fun _ => ?_) (fun _ => ?_) | with_reducible refine Gd.not ?_ | refine Gd.t ?_ | refine Gd.f ?_ | with_reducible refine Gd.var (fun _ => ?_) (fun _ => ?_)) <;> first | (exfalso; omega) | skip) | with_reducible refine Sq.mk ?_ | ((with_reducible show Ld1 _ _ _); first | refine Ld1.h H ?_ | refine Ld1.rF ?_ | refine Ld1.r ?_) | ((with_reducible show Ld _ _ _ _); first | refine Ld.h H ?_ | refine Ld.r ?_) | ((with_reducible show Ix _ _ _ _ _); (first | refine Ix.h ?_ | refine Ix.ha ?_)) | (refine Al.hp H ?_; clear H; intro _ _ H _) | (refine St.h H ?_; clear H; intro _ H)) | refine Sm.strix T.ok ?_) | ((((conv => whnf); refine Cl.mk (hlet c _) ?_); rintro _ _ ⟨rfl, hx⟩; replace H := H.ext hx; clear hx); rw [hlef]) | ((((conv => whnf); refine Cl.mk (hdig c _) ?_); rintro _ _ ⟨rfl, hx⟩; replace H := H.ext hx; clear hx); rw [hdif]))
      all_goals first | (exfalso; omega) | skip
      (conv => whnf)
      refine Ld.all (RdS.from H.e hT.sg) ?_
      repeat' ((conv => whnf); first | (((with_reducible show Gd _ _ _); first | with_reducible refine Gd.t ?_ | with_reducible refine Gd.f ?_ | with_reducible refine Gd.dec (fun _ => ?_) (fun _ => ?_) | with_reducible refine Gd.beq (fun _ => ?_) (fun _ => ?_) | with_reducible refine Gd.bne (fun _ => ?_) (fun _ => ?_) | with_reducible refine Gd.not ?_ | refine Gd.t ?_ | refine Gd.f ?_ | with_reducible refine Gd.var (fun _ => ?_) (fun _ => ?_)) <;> first | (exfalso; omega) | skip) | with_reducible refine Sq.mk ?_ | ((with_reducible show Ld1 _ _ _); first | refine Ld1.h H ?_ | refine Ld1.rF ?_ | refine Ld1.r ?_) | ((with_reducible show Ld _ _ _ _); first | refine Ld.h H ?_ | refine Ld.r ?_) | ((with_reducible show Ix _ _ _ _ _); (first | refine Ix.h ?_ | refine Ix.ha ?_)) | (refine Al.hp H ?_; clear H; intro _ _ H _) | (refine St.h H ?_; clear H; intro _ H))
      refine Lp.g0 T.ok (σ := Nat) (fun i => [(81, .int .i64 (i : Int)), (80, .agg (signs.map fun b => Value.string (bs b)).toArray), (1, .int .i64 (a : Int)), (0, .string (bs l)), (4, .pointer (some ⟨p4, 0, none⟩))])
        (fun i w' => i ≤ 24 ∧ (signs.take i).find? (fun t => (l.drop a).take t.length == t) = none ∧ Hp nw w w' [bk p4 62 T.t62.zero.cells.toList]) (fun i _ => 24 - i) 0 rfl ⟨rfl, rfl, rfl, rfl, rfl, trivial⟩ ⟨Nat.zero_le _, rfl, H⟩ ?_
      clear H
      rintro i w5 ⟨hi, hno, H⟩
      have hwsub : IntKind.i64.wrap ((l.length : Int) - (a : Int)) = ((l.length - a : Nat) : Int) := w64 (by omega) (by omega) (by omega)
      have hwa1 : IntKind.i64.wrap ((a : Int) + 1) = ((a + 1 : Nat) : Int) := w64 rfl (by omega) (by omega)
      by_cases hlt2 : i < 24
      · obtain ⟨x, hx⟩ : ∃ x, signs[i]? = some x := ⟨_, List.getElem?_eq_getElem (show i < signs.length from hlt2)⟩
        obtain ⟨hx1, hx2⟩ := List.getElem?_eq_some_iff.1 hx
        have hxs : (bs x).size = x.length := bs_size x
        have hx24 : x.length ≤ 2 := by
          have : ∀ t ∈ signs, t.length ≤ 2 := by decide
          exact this x (List.mem_of_getElem? hx)
        have hwx : IntKind.i64.wrap ((a : Int) + ((bs x).size : Int)) = ((a + x.length : Nat) : Int) := w64 (by omega) (by omega) (by omega)
        have htk : (signs.take (i + 1)) = signs.take i ++ [x] := by rw [List.take_succ_eq_append_getElem hx1, hx2]
        rw [← hsz] at hwsub
        repeat' ((conv => whnf); first | ((with_reducible show Gd (bs _ == _) _ _); first | refine Gd.sY (by assumption) ?_ | refine Gd.sk (by assumption) ?_ | refine Gd.sN (by assumption) ?_) | ((conv => whnf); first | (((with_reducible show Gd _ _ _); first | with_reducible refine Gd.t ?_ | with_reducible refine Gd.f ?_ | with_reducible refine Gd.dec (fun _ => ?_) (fun _ => ?_) | with_reducible refine Gd.beq (fun _ => ?_) (fun _ => ?_) | with_reducible refine Gd.bne (fun _ => ?_) (fun _ => ?_) | with_reducible refine Gd.not ?_ | refine Gd.t ?_ | refine Gd.f ?_ | with_reducible refine Gd.var (fun _ => ?_) (fun _ => ?_)) <;> first | (exfalso; omega) | skip) | with_reducible refine Sq.mk ?_ | ((with_reducible show Ld1 _ _ _); first | refine Ld1.h H ?_ | refine Ld1.rF ?_ | refine Ld1.r ?_) | ((with_reducible show Ld _ _ _ _); first | refine Ld.h H ?_ | refine Ld.r ?_) | ((with_reducible show Ix _ _ _ _ _); (first | refine Ix.h ?_ | refine Ix.ha ?_)) | (refine Al.hp H ?_; clear H; intro _ _ H _) | (refine St.h H ?_; clear H; intro _ H)) | refine Sm.strix T.ok ?_)
        refine Sm.arrix T.ok (v := .string (bs x)) (by simp [hx]) hlt2 ?_
        by_cases hroom : x.length ≤ l.length - a
        · repeat' (first | ((conv => whnf); first | ((with_reducible show Gd (bs _ == _) _ _); first | refine Gd.sY (by assumption) ?_ | refine Gd.sk (by assumption) ?_ | refine Gd.sN (by assumption) ?_) | ((conv => whnf); first | (((with_reducible show Gd _ _ _); first | with_reducible refine Gd.t ?_ | with_reducible refine Gd.f ?_ | with_reducible refine Gd.dec (fun _ => ?_) (fun _ => ?_) | with_reducible refine Gd.beq (fun _ => ?_) (fun _ => ?_) | with_reducible refine Gd.bne (fun _ => ?_) (fun _ => ?_) | with_reducible refine Gd.not ?_ | refine Gd.t ?_ | refine Gd.f ?_ | with_reducible refine Gd.var (fun _ => ?_) (fun _ => ?_)) <;> first | (exfalso; omega) | skip) | with_reducible refine Sq.mk ?_ | ((with_reducible show Ld1 _ _ _); first | refine Ld1.h H ?_ | refine Ld1.rF ?_ | refine Ld1.r ?_) | ((with_reducible show Ld _ _ _ _); first | refine Ld.h H ?_ | refine Ld.r ?_) | ((with_reducible show Ix _ _ _ _ _); (first | refine Ix.h ?_ | refine Ix.ha ?_)) | (refine Al.hp H ?_; clear H; intro _ _ H _) | (refine St.h H ?_; clear H; intro _ H)) | refine Sm.strix T.ok ?_) | refine Sm.strcut (i := a) (j := a + x.length) T.ok (by omega) (by omega) ?_)
          · have hb : (bs ((l.drop a).take (a + x.length - a)) == bs x) = true := by assumption
            rw [Nat.add_sub_cancel_left, bs_eq] at hb
            have hs : signAt (l.drop a) = some x := sign_found hno hx (beq_iff_eq.2 (of_decide_eq_true hb))
            rw [hs]
            refine ⟨?_, H.e⟩
            show Value.tuple #[.agg #[.string (bs x), .string (bs x), .int .i64 (a : Int), _, _], .int .i64 (IntKind.i64.wrap ((a : Int) + ((bs x).size : Int)))] = _
            rw [hwx]; rfl
          · have hb : (bs ((l.drop a).take (a + x.length - a)) == bs x) = false := by assumption
            rw [Nat.add_sub_cancel_left, bs_eq] at hb
            exact ⟨i + 1, ⟨at_int (m := ((i + 1 : Nat) : Int)) rfl (w64 (by simp) (by omega) (by omega)), rfl, rfl, rfl, rfl, trivial⟩, rfl, ⟨by omega, sign_more hno htk (beq_eq_false_iff_ne.2 (of_decide_eq_false hb)), H⟩, by omega⟩
        · have hnx : ((l.drop a).take x.length == x) = false := by
            refine beq_eq_false_iff_ne.2 fun e => ?_
            have := congrArg List.length e
            rw [List.length_take, List.length_drop] at this
            omega
          repeat' ((conv => whnf); first | ((with_reducible show Gd (bs _ == _) _ _); first | refine Gd.sY (by assumption) ?_ | refine Gd.sk (by assumption) ?_ | refine Gd.sN (by assumption) ?_) | ((conv => whnf); first | (((with_reducible show Gd _ _ _); first | with_reducible refine Gd.t ?_ | with_reducible refine Gd.f ?_ | with_reducible refine Gd.dec (fun _ => ?_) (fun _ => ?_) | with_reducible refine Gd.beq (fun _ => ?_) (fun _ => ?_) | with_reducible refine Gd.bne (fun _ => ?_) (fun _ => ?_) | with_reducible refine Gd.not ?_ | refine Gd.t ?_ | refine Gd.f ?_ | with_reducible refine Gd.var (fun _ => ?_) (fun _ => ?_)) <;> first | (exfalso; omega) | skip) | with_reducible refine Sq.mk ?_ | ((with_reducible show Ld1 _ _ _); first | refine Ld1.h H ?_ | refine Ld1.rF ?_ | refine Ld1.r ?_) | ((with_reducible show Ld _ _ _ _); first | refine Ld.h H ?_ | refine Ld.r ?_) | ((with_reducible show Ix _ _ _ _ _); (first | refine Ix.h ?_ | refine Ix.ha ?_)) | (refine Al.hp H ?_; clear H; intro _ _ H _) | (refine St.h H ?_; clear H; intro _ H)) | refine Sm.strix T.ok ?_)
          all_goals first | (exfalso; omega) | skip
          exact ⟨i + 1, ⟨at_int (m := ((i + 1 : Nat) : Int)) rfl (w64 (by simp) (by omega) (by omega)), rfl, rfl, rfl, rfl, trivial⟩, rfl, ⟨by omega, sign_more hno htk hnx, H⟩, by omega⟩
      · have hi : i = 24 := by omega
        subst hi
        have hs : signAt (l.drop a) = none := hno
        rw [hs]
        repeat' ((conv => whnf); first | ((with_reducible show Gd (bs _ == _) _ _); first | refine Gd.sY (by assumption) ?_ | refine Gd.sk (by assumption) ?_ | refine Gd.sN (by assumption) ?_) | ((conv => whnf); first | (((with_reducible show Gd _ _ _); first | with_reducible refine Gd.t ?_ | with_reducible refine Gd.f ?_ | with_reducible refine Gd.dec (fun _ => ?_) (fun _ => ?_) | with_reducible refine Gd.beq (fun _ => ?_) (fun _ => ?_) | with_reducible refine Gd.bne (fun _ => ?_) (fun _ => ?_) | with_reducible refine Gd.not ?_ | refine Gd.t ?_ | refine Gd.f ?_ | with_reducible refine Gd.var (fun _ => ?_) (fun _ => ?_)) <;> first | (exfalso; omega) | skip) | with_reducible refine Sq.mk ?_ | ((with_reducible show Ld1 _ _ _); first | refine Ld1.h H ?_ | refine Ld1.rF ?_ | refine Ld1.r ?_) | ((with_reducible show Ld _ _ _ _); first | refine Ld.h H ?_ | refine Ld.r ?_) | ((with_reducible show Ix _ _ _ _ _); (first | refine Ix.h ?_ | refine Ix.ha ?_)) | (refine Al.hp H ?_; clear H; intro _ _ H _) | (refine St.h H ?_; clear H; intro _ H)) | refine Sm.strix T.ok ?_)
        refine ⟨?_, H.e⟩
        show Value.tuple #[.agg #[_, _, .int .i64 (a : Int), _, .int .i64 140], .int .i64 (IntKind.i64.wrap ((a : Int) + 1))] = _
        rw [hwa1]; rfl
end Go.Proofs.YtfnjodpehomgfaaDoor
namespace Go.Sh
open Go.RowKit
set_option linter.unusedSectionVars false
set_option linter.unusedVariables false
set_option linter.unusedSimpArgs false
/-- a move: a pure operation; an operation that comes up alone; two looks that come up together -/
inductive Mv where
  | tk (i : Nat)
  | al (i : Nat)
  | two (i j : Nat)
def apB (ops : Array Oper) (i j : Nat) : Bool := match ops[i]?, ops[j]? with
  | some x, some y => x.apart ops y && y.apart ops x && x.guard.isNone && y.guard.isNone && decide (i ≠ j)
  | _, _ => false
def scB (ops : Array Oper) : List Mv → Nat → Array Bool → Bool
  | [], g, listed => decide (g = 0) && (Region.ready .any ops listed).isEmpty
  | .tk i :: r, g, listed => decide (g ≠ 0) && (Region.ready .any ops listed).contains i && Region.free .any ops listed i && scB ops r (g - 1) (listed.setIfInBounds i true)
  | .al i :: r, g, listed => decide (g ≠ 0) && decide (Region.ready .any ops listed = [i]) && scB ops r (g - 1) (listed.setIfInBounds i true)
  | .two i j :: r, g, listed => decide (2 ≤ g) && decide (Region.ready .any ops listed = [i, j]) && apB ops i j && decide (Region.ready .any ops (listed.setIfInBounds i true) = [j]) && decide (Region.ready .any ops (listed.setIfInBounds j true) = [i]) && scB ops r (g - 2) ((listed.setIfInBounds i true).setIfInBounds j true)
def scAll (ops : Array Oper) (ms : List Mv) : Bool := Region.noSelect ops && scB ops ms ops.size (Array.replicate ops.size false)
section
variable (P : Program) (T : Tab) (n : Nat)
def stepSc (all : List Oper) (m : Mv) (_r : List Mv) (ih : Fr → World → (Fr → World → Prop) → Prop) (F : Fr) (w : World) (kk : Fr → World → Prop) : Prop :=
  match m with
  | .tk i => match all[i]? with
    | none => False
    | some o => match dstOk n o.dst with
      | false => False
      | true => match o.guard with
        | none => tkOp P T (fun _ => True) (evR o F) o (fun v => ih (F.put o.dst v) w kk)
        | some _ => False
  | .al i => match all[i]? with
    | none => False
    | some o => match dstOk n o.dst with
      | false => False
      | true => match o.guard with
        | none => exOp P T (evR o F) o w (fun v w' => ih (F.put o.dst v) w' kk) (fun _ _ => False)
        | some _ => False
  | .two i j => match all[i]? with
    | none => False
    | some x => match all[j]? with
      | none => False
      | some y => match dstOk n x.dst with
        | false => False
        | true => match dstOk n y.dst with
          | false => False
          | true => tkOp P T (fun w' => w' = w) (evR x F) x (fun v => tkOp P T (fun w' => w' = w) (evR y (F.put x.dst v)) y (fun u => ih ((F.put x.dst v).put y.dst u) w kk))
def scOps (all : List Oper) (ms : List Mv) : Fr → World → (Fr → World → Prop) → Prop :=
  List.rec (motive := fun _ => Fr → World → (Fr → World → Prop) → Prop) (fun F w k => k F w) (stepSc P T n all) ms
end
section
variable {P : Program} {T : Tab} {n : Nat}
theorem wpOp_val {ops : Array Oper} {Q : Exit → Act → World → Prop} {i : Nat} {o : Oper} {a : Act} {w : World} {v : Value} {K : Act → World → Prop} (hi : ops[i]? = some o) (hg : o.guard = none) (hr : (execOp a.eval o).run P w = .ok (.value v) w) (h : K (a.put o.dst v) w) : wpOp P ops Q i K a w := by
  unfold wpOp
  simp only [hi]
  rw [if_pos (wanted_none hg)]
  refine .inl ?_
  simp only [Oper.wp, hr, Oper.upon]
  exact h
theorem scOps_sound (hT : TabOk P T) (all : List Oper) (hsel : Region.noSelect all.toArray = true) {K : Fr → World → Prop} : ∀ (ms : List Mv) (g : Nat) (listed : Array Bool) (F : Fr) (a : Act) (w : World),
    Agr n F a → scB all.toArray ms g listed = true → scOps P T n all ms F w K → wpAny P .any all.toArray (Qn n K) g listed a w
  | [], g, listed, F, a, w, ha, hB, h => by
    simp only [scB, Bool.and_eq_true, decide_eq_true_eq] at hB
    obtain ⟨rfl, hB⟩ := hB
    exact ⟨List.isEmpty_iff.1 hB, rfl, F, ha, h⟩
  | .tk i :: r, g, listed, F, a, w, ha, hB, h => by
    have ih := scOps_sound hT all hsel (K := K) r
    change stepSc P T n all (.tk i) r (scOps P T n all r) F w K at h
    simp only [scB, Bool.and_eq_true, decide_eq_true_eq] at hB
    obtain ⟨⟨⟨hg0, h1⟩, h2⟩, h3⟩ := hB
    obtain ⟨g, rfl⟩ := Nat.exists_eq_succ_of_ne_zero hg0
    simp only [Nat.succ_eq_add_one, Nat.add_sub_cancel] at h3 ⊢
    unfold stepSc at h
    simp only at h
    split at h; · exact h.elim
    rename_i o ho
    split at h; · exact h.elim
    rename_i hd
    split at h
    · rename_i hg
      obtain ⟨v, hk, hr⟩ := tkOp_run hT h
      have ho' : all.toArray[i]? = some o := by simpa using ho
      exact wpAny_take ho' hsel h2 h1 (fun c a w q => nomatch q.1) (.inl ⟨wanted_none hg, fun w => hr a (fun x v h => ha.ev x v (evR_evF h)) w trivial⟩) (ih _ _ _ _ _ (ha.put hd v) h3 hk)
    · exact h.elim
  | .al i :: r, g, listed, F, a, w, ha, hB, h => by
    have ih := scOps_sound hT all hsel (K := K) r
    change stepSc P T n all (.al i) r (scOps P T n all r) F w K at h
    simp only [scB, Bool.and_eq_true, decide_eq_true_eq] at hB
    obtain ⟨⟨hg0, h1⟩, h3⟩ := hB
    obtain ⟨g, rfl⟩ := Nat.exists_eq_succ_of_ne_zero hg0
    simp only [Nat.succ_eq_add_one, Nat.add_sub_cancel] at h3 ⊢
    unfold stepSc at h
    simp only at h
    split at h; · exact h.elim
    rename_i o ho
    split at h; · exact h.elim
    rename_i hd
    split at h
    · rename_i hg
      have ho' : all.toArray[i]? = some o := by simpa using ho
      refine wpAny_all h1 (by simp) fun x hx => ?_
      have hxi : x = i := by simpa using hx
      subst hxi
      unfold wpOp
      simp only [ho']
      rw [if_pos (wanted_none hg)]
      exact .inl (exOp_sound hT (fun x v h => ha.ev x v (evR_evF h)) h (fun v w' q => ih _ _ _ _ _ (ha.put hd v) h3 q) (fun ch w' q => q.elim))
    · exact h.elim
  | .two i j :: r, g, listed, F, a, w, ha, hB, h => by
    have ih := scOps_sound hT all hsel (K := K) r
    change stepSc P T n all (.two i j) r (scOps P T n all r) F w K at h
    simp only [scB, Bool.and_eq_true, decide_eq_true_eq] at hB
    obtain ⟨⟨⟨⟨⟨hg2, h1⟩, hap⟩, h4⟩, h5⟩, h3⟩ := hB
    obtain ⟨g, rfl⟩ : ∃ g', g = g' + 2 := ⟨g - 2, by omega⟩
    simp only [Nat.add_sub_cancel] at h3
    unfold stepSc at h
    simp only at h
    split at h; · exact h.elim
    rename_i x hx
    split at h; · exact h.elim
    rename_i y hy
    split at h; · exact h.elim
    rename_i hdx
    split at h; · exact h.elim
    rename_i hdy
    have hx' : all.toArray[i]? = some x := by simpa using hx
    have hy' : all.toArray[j]? = some y := by simpa using hy
    unfold apB at hap
    rw [hx', hy'] at hap
    simp only [Bool.and_eq_true, Option.isNone_iff_eq_none, decide_eq_true_eq] at hap
    obtain ⟨⟨⟨⟨a1, a2⟩, gx⟩, gy⟩, hij⟩ := hap
    obtain ⟨v, hk, hr⟩ := tkOp_run hT h
    obtain ⟨u, hk2, hr2⟩ := tkOp_run hT hk
    have hax := ha.put hdx v
    have r1 := hr a (fun x v h => ha.ev x v (evR_evF h)) w rfl
    have r2 := hr2 (a.put x.dst v) (fun x v h => hax.ev x v (evR_evF h)) w rfl
    obtain ⟨p1, p2, p3⟩ := Oper.apart_spec a1
    obtain ⟨q1, q2, q3⟩ := Oper.apart_spec a2
    have sx := fun cs b => Region.noSelect_spec hsel i x cs b hx'
    have sy := fun cs b => Region.noSelect_spec hsel j y cs b hy'
    have fin := ih _ _ _ _ _ (hax.put hdy u) h3 hk2
    have r2' : (execOp a.eval y).run P w = .ok (.value u) w := by
      rw [← execOp_put (ops := all.toArray) y sy a x.dst v p1]; exact r2
    have r1' : (execOp (a.put y.dst u).eval x).run P w = .ok (.value v) w := by
      rw [execOp_put (ops := all.toArray) x sx a y.dst u q1]; exact r1
    refine wpAny_all h1 (by simp) fun z hz => ?_
    rcases List.mem_cons.1 hz with rfl | hz
    · refine wpOp_val hx' gx r1 ?_
      refine wpAny_all h4 (by simp) fun z' hz' => ?_
      have : z' = j := by simpa using hz'
      subst this
      exact wpOp_val hy' gy r2 fin
    · have : z = j := by simpa using hz
      subst this
      refine wpOp_val hy' gy r2' ?_
      refine wpAny_all h5 (by simp) fun z' hz' => ?_
      have : z' = i := by simpa using hz'
      subst this
      refine wpOp_val hx' gx r1' ?_
      rw [Array.setIfInBounds_comm _ _ ?_, Act.put_comm a u v q2]
      · exact fin
      · first | exact hij | exact hij.symm
theorem QW.one {w : World} : QW (fun w' => w' = w) w (fun a b => b = a) := ⟨fun w' q => q ▸ Ext.refl w, fun a b q r => r.trans q⟩
theorem Dr.scr (hT : TabOk P T) (hm : P.follows .mixedOrders = true) (ms : List Mv) {id : Nat} {ops : Array Oper} {F : Fr} {w : World} {K : Exit → Fr → World → Prop} (hB : scAll ops ms = true)
    (h : ∀ w1, Ext w w1 → w1.heap.size = w.heap.size → scOps P T n ops.toList ms F w1 (fun F w => K .normal F w)) : Dr P n id ops F w K := by
  refine ⟨fun a ha => ?_⟩
  obtain ⟨l⟩ := ops
  simp only [scAll, Bool.and_eq_true] at hB
  have e1 : Ext w { w with drawn := w.drawn + 1 } := ⟨rfl, rfl, rfl, Nat.le_refl _, fun _ _ => rfl⟩
  have H := scOps_sound hT l hB.1 ms _ _ F a { w with drawn := w.drawn + 1 } ha hB.2 (h _ e1 rfl)
  refine wp_region_any hm ?_
  refine wpAny_monoQ (fun a w q => ?_) (fun c a w q => ?_) (fun a w q => ?_) _ _ _ _ H
  · exact q.2
  · exact nomatch q.1
  · exact nomatch q.1
end
end Go.Sh
namespace Go.Proofs.YtfnjodpehomgfaaDoor
open Go Go.Sh Go.Tx
set_option linter.unusedVariables false
set_option linter.unusedSimpArgs false
set_option linter.unusedSectionVars false
attribute [local irreducible] Blk Ext RdS
theorem mixed : Tryd.prog.follows .mixedOrders = true := by kernel_rfl
theorem Hp.wide {S : Nat → Prop} {w0 w : World} {Γ : List Ck} (H : Hp nw w0 w Γ) : Hp S w0 w Γ :=
  ⟨⟨H.tch.os, H.tch.tape, H.tch.output, H.tch.size, fun k hk _ => H.tch.block k hk (fun h => h)⟩, H.ok, H.sep, fun c hc hn k hk => (H.dom c hc hn k hk).elim (fun h => h.elim) .inr⟩
theorem fail_c (pr : Nat) (e p : Int) (w : World) : Cl Tryd.prog 26 #[.pointer (some ⟨pr, 0, none⟩), .int .i64 e, .int .i64 p] w (fun _ _ => False) (fun ch w' => ∃ q, ch = pk q ∧ Hp nw w w' [bk q 59 [.int .i64 e, .int .i64 p]]) := by
  refine calls_ex (args := [.pointer (some ⟨pr, 0, none⟩), .int .i64 e, .int .i64 p]) T.ok Tryd.func26 rfl rfl rfl rfl ?_
  have H := Hp.begin nw w
  repeat' ((conv => whnf); first | (((with_reducible show Gd _ _ _); first | with_reducible refine Gd.t ?_ | with_reducible refine Gd.f ?_ | with_reducible refine Gd.dec (fun _ => ?_) (fun _ => ?_) | with_reducible refine Gd.beq (fun _ => ?_) (fun _ => ?_) | with_reducible refine Gd.bne (fun _ => ?_) (fun _ => ?_) | with_reducible refine Gd.not ?_ | refine Gd.t ?_ | refine Gd.f ?_ | with_reducible refine Gd.var (fun _ => ?_) (fun _ => ?_)) <;> first | (exfalso; omega) | skip) | with_reducible refine Sq.mk ?_ | ((with_reducible show Ld1 _ _ _); first | refine Ld1.h H ?_ | refine Ld1.rF ?_ | refine Ld1.r ?_) | ((with_reducible show Ld _ _ _ _); first | refine Ld.h H ?_ | refine Ld.r ?_) | ((with_reducible show Ix _ _ _ _ _); (first | refine Ix.h ?_ | refine Ix.ha ?_)) | (refine St.h H ?_; clear H; intro _ H))
  ((conv => whnf); refine Al.hp H ?_; clear H; intro q _ H _)
  repeat' ((conv => whnf); first | (((with_reducible show Gd _ _ _); first | with_reducible refine Gd.t ?_ | with_reducible refine Gd.f ?_ | with_reducible refine Gd.dec (fun _ => ?_) (fun _ => ?_) | with_reducible refine Gd.beq (fun _ => ?_) (fun _ => ?_) | with_reducible refine Gd.bne (fun _ => ?_) (fun _ => ?_) | with_reducible refine Gd.not ?_ | refine Gd.t ?_ | refine Gd.f ?_ | with_reducible refine Gd.var (fun _ => ?_) (fun _ => ?_)) <;> first | (exfalso; omega) | skip) | with_reducible refine Sq.mk ?_ | ((with_reducible show Ld1 _ _ _); first | refine Ld1.h H ?_ | refine Ld1.rF ?_ | refine Ld1.r ?_) | ((with_reducible show Ld _ _ _ _); first | refine Ld.h H ?_ | refine Ld.r ?_) | ((with_reducible show Ix _ _ _ _ _); (first | refine Ix.h ?_ | refine Ix.ha ?_)) | (refine Al.hp H ?_; clear H; intro _ _ H _) | (refine St.h H ?_; clear H; intro _ H))
  exact ⟨q, rfl, H⟩
theorem step_c (m : Bool) (src : Bs) (pr : Nat) (ts : List Tk) (wb w : World) (hwb : Ext wb w) (hlo : wb.heap.size ≤ pr) (hT : Tb wb) (hl : src.length ≤ 1000000) (h : Rdr src pr ts w) (hk : curK ts ≠ k_end) :
    Cl Tryd.prog 17 #[.pointer (some ⟨pr, 0, none⟩), .bool m] w (fun _ w' => ∃ ts', stepP m ts = .ok () ts' ∧ Hp (· = pr) w w' [rdr src pr ts']) (PanX (stepP m ts) pr w) := by
  obtain ⟨nx, t, r, rfl, hnx, hr, hb⟩ := h
  have hr := hr.1 hk
  obtain ⟨r2, hw, hr2⟩ := words_at src hnx
  obtain ⟨had, _, _⟩ := read_adv src hnx
  have hrl : r2.length ≤ src.length + 1 := by
    have h1 := words_len src (src.length + 1 - nx) nx
    rw [hw, List.length_cons] at h1
    omega
  rw [hw] at hr
  subst hr
  have hrn := read_n src nx
  have hrd := fun w' e => read_c src nx w' (hT.ext e) hnx hl
  generalize hq : readT src nx = rq at *
  obtain ⟨t', q⟩ := rq
  simp only at hr2 had hrd hrn ⊢
  have HB : BaseOk (· = pr) wb w := ⟨hwb, fun k hk => by subst hk; exact hlo⟩
  refine calls_ex (args := [.pointer (some ⟨pr, 0, none⟩), .bool m]) T.ok Tryd.func17 rfl rfl rfl rfl ?_
  have H := Hp.start (S := (· = pr)) (bk_ok hb) (fun k hk => hk)
  repeat' ((conv => whnf); first | (((with_reducible show Gd _ _ _); first | with_reducible refine Gd.t ?_ | with_reducible refine Gd.f ?_ | with_reducible refine Gd.dec (fun _ => ?_) (fun _ => ?_) | with_reducible refine Gd.beq (fun _ => ?_) (fun _ => ?_) | with_reducible refine Gd.bne (fun _ => ?_) (fun _ => ?_) | with_reducible refine Gd.not ?_ | refine Gd.t ?_ | refine Gd.f ?_ | with_reducible refine Gd.var (fun _ => ?_) (fun _ => ?_)) <;> first | (exfalso; omega) | skip) | with_reducible refine Sq.mk ?_ | ((with_reducible show Ld1 _ _ _); first | refine Ld1.h H ?_ | refine Ld1.rF ?_ | refine Ld1.r ?_) | ((with_reducible show Ld _ _ _ _); first | refine Ld.h H ?_ | refine Ld.r ?_) | ((with_reducible show Ix _ _ _ _ _); (first | refine Ix.h ?_ | refine Ix.ha ?_)) | (refine Al.hp H ?_; clear H; intro _ _ H _) | (refine St.h H ?_; clear H; intro _ H))
  (conv => whnf)
  refine Dr.scr T.ok mixed [.tk 0, .tk 1, .tk 2, .tk 3, .tk 4, .tk 6, .tk 7, .tk 8, .two 5 9, .al 10, .tk 11, .tk 12, .tk 13, .tk 14, .tk 15, .al 16, .tk 17, .tk 18, .al 19] (by kernel_rfl) (fun w1 eT _ => ?_)
  replace H := H.ext eT
  clear eT
  repeat' ((conv => whnf); first | (((with_reducible show Gd _ _ _); first | with_reducible refine Gd.t ?_ | with_reducible refine Gd.f ?_ | with_reducible refine Gd.dec (fun _ => ?_) (fun _ => ?_) | with_reducible refine Gd.beq (fun _ => ?_) (fun _ => ?_) | with_reducible refine Gd.bne (fun _ => ?_) (fun _ => ?_) | with_reducible refine Gd.not ?_ | refine Gd.t ?_ | refine Gd.f ?_ | with_reducible refine Gd.var (fun _ => ?_) (fun _ => ?_)) <;> first | (exfalso; omega) | skip) | ((with_reducible show QLd1 _ _ _); first | refine QLd1.h QW.one H ?_ | refine QLd1.rF QW.one ?_ | refine QLd1.r QW.one ?_) | ((with_reducible show QLd _ _ _ _); first | refine QLd.h QW.one H ?_ | refine QLd.r QW.one ?_) | ((with_reducible show Ix _ _ _ _ _); (first | refine Ix.h ?_ | refine Ix.ha ?_)))
  ((conv => whnf); refine Cl.mk (hrd _ (H.base2 HB)) ?_)
  rintro _ w2 ⟨rfl, ex⟩
  replace H := H.ext ex
  clear ex
  have hsame : curT (t' :: r2) = t' := rfl
  by_cases he : t'.err = 0
  case neg =>
    have hR : stepP m (t :: t' :: r2) = .err t'.err t'.at_ := by simp only [stepP]; rw [if_pos he]
    rw [hR]
    repeat' ((conv => whnf); first | (((with_reducible show Gd _ _ _); first | with_reducible refine Gd.t ?_ | with_reducible refine Gd.f ?_ | with_reducible refine Gd.dec (fun _ => ?_) (fun _ => ?_) | with_reducible refine Gd.beq (fun _ => ?_) (fun _ => ?_) | with_reducible refine Gd.bne (fun _ => ?_) (fun _ => ?_) | with_reducible refine Gd.not ?_ | refine Gd.t ?_ | refine Gd.f ?_ | with_reducible refine Gd.var (fun _ => ?_) (fun _ => ?_)) <;> first | (exfalso; omega) | skip) | with_reducible refine Sq.mk ?_ | ((with_reducible show Ld1 _ _ _); first | refine Ld1.h H ?_ | refine Ld1.rF ?_ | refine Ld1.r ?_) | ((with_reducible show Ld _ _ _ _); first | refine Ld.h H ?_ | refine Ld.r ?_) | ((with_reducible show Ix _ _ _ _ _); (first | refine Ix.h ?_ | refine Ix.ha ?_)) | (refine Al.hp H ?_; clear H; intro _ _ H _) | (refine St.h H ?_; clear H; intro _ H))
    all_goals first | (exfalso; omega) | skip
    (conv => whnf)
    refine Dr.tail T.ok mixed 11 (by kernel_rfl) (fun W w0 hW eT _ => ?_)
    repeat' ((conv => whnf); first | (((with_reducible show Gd _ _ _); first | with_reducible refine Gd.t ?_ | with_reducible refine Gd.f ?_ | with_reducible refine Gd.dec (fun _ => ?_) (fun _ => ?_) | with_reducible refine Gd.beq (fun _ => ?_) (fun _ => ?_) | with_reducible refine Gd.bne (fun _ => ?_) (fun _ => ?_) | with_reducible refine Gd.not ?_ | refine Gd.t ?_ | refine Gd.f ?_ | with_reducible refine Gd.var (fun _ => ?_) (fun _ => ?_)) <;> first | (exfalso; omega) | skip) | ((with_reducible show QLd1 _ _ _); first | refine QLd1.h hW H ?_ | refine QLd1.rF hW ?_ | refine QLd1.r hW ?_) | ((with_reducible show QLd _ _ _ _); first | refine QLd.h hW H ?_ | refine QLd.r hW ?_) | ((with_reducible show Ix _ _ _ _ _); (first | refine Ix.h ?_ | refine Ix.ha ?_)))
    (conv => whnf)
    replace H := H.ext eT
    refine Cl.mkX (fail_c pr t'.err t'.at_ _) (fun _ _ h => h.elim) ?_
    rintro ch w5 ⟨q5, rfl, H'⟩
    exact ⟨t'.err, t'.at_, q5, rfl, rfl, (H.fr0 H' (.inl rfl)).sel [0] rfl⟩
  have hfix : ∀ w', Hp (· = pr) w w' [bk pr 64 (rdrCs src q t')] → Hp (· = pr) w w' [bk pr 64 (rdrCs src q t')] := fun _ h => h
  have hrd2 : ∀ w', Hp (· = pr) w w' [bk pr 64 (rdrCs src q t')] → Hp (· = pr) w w' [rdr src pr (t' :: r2)] := fun w' H => by
    have hb2 := H.blk 0 rfl
    exact Hp.upd (c := bk pr 64 (rdrCs src q t')) H (Hp.start (S := (· = pr)) (rdr_ok ⟨q, t', r2, rfl, had, ⟨fun hk' => hr2 he hk', hrl, hrn⟩, hb2⟩) (fun k hk => hk)) rfl (.inl rfl)
  by_cases hL : t'.kind = k_number ∧ t'.n = -9223372036854775808 ∧ m = false
  · have hR : stepP m (t :: t' :: r2) = .err 143 t'.at_ := by simp only [stepP]; rw [if_neg (fun h => h he), if_pos hL]
    rw [hR]
    obtain ⟨hL1, hL2, rfl⟩ := hL
    repeat' ((conv => whnf); first | ((with_reducible show Gd (bs _ == _) _ _); first | refine Gd.sY (by assumption) ?_ | refine Gd.sk (by assumption) ?_ | refine Gd.sN (by assumption) ?_) | ((conv => whnf); first | (((with_reducible show Gd _ _ _); first | with_reducible refine Gd.t ?_ | with_reducible refine Gd.f ?_ | with_reducible refine Gd.dec (fun _ => ?_) (fun _ => ?_) | with_reducible refine Gd.beq (fun _ => ?_) (fun _ => ?_) | with_reducible refine Gd.bne (fun _ => ?_) (fun _ => ?_) | with_reducible refine Gd.not ?_ | refine Gd.t ?_ | refine Gd.f ?_ | with_reducible refine Gd.var (fun _ => ?_) (fun _ => ?_)) <;> first | (exfalso; omega) | skip) | with_reducible refine Sq.mk ?_ | ((with_reducible show Ld1 _ _ _); first | refine Ld1.h H ?_ | refine Ld1.rF ?_ | refine Ld1.r ?_) | ((with_reducible show Ld _ _ _ _); first | refine Ld.h H ?_ | refine Ld.r ?_) | ((with_reducible show Ix _ _ _ _ _); (first | refine Ix.h ?_ | refine Ix.ha ?_)) | (refine Al.hp H ?_; clear H; intro _ _ H _) | (refine St.h H ?_; clear H; intro _ H)) | refine Sm.strix T.ok ?_)
    all_goals first | (exfalso; omega) | skip
    (conv => whnf)
    refine Cl.mkX (fail_c pr 143 t'.at_ _) (fun _ _ h => h.elim) ?_
    rintro ch w5 ⟨q5, rfl, H'⟩
    exact ⟨143, t'.at_, q5, rfl, rfl, (H.fr0 H' (.inl rfl)).sel [0] rfl⟩
  · have hR : stepP m (t :: t' :: r2) = .ok () (t' :: r2) := by simp only [stepP]; rw [if_neg (fun h => h he), if_neg hL]
    rw [hR]
    by_cases hL1 : t'.kind = k_number
    · by_cases hL2 : t'.n = -9223372036854775808
      · have hm : m = true := by
          cases m with
          | true => rfl
          | false => exact absurd ⟨hL1, hL2, rfl⟩ hL
        subst hm
        repeat' ((conv => whnf); first | ((with_reducible show Gd (bs _ == _) _ _); first | refine Gd.sY (by assumption) ?_ | refine Gd.sk (by assumption) ?_ | refine Gd.sN (by assumption) ?_) | ((conv => whnf); first | (((with_reducible show Gd _ _ _); first | with_reducible refine Gd.t ?_ | with_reducible refine Gd.f ?_ | with_reducible refine Gd.dec (fun _ => ?_) (fun _ => ?_) | with_reducible refine Gd.beq (fun _ => ?_) (fun _ => ?_) | with_reducible refine Gd.bne (fun _ => ?_) (fun _ => ?_) | with_reducible refine Gd.not ?_ | refine Gd.t ?_ | refine Gd.f ?_ | with_reducible refine Gd.var (fun _ => ?_) (fun _ => ?_)) <;> first | (exfalso; omega) | skip) | with_reducible refine Sq.mk ?_ | ((with_reducible show Ld1 _ _ _); first | refine Ld1.h H ?_ | refine Ld1.rF ?_ | refine Ld1.r ?_) | ((with_reducible show Ld _ _ _ _); first | refine Ld.h H ?_ | refine Ld.r ?_) | ((with_reducible show Ix _ _ _ _ _); (first | refine Ix.h ?_ | refine Ix.ha ?_)) | (refine Al.hp H ?_; clear H; intro _ _ H _) | (refine St.h H ?_; clear H; intro _ H)) | refine Sm.strix T.ok ?_)
        all_goals first | (exfalso; omega) | skip
        exact ⟨t' :: r2, rfl, hrd2 _ H⟩
      · repeat' ((conv => whnf); first | ((with_reducible show Gd (bs _ == _) _ _); first | refine Gd.sY (by assumption) ?_ | refine Gd.sk (by assumption) ?_ | refine Gd.sN (by assumption) ?_) | ((conv => whnf); first | (((with_reducible show Gd _ _ _); first | with_reducible refine Gd.t ?_ | with_reducible refine Gd.f ?_ | with_reducible refine Gd.dec (fun _ => ?_) (fun _ => ?_) | with_reducible refine Gd.beq (fun _ => ?_) (fun _ => ?_) | with_reducible refine Gd.bne (fun _ => ?_) (fun _ => ?_) | with_reducible refine Gd.not ?_ | refine Gd.t ?_ | refine Gd.f ?_ | with_reducible refine Gd.var (fun _ => ?_) (fun _ => ?_)) <;> first | (exfalso; omega) | skip) | with_reducible refine Sq.mk ?_ | ((with_reducible show Ld1 _ _ _); first | refine Ld1.h H ?_ | refine Ld1.rF ?_ | refine Ld1.r ?_) | ((with_reducible show Ld _ _ _ _); first | refine Ld.h H ?_ | refine Ld.r ?_) | ((with_reducible show Ix _ _ _ _ _); (first | refine Ix.h ?_ | refine Ix.ha ?_)) | (refine Al.hp H ?_; clear H; intro _ _ H _) | (refine St.h H ?_; clear H; intro _ H)) | refine Sm.strix T.ok ?_)
        all_goals first | (exfalso; omega) | skip
        exact ⟨t' :: r2, rfl, hrd2 _ H⟩
    · repeat' ((conv => whnf); first | ((with_reducible show Gd (bs _ == _) _ _); first | refine Gd.sY (by assumption) ?_ | refine Gd.sk (by assumption) ?_ | refine Gd.sN (by assumption) ?_) | ((conv => whnf); first | (((with_reducible show Gd _ _ _); first | with_reducible refine Gd.t ?_ | with_reducible refine Gd.f ?_ | with_reducible refine Gd.dec (fun _ => ?_) (fun _ => ?_) | with_reducible refine Gd.beq (fun _ => ?_) (fun _ => ?_) | with_reducible refine Gd.bne (fun _ => ?_) (fun _ => ?_) | with_reducible refine Gd.not ?_ | refine Gd.t ?_ | refine Gd.f ?_ | with_reducible refine Gd.var (fun _ => ?_) (fun _ => ?_)) <;> first | (exfalso; omega) | skip) | with_reducible refine Sq.mk ?_ | ((with_reducible show Ld1 _ _ _); first | refine Ld1.h H ?_ | refine Ld1.rF ?_ | refine Ld1.r ?_) | ((with_reducible show Ld _ _ _ _); first | refine Ld.h H ?_ | refine Ld.r ?_) | ((with_reducible show Ix _ _ _ _ _); (first | refine Ix.h ?_ | refine Ix.ha ?_)) | (refine Al.hp H ?_; clear H; intro _ _ H _) | (refine St.h H ?_; clear H; intro _ H)) | refine Sm.strix T.ok ?_)
      all_goals first | (exfalso; omega) | skip
      exact ⟨t' :: r2, rfl, hrd2 _ H⟩
/-- a reader's block, seen as a reader; and back -/
theorem Hp.toR {S : Nat → Prop} {w0 w : World} {Γ Γ' : List Ck} {src : Bs} {pr nx : Nat} {t : Tk} {r : List Tk} (H : Hp S w0 w Γ) (h1 : nx ≤ src.length) (h2 : (t.kind ≠ k_end → r = words src (src.length + 1 - nx) nx) ∧ r.length ≤ src.length + 1 ∧ -9223372036854775808 ≤ t.n ∧ t.n ≤ 0)
    (u : Upd1 Γ (bk pr 64 (rdrCs src nx t)) (rdr src pr (t :: r)) Γ' := by (repeat (first | exact Upd1.head | apply Upd1.tail))) : Hp S w0 w Γ' := by
  obtain ⟨L, R, h3, rfl⟩ := u.sp
  have hb : Blk w pr 64 (rdrCs src nx t) := H.mem (c := bk pr 64 (rdrCs src nx t)) (by rw [h3.eq]; simp)
  exact H.putS h3 (Hp.start (S := (· = pr)) (rdr_ok ⟨nx, t, r, rfl, h1, h2, hb⟩) (fun k hk => hk)) rfl (.inl rfl)
theorem deep_c (d : Int) (src : Bs) (pr : Nat) (ts : List Tk) (dn : Nat) (hd : d = (dn : Int)) (w : World) (h : Rdr src pr ts w) :
    Cl Tryd.prog 61 #[.pointer (some ⟨pr, 0, none⟩), .int .i64 d] w (fun _ w' => deepP dn ts = .ok () ts ∧ Ext w w') (PanX (deepP dn ts) pr w) := by
  obtain ⟨nx, t, r, rfl, hnx, hr, hb⟩ := h
  subst hd
  refine calls_ex (args := [.pointer (some ⟨pr, 0, none⟩), .int .i64 (dn : Int)]) T.ok Tryd.func61 rfl rfl rfl rfl ?_
  have H := Hp.start (S := (· = pr)) (bk_ok hb) (fun k hk => hk)
  by_cases h40 : 40 < dn
  · have hR : deepP dn (t :: r) = .err 144 t.at_ := by unfold deepP; rw [if_pos h40]; rfl
    rw [hR]
    repeat' ((conv => whnf); first | (((with_reducible show Gd _ _ _); first | with_reducible refine Gd.t ?_ | with_reducible refine Gd.f ?_ | with_reducible refine Gd.dec (fun _ => ?_) (fun _ => ?_) | with_reducible refine Gd.beq (fun _ => ?_) (fun _ => ?_) | with_reducible refine Gd.bne (fun _ => ?_) (fun _ => ?_) | with_reducible refine Gd.not ?_ | refine Gd.t ?_ | refine Gd.f ?_ | with_reducible refine Gd.var (fun _ => ?_) (fun _ => ?_)) <;> first | (exfalso; omega) | skip) | with_reducible refine Sq.mk ?_ | ((with_reducible show Ld1 _ _ _); first | refine Ld1.h H ?_ | refine Ld1.rF ?_ | refine Ld1.r ?_) | ((with_reducible show Ld _ _ _ _); first | refine Ld.h H ?_ | refine Ld.r ?_) | ((with_reducible show Ix _ _ _ _ _); (first | refine Ix.h ?_ | refine Ix.ha ?_)) | (refine Al.hp H ?_; clear H; intro _ _ H _) | (refine St.h H ?_; clear H; intro _ H))
    all_goals first | (exfalso; omega) | skip
    (conv => whnf)
    refine Cl.mkX (fail_c pr 144 t.at_ _) (fun _ _ h => h.elim) ?_
    rintro ch w5 ⟨q5, rfl, H'⟩
    exact ⟨144, t.at_, q5, rfl, rfl, (H.fr0 H' (.inl rfl)).sel [0] rfl⟩
  · have hR : deepP dn (t :: r) = .ok () (t :: r) := by unfold deepP; rw [if_neg h40]
    rw [hR]
    have H0 := Hp.begin nw w
    repeat' ((conv => whnf); first | (((with_reducible show Gd _ _ _); first | with_reducible refine Gd.t ?_ | with_reducible refine Gd.f ?_ | with_reducible refine Gd.dec (fun _ => ?_) (fun _ => ?_) | with_reducible refine Gd.beq (fun _ => ?_) (fun _ => ?_) | with_reducible refine Gd.bne (fun _ => ?_) (fun _ => ?_) | with_reducible refine Gd.not ?_ | refine Gd.t ?_ | refine Gd.f ?_ | with_reducible refine Gd.var (fun _ => ?_) (fun _ => ?_)) <;> first | (exfalso; omega) | skip) | with_reducible refine Sq.mk ?_ | ((with_reducible show Ld1 _ _ _); first | refine Ld1.h H ?_ | refine Ld1.rF ?_ | refine Ld1.r ?_) | ((with_reducible show Ld _ _ _ _); first | refine Ld.h H ?_ | refine Ld.r ?_) | ((with_reducible show Ix _ _ _ _ _); (first | refine Ix.h ?_ | refine Ix.ha ?_)) | (refine Al.hp H ?_; clear H; intro _ _ H _) | (refine St.h H ?_; clear H; intro _ H))
    all_goals first | (exfalso; omega) | skip
    exact ⟨rfl, H0.e⟩
theorem curK_cons (t : Tk) (r : List Tk) : curK (t :: r) = t.kind := rfl
theorem take_c (k : Bs) (src : Bs) (pr : Nat) (ts : List Tk) (wb w : World) (hwb : Ext wb w) (hlo : wb.heap.size ≤ pr) (hT : Tb wb) (hl : src.length ≤ 1000000) (h : Rdr src pr ts w) (hk : k ≠ k_end) :
    Cl Tryd.prog 27 #[.pointer (some ⟨pr, 0, none⟩), .string (bs k)] w (fun v w' => ∃ t ts', takeP k ts = .ok t ts' ∧ v = tkV t ∧ Hp (· = pr) w w' [rdr src pr ts']) (PanX (takeP k ts) pr w) := by
  have h0 := h
  obtain ⟨nx, t, r, rfl, hnx, hr, hb⟩ := h0
  have HB : BaseOk (· = pr) wb w := ⟨hwb, fun k hk => by subst hk; exact hlo⟩
  refine calls_ex (args := [.pointer (some ⟨pr, 0, none⟩), .string (bs k)]) T.ok Tryd.func27 rfl rfl rfl rfl ?_
  have H := Hp.start (S := (· = pr)) (bk_ok hb) (fun k hk => hk)
  refine Sq.mk ?_
  ((conv => whnf); refine Al.hp H ?_; clear H; intro p4 _ H _)
  repeat' ((conv => whnf); first | (((with_reducible show Gd _ _ _); first | with_reducible refine Gd.t ?_ | with_reducible refine Gd.f ?_ | with_reducible refine Gd.dec (fun _ => ?_) (fun _ => ?_) | with_reducible refine Gd.beq (fun _ => ?_) (fun _ => ?_) | with_reducible refine Gd.bne (fun _ => ?_) (fun _ => ?_) | with_reducible refine Gd.not ?_ | refine Gd.t ?_ | refine Gd.f ?_ | with_reducible refine Gd.var (fun _ => ?_) (fun _ => ?_)) <;> first | (exfalso; omega) | skip) | with_reducible refine Sq.mk ?_ | ((with_reducible show Ld1 _ _ _); first | refine Ld1.h H ?_ | refine Ld1.rF ?_ | refine Ld1.r ?_) | ((with_reducible show Ld _ _ _ _); first | refine Ld.h H ?_ | refine Ld.r ?_) | ((with_reducible show Ix _ _ _ _ _); (first | refine Ix.h ?_ | refine Ix.ha ?_)) | (refine St.h H ?_; clear H; intro _ H))
  ((conv => whnf); refine Al.hp H ?_; clear H; intro p5 _ H _)
  by_cases hne : t.kind = k
  · have hR : takeP k (t :: r) = (stepP false (t :: r)).bind fun _ ts' => .ok t ts' := by
      unfold takeP
      rw [if_neg (by rw [curK_cons, hne]; simp)]; rfl
    rw [hR]
    repeat' ((conv => whnf); first | ((with_reducible show Gd (bs _ == _) _ _); first | refine Gd.sY (by assumption) ?_ | refine Gd.sk (by assumption) ?_ | refine Gd.sN (by assumption) ?_) | ((conv => whnf); first | (((with_reducible show Gd _ _ _); first | with_reducible refine Gd.t ?_ | with_reducible refine Gd.f ?_ | with_reducible refine Gd.dec (fun _ => ?_) (fun _ => ?_) | with_reducible refine Gd.beq (fun _ => ?_) (fun _ => ?_) | with_reducible refine Gd.bne (fun _ => ?_) (fun _ => ?_) | with_reducible refine Gd.not ?_ | refine Gd.t ?_ | refine Gd.f ?_ | with_reducible refine Gd.var (fun _ => ?_) (fun _ => ?_)) <;> first | (exfalso; omega) | skip) | with_reducible refine Sq.mk ?_ | ((with_reducible show Ld1 _ _ _); first | refine Ld1.h H ?_ | refine Ld1.rF ?_ | refine Ld1.r ?_) | ((with_reducible show Ld _ _ _ _); first | refine Ld.h H ?_ | refine Ld.r ?_) | ((with_reducible show Ix _ _ _ _ _); (first | refine Ix.h ?_ | refine Ix.ha ?_)) | (refine Al.hp H ?_; clear H; intro _ _ H _) | (refine St.h H ?_; clear H; intro _ H)) | refine Sm.strix T.ok ?_)
    replace H := Hp.toR H hnx hr
    (conv => whnf)
    refine Cl.mkX (step_c false src pr (t :: r) wb _ (H.base2 HB) hlo hT hl (H.atC 2 rfl) (by rw [curK_cons, hne]; exact hk)) ?_ ?_
    · rintro _ w2 ⟨ts', h1, H'⟩
      replace H := H.upd (c := rdr src pr (t :: r)) H' rfl (.inl rfl)
      repeat' ((conv => whnf); first | ((with_reducible show Gd (bs _ == _) _ _); first | refine Gd.sY (by assumption) ?_ | refine Gd.sk (by assumption) ?_ | refine Gd.sN (by assumption) ?_) | ((conv => whnf); first | (((with_reducible show Gd _ _ _); first | with_reducible refine Gd.t ?_ | with_reducible refine Gd.f ?_ | with_reducible refine Gd.dec (fun _ => ?_) (fun _ => ?_) | with_reducible refine Gd.beq (fun _ => ?_) (fun _ => ?_) | with_reducible refine Gd.bne (fun _ => ?_) (fun _ => ?_) | with_reducible refine Gd.not ?_ | refine Gd.t ?_ | refine Gd.f ?_ | with_reducible refine Gd.var (fun _ => ?_) (fun _ => ?_)) <;> first | (exfalso; omega) | skip) | with_reducible refine Sq.mk ?_ | ((with_reducible show Ld1 _ _ _); first | refine Ld1.h H ?_ | refine Ld1.rF ?_ | refine Ld1.r ?_) | ((with_reducible show Ld _ _ _ _); first | refine Ld.h H ?_ | refine Ld.r ?_) | ((with_reducible show Ix _ _ _ _ _); (first | refine Ix.h ?_ | refine Ix.ha ?_)) | (refine Al.hp H ?_; clear H; intro _ _ H _) | (refine St.h H ?_; clear H; intro _ H)) | refine Sm.strix T.ok ?_)
      exact ⟨t, ts', by rw [h1]; rfl, rfl, H.sel [2] rfl⟩
    · rintro ch w2 ⟨e, p, q, h1, rfl, H'⟩
      exact ⟨e, p, q, by rw [h1]; rfl, rfl, Hp.pan H H' (.inl rfl)⟩
  · have hR : takeP k (t :: r) = .err 141 t.at_ := by
      unfold takeP
      rw [if_pos (by rw [curK_cons]; exact hne)]; rfl
    rw [hR]
    repeat' ((conv => whnf); first | ((with_reducible show Gd (bs _ == _) _ _); first | refine Gd.sY (by assumption) ?_ | refine Gd.sk (by assumption) ?_ | refine Gd.sN (by assumption) ?_) | ((conv => whnf); first | (((with_reducible show Gd _ _ _); first | with_reducible refine Gd.t ?_ | with_reducible refine Gd.f ?_ | with_reducible refine Gd.dec (fun _ => ?_) (fun _ => ?_) | with_reducible refine Gd.beq (fun _ => ?_) (fun _ => ?_) | with_reducible refine Gd.bne (fun _ => ?_) (fun _ => ?_) | with_reducible refine Gd.not ?_ | refine Gd.t ?_ | refine Gd.f ?_ | with_reducible refine Gd.var (fun _ => ?_) (fun _ => ?_)) <;> first | (exfalso; omega) | skip) | with_reducible refine Sq.mk ?_ | ((with_reducible show Ld1 _ _ _); first | refine Ld1.h H ?_ | refine Ld1.rF ?_ | refine Ld1.r ?_) | ((with_reducible show Ld _ _ _ _); first | refine Ld.h H ?_ | refine Ld.r ?_) | ((with_reducible show Ix _ _ _ _ _); (first | refine Ix.h ?_ | refine Ix.ha ?_)) | (refine Al.hp H ?_; clear H; intro _ _ H _) | (refine St.h H ?_; clear H; intro _ H)) | refine Sm.strix T.ok ?_)
    (conv => whnf)
    refine Cl.mkX (fail_c pr 141 t.at_ _) (fun _ _ h => h.elim) ?_
    rintro ch w5 ⟨q5, rfl, H'⟩
    exact ⟨141, t.at_, q5, rfl, rfl, (H.fr0 H' (.inl rfl)).sel [0] rfl⟩
end Go.Proofs.YtfnjodpehomgfaaDoor
namespace Go.Proofs.YtfnjodpehomgfaaDoor
open Go Go.Sh Go.Tx
set_option linter.unusedVariables false
set_option linter.unusedSimpArgs false
set_option linter.unusedSectionVars false
attribute [local irreducible] Blk Ext RdS
theorem find_c (s : Bs) (w : World) (hT : Tb w) : Cl Tryd.prog 89 #[.string (bs s)] w (fun v w' => v = .int .i64 (findOp s) ∧ Ext w w') (fun _ _ => False) := by
  refine calls_ex (args := [.string (bs s)]) T.ok Tryd.func89 rfl rfl rfl rfl ?_
  have H := Hp.begin nw w
  repeat' ((conv => whnf); first | (((with_reducible show Gd _ _ _); first | with_reducible refine Gd.t ?_ | with_reducible refine Gd.f ?_ | with_reducible refine Gd.dec (fun _ => ?_) (fun _ => ?_) | with_reducible refine Gd.beq (fun _ => ?_) (fun _ => ?_) | with_reducible refine Gd.bne (fun _ => ?_) (fun _ => ?_) | with_reducible refine Gd.not ?_ | refine Gd.t ?_ | refine Gd.f ?_ | with_reducible refine Gd.var (fun _ => ?_) (fun _ => ?_)) <;> first | (exfalso; omega) | skip) | with_reducible refine Sq.mk ?_ | ((with_reducible show Ld1 _ _ _); first | refine Ld1.h H ?_ | refine Ld1.rF ?_ | refine Ld1.r ?_) | ((with_reducible show Ld _ _ _ _); first | refine Ld.h H ?_ | refine Ld.r ?_) | ((with_reducible show Ix _ _ _ _ _); (first | refine Ix.h ?_ | refine Ix.ha ?_)) | (refine Al.hp H ?_; clear H; intro _ _ H _) | (refine St.h H ?_; clear H; intro _ H))
  (conv => whnf)
  refine Ld.all hT.nm ?_
  repeat' ((conv => whnf); first | (((with_reducible show Gd _ _ _); first | with_reducible refine Gd.t ?_ | with_reducible refine Gd.f ?_ | with_reducible refine Gd.dec (fun _ => ?_) (fun _ => ?_) | with_reducible refine Gd.beq (fun _ => ?_) (fun _ => ?_) | with_reducible refine Gd.bne (fun _ => ?_) (fun _ => ?_) | with_reducible refine Gd.not ?_ | refine Gd.t ?_ | refine Gd.f ?_ | with_reducible refine Gd.var (fun _ => ?_) (fun _ => ?_)) <;> first | (exfalso; omega) | skip) | with_reducible refine Sq.mk ?_ | ((with_reducible show Ld1 _ _ _); first | refine Ld1.h H ?_ | refine Ld1.rF ?_ | refine Ld1.r ?_) | ((with_reducible show Ld _ _ _ _); first | refine Ld.h H ?_ | refine Ld.r ?_) | ((with_reducible show Ix _ _ _ _ _); (first | refine Ix.h ?_ | refine Ix.ha ?_)) | (refine Al.hp H ?_; clear H; intro _ _ H _) | (refine St.h H ?_; clear H; intro _ H))
  refine Lp.g0 T.ok (σ := Nat) (fun i => [(6, .int .i64 (i : Int)), (5, .agg (opNames.map fun b => Value.string (bs b)).toArray), (0, .string (bs s))])
    (fun i w' => i ≤ 16 ∧ findAux s (opNames.drop i) i = findOp s ∧ Hp nw w w' []) (fun i _ => 16 - i) 0 rfl ⟨rfl, rfl, rfl, trivial⟩ ⟨Nat.zero_le _, rfl, H⟩ ?_
  clear H
  rintro i w5 ⟨hi, hc, H⟩
  by_cases hlt : i < 16
  · obtain ⟨x, hx⟩ : ∃ x, opNames[i]? = some x := ⟨_, List.getElem?_eq_getElem (show i < opNames.length from hlt)⟩
    obtain ⟨hx1, hx2⟩ := List.getElem?_eq_some_iff.1 hx
    rw [List.drop_eq_getElem_cons hx1, hx2] at hc
    simp only [findAux] at hc
    repeat' ((conv => whnf); first | (((with_reducible show Gd _ _ _); first | with_reducible refine Gd.t ?_ | with_reducible refine Gd.f ?_ | with_reducible refine Gd.dec (fun _ => ?_) (fun _ => ?_) | with_reducible refine Gd.beq (fun _ => ?_) (fun _ => ?_) | with_reducible refine Gd.bne (fun _ => ?_) (fun _ => ?_) | with_reducible refine Gd.not ?_ | refine Gd.t ?_ | refine Gd.f ?_ | with_reducible refine Gd.var (fun _ => ?_) (fun _ => ?_)) <;> first | (exfalso; omega) | skip) | with_reducible refine Sq.mk ?_ | ((with_reducible show Ld1 _ _ _); first | refine Ld1.h H ?_ | refine Ld1.rF ?_ | refine Ld1.r ?_) | ((with_reducible show Ld _ _ _ _); first | refine Ld.h H ?_ | refine Ld.r ?_) | ((with_reducible show Ix _ _ _ _ _); (first | refine Ix.h ?_ | refine Ix.ha ?_)) | (refine Al.hp H ?_; clear H; intro _ _ H _) | (refine St.h H ?_; clear H; intro _ H))
    refine Sm.arrix T.ok (v := .string (bs x)) (by simp [hx]) hlt ?_
    repeat' ((conv => whnf); first | (((with_reducible show Gd _ _ _); first | with_reducible refine Gd.t ?_ | with_reducible refine Gd.f ?_ | with_reducible refine Gd.dec (fun _ => ?_) (fun _ => ?_) | with_reducible refine Gd.beq (fun _ => ?_) (fun _ => ?_) | with_reducible refine Gd.bne (fun _ => ?_) (fun _ => ?_) | with_reducible refine Gd.not ?_ | refine Gd.t ?_ | refine Gd.f ?_ | with_reducible refine Gd.var (fun _ => ?_) (fun _ => ?_)) <;> first | (exfalso; omega) | skip) | with_reducible refine Sq.mk ?_ | ((with_reducible show Ld1 _ _ _); first | refine Ld1.h H ?_ | refine Ld1.rF ?_ | refine Ld1.r ?_) | ((with_reducible show Ld _ _ _ _); first | refine Ld.h H ?_ | refine Ld.r ?_) | ((with_reducible show Ix _ _ _ _ _); (first | refine Ix.h ?_ | refine Ix.ha ?_)) | (refine Al.hp H ?_; clear H; intro _ _ H _) | (refine St.h H ?_; clear H; intro _ H))
    · have hb : (bs x == bs s) = true := by assumption
      rw [bs_eq] at hb
      rw [if_pos (of_decide_eq_true hb)] at hc
      exact ⟨by rw [← hc]; rfl, H.e⟩
    · have hb : (bs x == bs s) = false := by assumption
      rw [bs_eq] at hb
      rw [if_neg (of_decide_eq_false hb)] at hc
      exact ⟨i + 1, ⟨at_int (m := ((i + 1 : Nat) : Int)) rfl (w64 (by simp) (by omega) (by omega)), rfl, rfl, trivial⟩, rfl, ⟨by omega, hc, H⟩, by omega⟩
  · have hi : i = 16 := by omega
    subst hi
    repeat' ((conv => whnf); first | (((with_reducible show Gd _ _ _); first | with_reducible refine Gd.t ?_ | with_reducible refine Gd.f ?_ | with_reducible refine Gd.dec (fun _ => ?_) (fun _ => ?_) | with_reducible refine Gd.beq (fun _ => ?_) (fun _ => ?_) | with_reducible refine Gd.bne (fun _ => ?_) (fun _ => ?_) | with_reducible refine Gd.not ?_ | refine Gd.t ?_ | refine Gd.f ?_ | with_reducible refine Gd.var (fun _ => ?_) (fun _ => ?_)) <;> first | (exfalso; omega) | skip) | with_reducible refine Sq.mk ?_ | ((with_reducible show Ld1 _ _ _); first | refine Ld1.h H ?_ | refine Ld1.rF ?_ | refine Ld1.r ?_) | ((with_reducible show Ld _ _ _ _); first | refine Ld.h H ?_ | refine Ld.r ?_) | ((with_reducible show Ix _ _ _ _ _); (first | refine Ix.h ?_ | refine Ix.ha ?_)) | (refine Al.hp H ?_; clear H; intro _ _ H _) | (refine St.h H ?_; clear H; intro _ H))
    exact ⟨by rw [← hc]; rfl, H.e⟩
theorem stands_c (level : Nat) (src : Bs) (pr : Nat) (ts : List Tk) (w : World) (hT : Tb w) (hlv : level < 8) (h : Rdr src pr ts w) :
    Cl Tryd.prog 76 #[.pointer (some ⟨pr, 0, none⟩), .int .i64 (level : Int)] w (fun v w' => v = .bool (standsB level (curK ts)) ∧ Ext w w') (fun _ _ => False) := by
  obtain ⟨nx, t, r, rfl, hnx, hr, hb⟩ := h
  obtain ⟨As, hAl, hR, hE⟩ := hT.lv
  obtain ⟨⟨A, ca⟩, hA⟩ : ∃ x, As[level]? = some x := ⟨_, List.getElem?_eq_getElem (by omega)⟩
  obtain ⟨lv, hl⟩ : ∃ x, levels[level]? = some x := ⟨_, List.getElem?_eq_getElem (show level < levels.length from hlv)⟩
  have hz : (As.zip levels)[level]? = some ((A, ca), lv) := by rw [List.getElem?_zip_eq_some]; exact ⟨hA, hl⟩
  have hm : ((As.zip levels).map fun x => (x.1.1, x.2.length, x.1.2))[level]? = some (A, lv.length, ca) := by rw [List.getElem?_map, hz]; rfl
  have hzl : ((As.zip levels).map fun x => (x.1.1, x.2.length, x.1.2)).length = 8 := by
    rw [List.length_map, List.length_zip, hAl]; rfl
  have hll : level < ((As.zip levels).map fun x => (x.1.1, x.2.length, x.1.2)).length := by omega
  have hE1 := hE _ (List.mem_of_getElem? hz)
  simp only at hE1
  have hst : standsB level (curK (t :: r)) = lv.contains t.kind := by unfold standsB; rw [hl]; rfl
  rw [hst]
  have hlv4 : lv.length ≤ 4 := by
    have : ∀ l ∈ levels, l.length ≤ 4 := by decide
    exact this lv (List.mem_of_getElem? hl)
  refine calls_ex (args := [.pointer (some ⟨pr, 0, none⟩), .int .i64 (level : Int)]) T.ok Tryd.func76 rfl rfl rfl rfl ?_
  have H := Hp.start (S := (· = pr)) (bk_ok hb) (fun k hk => hk)
  have H0 := (Hp.begin nw w).e
  repeat' ((conv => whnf); first | ((with_reducible show Gd (bs _ == _) _ _); first | refine Gd.sY (by assumption) ?_ | refine Gd.sk (by assumption) ?_ | refine Gd.sN (by assumption) ?_) | ((conv => whnf); first | (((with_reducible show Gd _ _ _); first | with_reducible refine Gd.t ?_ | with_reducible refine Gd.f ?_ | with_reducible refine Gd.dec (fun _ => ?_) (fun _ => ?_) | with_reducible refine Gd.beq (fun _ => ?_) (fun _ => ?_) | with_reducible refine Gd.bne (fun _ => ?_) (fun _ => ?_) | with_reducible refine Gd.not ?_ | refine Gd.t ?_ | refine Gd.f ?_ | with_reducible refine Gd.var (fun _ => ?_) (fun _ => ?_)) <;> first | (exfalso; omega) | skip) | with_reducible refine Sq.mk ?_ | ((with_reducible show Ld1 _ _ _); first | refine Ld1.h H ?_ | refine Ld1.rF ?_ | refine Ld1.r ?_) | ((with_reducible show Ld _ _ _ _); first | refine Ld.h H ?_ | refine Ld.r ?_) | ((with_reducible show Ix _ _ _ _ _); (first | refine Ix.h ?_ | refine Ix.ha ?_)) | (refine Al.hp H ?_; clear H; intro _ _ H _) | (refine St.h H ?_; clear H; intro _ H)) | refine Sm.strix T.ok ?_)
  refine Lp.g0 T.ok (σ := Nat) (fun i => [(11, .int .i64 (i : Int)), (10, .int .i64 (lv.length : Int)), (9, .slice A lv.length ca), (0, .pointer (some ⟨pr, 0, none⟩))])
    (fun i w' => i ≤ lv.length ∧ (lv.take i).contains t.kind = false ∧ w' = w) (fun i _ => lv.length - i) 0 rfl ⟨rfl, rfl, rfl, rfl, trivial⟩ ⟨Nat.zero_le _, rfl, rfl⟩ ?_
  rintro i _ ⟨hi, hc, rfl⟩
  by_cases hlt : i < lv.length
  · obtain ⟨x, hx⟩ : ∃ x, lv[i]? = some x := ⟨_, List.getElem?_eq_getElem hlt⟩
    have hst := contains_step (s := t.kind) hx
    repeat' ((conv => whnf); first | ((with_reducible show Gd (bs _ == _) _ _); first | refine Gd.sY (by assumption) ?_ | refine Gd.sk (by assumption) ?_ | refine Gd.sN (by assumption) ?_) | ((conv => whnf); first | (((with_reducible show Gd _ _ _); first | with_reducible refine Gd.t ?_ | with_reducible refine Gd.f ?_ | with_reducible refine Gd.dec (fun _ => ?_) (fun _ => ?_) | with_reducible refine Gd.beq (fun _ => ?_) (fun _ => ?_) | with_reducible refine Gd.bne (fun _ => ?_) (fun _ => ?_) | with_reducible refine Gd.not ?_ | refine Gd.t ?_ | refine Gd.f ?_ | with_reducible refine Gd.var (fun _ => ?_) (fun _ => ?_)) <;> first | (exfalso; omega) | skip) | with_reducible refine Sq.mk ?_ | ((with_reducible show Ld1 _ _ _); first | refine Ld1.h H ?_ | refine Ld1.rF ?_ | refine Ld1.r ?_) | ((with_reducible show Ld _ _ _ _); first | refine Ld.h H ?_ | refine Ld.r ?_) | ((with_reducible show Ix _ _ _ _ _); (first | refine Ix.h ?_ | refine Ix.ha ?_)) | (refine Al.hp H ?_; clear H; intro _ _ H _) | (refine St.h H ?_; clear H; intro _ H)) | refine Sm.strix T.ok ?_)
    · have hb : (bs t.kind == bs x) = true := by assumption
      rw [bs_eq] at hb
      refine ⟨b_eq ?_, H0⟩
      have hm : t.kind ∈ lv := by rw [of_decide_eq_true hb]; exact List.mem_of_getElem? hx
      exact (List.contains_iff_mem.2 hm).symm
    · have hb : (bs t.kind == bs x) = false := by assumption
      rw [bs_eq] at hb
      refine ⟨i + 1, ⟨at_int (m := ((i + 1 : Nat) : Int)) rfl (w64 (by simp) (by omega) (by omega)), rfl, rfl, rfl, trivial⟩, rfl, ⟨by omega, ?_, rfl⟩, by omega⟩
      rw [hst, hc, Bool.false_or]
      exact beq_eq_false_iff_ne.2 fun e => of_decide_eq_false hb e.symm
  · rw [List.take_of_length_le (by omega)] at hc
    repeat' ((conv => whnf); first | ((with_reducible show Gd (bs _ == _) _ _); first | refine Gd.sY (by assumption) ?_ | refine Gd.sk (by assumption) ?_ | refine Gd.sN (by assumption) ?_) | ((conv => whnf); first | (((with_reducible show Gd _ _ _); first | with_reducible refine Gd.t ?_ | with_reducible refine Gd.f ?_ | with_reducible refine Gd.dec (fun _ => ?_) (fun _ => ?_) | with_reducible refine Gd.beq (fun _ => ?_) (fun _ => ?_) | with_reducible refine Gd.bne (fun _ => ?_) (fun _ => ?_) | with_reducible refine Gd.not ?_ | refine Gd.t ?_ | refine Gd.f ?_ | with_reducible refine Gd.var (fun _ => ?_) (fun _ => ?_)) <;> first | (exfalso; omega) | skip) | with_reducible refine Sq.mk ?_ | ((with_reducible show Ld1 _ _ _); first | refine Ld1.h H ?_ | refine Ld1.rF ?_ | refine Ld1.r ?_) | ((with_reducible show Ld _ _ _ _); first | refine Ld.h H ?_ | refine Ld.r ?_) | ((with_reducible show Ix _ _ _ _ _); (first | refine Ix.h ?_ | refine Ix.ha ?_)) | (refine Al.hp H ?_; clear H; intro _ _ H _) | (refine St.h H ?_; clear H; intro _ H)) | refine Sm.strix T.ok ?_)
    exact ⟨b_eq hc.symm, H0⟩
theorem et_v {v : Value} {kd o n : Int} {nm cb : Bs} {A : Option Addr} {c : Nat} {l : List ET} (h : v = .agg #[.int .i64 kd, .int .i64 o, .int .i64 n, .string (bs nm), .string (bs cb), .slice A l.length c]) : v = ET.v (.mk kd o n nm cb A c l) := h
/-- two trees as one -/
theorem join_c (s : Bs) (x y : ET) (w : World) (hT : Tb w) :
    Cl Tryd.prog 77 #[.string (bs s), x.v, y.v] w (fun v w' => ∃ kd o A c, v = ET.v (.mk kd o 0 [] [] A c [x, y]) ∧ joinP s x.e y.e = ET.e (.mk kd o 0 [] [] A c [x, y]) ∧ Hp nw w w' [qu ET.enc 6 27 A c [x, y]]) (fun _ _ => False) := by
  obtain ⟨k1, o1, n1, a1, b1, A1, c1, l1⟩ := x
  obtain ⟨k2, o2, n2, a2, b2, A2, c2, l2⟩ := y
  generalize hx : ET.mk k1 o1 n1 a1 b1 A1 c1 l1 = x
  generalize hy : ET.mk k2 o2 n2 a2 b2 A2 c2 l2 = y
  have hvx : x.v = .agg #[.int .i64 k1, .int .i64 o1, .int .i64 n1, .string (bs a1), .string (bs b1), .slice A1 l1.length c1] := by rw [← hx]; rfl
  have hvy : y.v = .agg #[.int .i64 k2, .int .i64 o2, .int .i64 n2, .string (bs a2), .string (bs b2), .slice A2 l2.length c2] := by rw [← hy]; rfl
  rw [hvx, hvy]
  refine calls_ex (args := [.string (bs s), .agg #[.int .i64 k1, .int .i64 o1, .int .i64 n1, .string (bs a1), .string (bs b1), .slice A1 l1.length c1], .agg #[.int .i64 k2, .int .i64 o2, .int .i64 n2, .string (bs a2), .string (bs b2), .slice A2 l2.length c2]]) T.ok Tryd.func77 rfl rfl rfl rfl ?_
  have H := Hp.begin nw w
  refine Sq.mk ?_
  ((conv => whnf); refine Al.hp H ?_; clear H; intro p4 _ H _)
  ((conv => whnf); refine Al.hp H ?_; clear H; intro p5 _ H _)
  repeat' ((conv => whnf); first | (((with_reducible show Gd _ _ _); first | with_reducible refine Gd.t ?_ | with_reducible refine Gd.f ?_ | with_reducible refine Gd.dec (fun _ => ?_) (fun _ => ?_) | with_reducible refine Gd.beq (fun _ => ?_) (fun _ => ?_) | with_reducible refine Gd.bne (fun _ => ?_) (fun _ => ?_) | with_reducible refine Gd.not ?_ | refine Gd.t ?_ | refine Gd.f ?_ | with_reducible refine Gd.var (fun _ => ?_) (fun _ => ?_)) <;> first | (exfalso; omega) | skip) | with_reducible refine Sq.mk ?_ | ((with_reducible show Ld1 _ _ _); first | refine Ld1.h H ?_ | refine Ld1.rF ?_ | refine Ld1.r ?_) | ((with_reducible show Ld _ _ _ _); first | refine Ld.h H ?_ | refine Ld.r ?_) | ((with_reducible show Ix _ _ _ _ _); (first | refine Ix.h ?_ | refine Ix.ha ?_)) | (refine St.h H ?_; clear H; intro _ H))
  ((conv => whnf); refine Al.hp H ?_; clear H; intro p6 _ H _)
  repeat' ((conv => whnf); first | (((with_reducible show Gd _ _ _); first | with_reducible refine Gd.t ?_ | with_reducible refine Gd.f ?_ | with_reducible refine Gd.dec (fun _ => ?_) (fun _ => ?_) | with_reducible refine Gd.beq (fun _ => ?_) (fun _ => ?_) | with_reducible refine Gd.bne (fun _ => ?_) (fun _ => ?_) | with_reducible refine Gd.not ?_ | refine Gd.t ?_ | refine Gd.f ?_ | with_reducible refine Gd.var (fun _ => ?_) (fun _ => ?_)) <;> first | (exfalso; omega) | skip) | with_reducible refine Sq.mk ?_ | ((with_reducible show Ld1 _ _ _); first | refine Ld1.h H ?_ | refine Ld1.rF ?_ | refine Ld1.r ?_) | ((with_reducible show Ld _ _ _ _); first | refine Ld.h H ?_ | refine Ld.r ?_) | ((with_reducible show Ix _ _ _ _ _); (first | refine Ix.h ?_ | refine Ix.ha ?_)) | (refine Al.hp H ?_; clear H; intro _ _ H _) | (refine St.h H ?_; clear H; intro _ H))
  (conv => whnf)
  refine Sm.lith (cs := [.int .i64 k1, .int .i64 o1, .int .i64 n1, .string (bs a1), .string (bs b1), .slice A1 l1.length c1, .int .i64 k2, .int .i64 o2, .int .i64 n2, .string (bs a2), .string (bs b2), .slice A2 l2.length c2]) H T.ok (fun p1 w1 H _ => ?_)
  have hfix : ∀ w', Hp nw w w' [bk p1 27 [.int .i64 k1, .int .i64 o1, .int .i64 n1, .string (bs a1), .string (bs b1), .slice A1 l1.length c1, .int .i64 k2, .int .i64 o2, .int .i64 n2, .string (bs a2), .string (bs b2), .slice A2 l2.length c2]] → Hp nw w w' [qu ET.enc 6 27 (some ⟨p1, 0, none⟩) 2 [x, y]] := fun w' H => by
    have H1 : Hp nw w w' [bk p1 27 ([x, y].flatMap ET.enc)] := by rw [← hx, ← hy]; exact H
    exact Hp.bq (sz := 6) H1 (fun z _ => ET.enc_len z)
  by_cases h1 : s = s_andd
  · repeat' ((conv => whnf); first | ((with_reducible show Gd (bs _ == _) _ _); first | refine Gd.sY (by assumption) ?_ | refine Gd.sk (by assumption) ?_ | refine Gd.sN (by assumption) ?_) | ((conv => whnf); first | (((with_reducible show Gd _ _ _); first | with_reducible refine Gd.t ?_ | with_reducible refine Gd.f ?_ | with_reducible refine Gd.dec (fun _ => ?_) (fun _ => ?_) | with_reducible refine Gd.beq (fun _ => ?_) (fun _ => ?_) | with_reducible refine Gd.bne (fun _ => ?_) (fun _ => ?_) | with_reducible refine Gd.not ?_ | refine Gd.t ?_ | refine Gd.f ?_ | with_reducible refine Gd.var (fun _ => ?_) (fun _ => ?_)) <;> first | (exfalso; omega) | skip) | with_reducible refine Sq.mk ?_ | ((with_reducible show Ld1 _ _ _); first | refine Ld1.h H ?_ | refine Ld1.rF ?_ | refine Ld1.r ?_) | ((with_reducible show Ld _ _ _ _); first | refine Ld.h H ?_ | refine Ld.r ?_) | ((with_reducible show Ix _ _ _ _ _); (first | refine Ix.h ?_ | refine Ix.ha ?_)) | (refine Al.hp H ?_; clear H; intro _ _ H _) | (refine St.h H ?_; clear H; intro _ H)) | refine Sm.strix T.ok ?_)
    refine ⟨8, 0, some ⟨p1, 0, none⟩, 2, et_v rfl, ?_, hfix _ (H.sel [0] rfl)⟩
    unfold joinP; rw [if_pos h1]; rfl
  · by_cases h2 : s = s_orr
    · repeat' ((conv => whnf); first | ((with_reducible show Gd (bs _ == _) _ _); first | refine Gd.sY (by assumption) ?_ | refine Gd.sk (by assumption) ?_ | refine Gd.sN (by assumption) ?_) | ((conv => whnf); first | (((with_reducible show Gd _ _ _); first | with_reducible refine Gd.t ?_ | with_reducible refine Gd.f ?_ | with_reducible refine Gd.dec (fun _ => ?_) (fun _ => ?_) | with_reducible refine Gd.beq (fun _ => ?_) (fun _ => ?_) | with_reducible refine Gd.bne (fun _ => ?_) (fun _ => ?_) | with_reducible refine Gd.not ?_ | refine Gd.t ?_ | refine Gd.f ?_ | with_reducible refine Gd.var (fun _ => ?_) (fun _ => ?_)) <;> first | (exfalso; omega) | skip) | with_reducible refine Sq.mk ?_ | ((with_reducible show Ld1 _ _ _); first | refine Ld1.h H ?_ | refine Ld1.rF ?_ | refine Ld1.r ?_) | ((with_reducible show Ld _ _ _ _); first | refine Ld.h H ?_ | refine Ld.r ?_) | ((with_reducible show Ix _ _ _ _ _); (first | refine Ix.h ?_ | refine Ix.ha ?_)) | (refine Al.hp H ?_; clear H; intro _ _ H _) | (refine St.h H ?_; clear H; intro _ H)) | refine Sm.strix T.ok ?_)
      refine ⟨9, 0, some ⟨p1, 0, none⟩, 2, et_v rfl, ?_, hfix _ (H.sel [0] rfl)⟩
      unfold joinP; rw [if_neg h1, if_pos h2]; rfl
    · repeat' (first | ((conv => whnf); first | ((with_reducible show Gd (bs _ == _) _ _); first | refine Gd.sY (by assumption) ?_ | refine Gd.sk (by assumption) ?_ | refine Gd.sN (by assumption) ?_) | ((conv => whnf); first | (((with_reducible show Gd _ _ _); first | with_reducible refine Gd.t ?_ | with_reducible refine Gd.f ?_ | with_reducible refine Gd.dec (fun _ => ?_) (fun _ => ?_) | with_reducible refine Gd.beq (fun _ => ?_) (fun _ => ?_) | with_reducible refine Gd.bne (fun _ => ?_) (fun _ => ?_) | with_reducible refine Gd.not ?_ | refine Gd.t ?_ | refine Gd.f ?_ | with_reducible refine Gd.var (fun _ => ?_) (fun _ => ?_)) <;> first | (exfalso; omega) | skip) | with_reducible refine Sq.mk ?_ | ((with_reducible show Ld1 _ _ _); first | refine Ld1.h H ?_ | refine Ld1.rF ?_ | refine Ld1.r ?_) | ((with_reducible show Ld _ _ _ _); first | refine Ld.h H ?_ | refine Ld.r ?_) | ((with_reducible show Ix _ _ _ _ _); (first | refine Ix.h ?_ | refine Ix.ha ?_)) | (refine Al.hp H ?_; clear H; intro _ _ H _) | (refine St.h H ?_; clear H; intro _ H)) | refine Sm.strix T.ok ?_) | (((conv => whnf); refine Cl.mk (find_c s _ (hT.ext H.e)) ?_); rintro _ _ ⟨rfl, hx⟩; replace H := H.ext hx; clear hx))
      refine ⟨4, findOp s, some ⟨p1, 0, none⟩, 2, et_v rfl, ?_, hfix _ (H.sel [0] rfl)⟩
      unfold joinP; rw [if_neg h1, if_neg h2]; rfl
end Go.Proofs.YtfnjodpehomgfaaDoor
namespace Go.Proofs.YtfnjodpehomgfaaDoor
open Go Go.Sh Go.Tx
set_option linter.unusedVariables false
set_option linter.unusedSimpArgs false
set_option linter.unusedSectionVars false
attribute [local irreducible] Blk Ext RdS
def OkE (src : Bs) (pr : Nat) (R : Res Ex) (w : World) (v : Value) (w' : World) : Prop := ∃ t ts', R = .ok (ET.e t) ts' ∧ v = t.v ∧ Hp (· = pr) w w' [trs [t], rdr src pr ts']
def OkL (src : Bs) (pr : Nat) (R : Res (List Ex)) (w : World) (v : Value) (w' : World) : Prop := ∃ A c l ts', R = .ok (ET.es l) ts' ∧ v = .slice A l.length c ∧ l.length ≤ 2000000 ∧ Hp (· = pr) w w' [qu ET.enc 6 27 A c l, trs l, rdr src pr ts']
def OkB (src : Bs) (pr : Nat) (R : Res (List St)) (w : World) (v : Value) (w' : World) : Prop := ∃ B c l ts', R = .ok (SM.es l) ts' ∧ v = .slice B l.length c ∧ Hp (· = pr) w w' [stl B c l, rdr src pr ts']
def OkS (src : Bs) (pr : Nat) (R : Res St) (w : World) (v : Value) (w' : World) : Prop := ∃ s ts', R = .ok (SM.e s) ts' ∧ v = s.v ∧ Hp (· = pr) w w' [sts [s], rdr src pr ts']
/-- a text that is read: its bytes, the reader's block, the memory before it -/
structure Txt (src : Bs) (pr : Nat) (wb : World) : Prop where
  lo : wb.heap.size ≤ pr
  tb : Tb wb
  len : src.length ≤ 1000000
theorem Txt.ok {src : Bs} {pr : Nat} {wb w : World} (X : Txt src pr wb) (h : Ext wb w) : BaseOk (· = pr) wb w := ⟨h, fun k hk => by subst hk; exact X.lo⟩
structure Con (src : Bs) (pr : Nat) (wb : World) (F : PF) : Prop where
  expr : ∀ (level d : Nat) (ts : List Tk) (w : World), level ≤ 8 → d ≤ 41 → Ext wb w → Rdr src pr ts w → F.expr level d ts ≠ .out → Cl Tryd.prog 63 #[.pointer (some ⟨pr, 0, none⟩), .int .i64 (level : Int), .int .i64 (d : Int)] w (OkE src pr (F.expr level d ts) w) (PanX (F.expr level d ts) pr w)
  unary : ∀ (d : Nat) (ts : List Tk) (w : World), d ≤ 41 → Ext wb w → Rdr src pr ts w → F.unary d ts ≠ .out → Cl Tryd.prog 75 #[.pointer (some ⟨pr, 0, none⟩), .int .i64 (d : Int)] w (OkE src pr (F.unary d ts) w) (PanX (F.unary d ts) pr w)
  primary : ∀ (d : Nat) (ts : List Tk) (w : World), d ≤ 41 → Ext wb w → Rdr src pr ts w → F.primary d ts ≠ .out → Cl Tryd.prog 88 #[.pointer (some ⟨pr, 0, none⟩), .int .i64 (d : Int)] w (OkE src pr (F.primary d ts) w) (PanX (F.primary d ts) pr w)
  block : ∀ (d : Nat) (ts : List Tk) (w : World), d ≤ 41 → Ext wb w → Rdr src pr ts w → F.block d ts ≠ .out → Cl Tryd.prog 28 #[.pointer (some ⟨pr, 0, none⟩), .int .i64 (d : Int)] w (OkB src pr (F.block d ts) w) (PanX (F.block d ts) pr w)
  choice : ∀ (d : Nat) (ts : List Tk) (w : World), d ≤ 40 → Ext wb w → Rdr src pr ts w → F.choice d ts ≠ .out → Cl Tryd.prog 62 #[.pointer (some ⟨pr, 0, none⟩), .int .i64 (d : Int)] w (OkS src pr (F.choice d ts) w) (PanX (F.choice d ts) pr w)
theorem Res.bind_ok {α β : Type} {a : α} {ts : List Tk} {k : α → List Tk → Res β} : (Res.ok a ts).bind k = k a ts := rfl
theorem Res.bind_assoc {α β γ : Type} {r : Res α} {k : α → List Tk → Res β} {g : β → List Tk → Res γ} : (r.bind k).bind g = r.bind fun a ts => (k a ts).bind g := by cases r <;> rfl
theorem Res.bind_out {α β : Type} {r : Res α} {k : α → List Tk → Res β} (h : r.bind k ≠ .out) : r ≠ .out := fun e => h (by rw [e]; rfl)
theorem Hp.ofR {S : Nat → Prop} {w0 w : World} {Γ Γ' : List Ck} {src : Bs} {pr nx : Nat} {t : Tk} {r : List Tk} (H : Hp S w0 w Γ) (hb : Blk w pr 64 (rdrCs src nx t))
    (u : Upd1 Γ (rdr src pr (t :: r)) (bk pr 64 (rdrCs src nx t)) Γ' := by (repeat (first | exact Upd1.head | apply Upd1.tail))) : Hp S w0 w Γ' :=
  Hp.upd (c := rdr src pr (t :: r)) H (Hp.start (S := (· = pr)) (bk_ok hb) (fun k hk => hk)) rfl (.inl rfl) u
section
variable {src : Bs} {pr : Nat} {wb : World} {F : PF} (X : Txt src pr wb) (C : Con src pr wb F)
include X C
set_option maxHeartbeats 2000000 in
theorem expr_c (level d : Nat) (ts : List Tk) (w : World) (hlv : level ≤ 8) (hd : d ≤ 41) (hwb : Ext wb w) (h : Rdr src pr ts w) (hne : exprP F level d ts ≠ .out) :
    Cl Tryd.prog 63 #[.pointer (some ⟨pr, 0, none⟩), .int .i64 (level : Int), .int .i64 (d : Int)] w (OkE src pr (exprP F level d ts) w) (PanX (exprP F level d ts) pr w) := by
  have HB := X.ok hwb
  refine calls_ex (args := [.pointer (some ⟨pr, 0, none⟩), .int .i64 (level : Int), .int .i64 (d : Int)]) T.ok Tryd.func63 rfl rfl rfl rfl ?_
  have H := Hp.start (S := (· = pr)) (rdr_ok h) (fun k hk => hk)
  refine Sq.mk ?_
  ((conv => whnf); refine Al.hp H ?_; clear H; intro p6 _ H _)
  by_cases h8 : level = 8
  · have hR : exprP F level d ts = F.unary d ts := by unfold exprP; rw [if_pos h8]
    rw [hR] at hne ⊢
    repeat' ((conv => whnf); first | (((with_reducible show Gd _ _ _); first | with_reducible refine Gd.t ?_ | with_reducible refine Gd.f ?_ | with_reducible refine Gd.dec (fun _ => ?_) (fun _ => ?_) | with_reducible refine Gd.beq (fun _ => ?_) (fun _ => ?_) | with_reducible refine Gd.bne (fun _ => ?_) (fun _ => ?_) | with_reducible refine Gd.not ?_ | refine Gd.t ?_ | refine Gd.f ?_ | with_reducible refine Gd.var (fun _ => ?_) (fun _ => ?_)) <;> first | (exfalso; omega) | skip) | with_reducible refine Sq.mk ?_ | ((with_reducible show Ld1 _ _ _); first | refine Ld1.h H ?_ | refine Ld1.rF ?_ | refine Ld1.r ?_) | ((with_reducible show Ld _ _ _ _); first | refine Ld.h H ?_ | refine Ld.r ?_) | ((with_reducible show Ix _ _ _ _ _); (first | refine Ix.h ?_ | refine Ix.ha ?_)) | (refine Al.hp H ?_; clear H; intro _ _ H _) | (refine St.h H ?_; clear H; intro _ H))
    all_goals first | (exfalso; omega) | skip
    (conv => whnf)
    refine Cl.mkX (C.unary d ts _ hd (H.base2 HB) (H.atC 1 rfl) hne) ?_ ?_
    · rintro _ w2 ⟨⟨kd, o, n, nm, cb, A, c, l⟩, ts', h1, rfl, H'⟩
      replace H := H.updn (c := rdr src pr ts) (Hp.swap H') rfl (.inl rfl) (.inl rfl)
      clear H'
      repeat' ((conv => whnf); first | (((with_reducible show Gd _ _ _); first | with_reducible refine Gd.t ?_ | with_reducible refine Gd.f ?_ | with_reducible refine Gd.dec (fun _ => ?_) (fun _ => ?_) | with_reducible refine Gd.beq (fun _ => ?_) (fun _ => ?_) | with_reducible refine Gd.bne (fun _ => ?_) (fun _ => ?_) | with_reducible refine Gd.not ?_ | refine Gd.t ?_ | refine Gd.f ?_ | with_reducible refine Gd.var (fun _ => ?_) (fun _ => ?_)) <;> first | (exfalso; omega) | skip) | with_reducible refine Sq.mk ?_ | ((with_reducible show Ld1 _ _ _); first | refine Ld1.h H ?_ | refine Ld1.rF ?_ | refine Ld1.r ?_) | ((with_reducible show Ld _ _ _ _); first | refine Ld.h H ?_ | refine Ld.r ?_) | ((with_reducible show Ix _ _ _ _ _); (first | refine Ix.h ?_ | refine Ix.ha ?_)) | (refine Al.hp H ?_; clear H; intro _ _ H _) | (refine St.h H ?_; clear H; intro _ H))
      exact ⟨.mk kd o n nm cb A c l, ts', h1, et_v rfl, H.sel [0, 1] rfl⟩
    · rintro ch w2 ⟨e, p, q, h1, rfl, H'⟩
      exact ⟨e, p, q, h1, rfl, Hp.pan H H' (.inl rfl)⟩
  · obtain ⟨R, hR⟩ : ∃ R, R = exprP F level d ts := ⟨_, rfl⟩
    rw [← hR] at hne ⊢
    unfold exprP at hR
    rw [if_neg h8] at hR
    have hw1 : IntKind.i64.wrap ((level : Int) + 1) = ((level + 1 : Nat) : Int) := w64 rfl (by omega) (by omega)
    have hex := fun ts w => C.expr (level + 1) d ts w (by omega) hd
    rw [← hw1] at hex
    repeat' ((conv => whnf); first | (((with_reducible show Gd _ _ _); first | with_reducible refine Gd.t ?_ | with_reducible refine Gd.f ?_ | with_reducible refine Gd.dec (fun _ => ?_) (fun _ => ?_) | with_reducible refine Gd.beq (fun _ => ?_) (fun _ => ?_) | with_reducible refine Gd.bne (fun _ => ?_) (fun _ => ?_) | with_reducible refine Gd.not ?_ | refine Gd.t ?_ | refine Gd.f ?_ | with_reducible refine Gd.var (fun _ => ?_) (fun _ => ?_)) <;> first | (exfalso; omega) | skip) | with_reducible refine Sq.mk ?_ | ((with_reducible show Ld1 _ _ _); first | refine Ld1.h H ?_ | refine Ld1.rF ?_ | refine Ld1.r ?_) | ((with_reducible show Ld _ _ _ _); first | refine Ld.h H ?_ | refine Ld.r ?_) | ((with_reducible show Ix _ _ _ _ _); (first | refine Ix.h ?_ | refine Ix.ha ?_)) | (refine Al.hp H ?_; clear H; intro _ _ H _) | (refine St.h H ?_; clear H; intro _ H))
    all_goals first | (exfalso; omega) | skip
    (conv => whnf)
    refine Cl.mkX (hex ts _ (H.base2 HB) (H.atC 1 rfl) (Res.bind_out (by rw [← hR]; exact hne))) ?_ ?_
    · rintro _ w2 ⟨⟨kd, o, n, nm, cb, A, c, l⟩, ts', h1, rfl, H'⟩
      replace H := H.updn (c := rdr src pr ts) (Hp.swap H') rfl (.inl rfl) (.inl rfl)
      clear H'
      rw [h1] at hR
      replace hR : R = loopE F level d (ts'.length + 1) (ET.e (.mk kd o n nm cb A c l)) ts' := hR
      repeat' ((conv => whnf); first | (((with_reducible show Gd _ _ _); first | with_reducible refine Gd.t ?_ | with_reducible refine Gd.f ?_ | with_reducible refine Gd.dec (fun _ => ?_) (fun _ => ?_) | with_reducible refine Gd.beq (fun _ => ?_) (fun _ => ?_) | with_reducible refine Gd.bne (fun _ => ?_) (fun _ => ?_) | with_reducible refine Gd.not ?_ | refine Gd.t ?_ | refine Gd.f ?_ | with_reducible refine Gd.var (fun _ => ?_) (fun _ => ?_)) <;> first | (exfalso; omega) | skip) | with_reducible refine Sq.mk ?_ | ((with_reducible show Ld1 _ _ _); first | refine Ld1.h H ?_ | refine Ld1.rF ?_ | refine Ld1.r ?_) | ((with_reducible show Ld _ _ _ _); first | refine Ld.h H ?_ | refine Ld.r ?_) | ((with_reducible show Ix _ _ _ _ _); (first | refine Ix.h ?_ | refine Ix.ha ?_)) | (refine St.h H ?_; clear H; intro _ H))
      ((conv => whnf); refine Al.hp H ?_; clear H; intro p7 _ H _)
      repeat' ((conv => whnf); first | (((with_reducible show Gd _ _ _); first | with_reducible refine Gd.t ?_ | with_reducible refine Gd.f ?_ | with_reducible refine Gd.dec (fun _ => ?_) (fun _ => ?_) | with_reducible refine Gd.beq (fun _ => ?_) (fun _ => ?_) | with_reducible refine Gd.bne (fun _ => ?_) (fun _ => ?_) | with_reducible refine Gd.not ?_ | refine Gd.t ?_ | refine Gd.f ?_ | with_reducible refine Gd.var (fun _ => ?_) (fun _ => ?_)) <;> first | (exfalso; omega) | skip) | with_reducible refine Sq.mk ?_ | ((with_reducible show Ld1 _ _ _); first | refine Ld1.h H ?_ | refine Ld1.rF ?_ | refine Ld1.r ?_) | ((with_reducible show Ld _ _ _ _); first | refine Ld.h H ?_ | refine Ld.r ?_) | ((with_reducible show Ix _ _ _ _ _); (first | refine Ix.h ?_ | refine Ix.ha ?_)) | (refine Al.hp H ?_; clear H; intro _ _ H _) | (refine St.h H ?_; clear H; intro _ H))
      refine Lp.g0 T.ok (σ := Nat × ET × List Tk) (fun q => [(7, .pointer (some ⟨p7, 0, none⟩)), (0, .pointer (some ⟨pr, 0, none⟩)), (1, .int .i64 (level : Int)), (2, .int .i64 (d : Int)), (6, .pointer (some ⟨p6, 0, none⟩))])
        (fun q w' => R = loopE F level d q.1 (ET.e q.2.1) q.2.2 ∧ Hp (· = pr) w w' [bk p7 27 (ET.enc q.2.1), trs [q.2.1], bk p6 27 T.t27.zero.cells.toList, rdr src pr q.2.2]) (fun q _ => q.1) (ts'.length + 1, .mk kd o n nm cb A c l, ts') rfl ⟨rfl, rfl, rfl, rfl, rfl, trivial⟩ ⟨hR, H⟩ ?_
      clear H hR h1
      rintro ⟨f, ⟨kd, o, n, nm, cb, A, c, l⟩, ts⟩ w5 ⟨hR, H⟩
      simp only at hR H ⊢
      cases f with
      | zero => exact absurd hR hne
      | succ f =>
      simp only [loopE] at hR
      by_cases hs : standsB level (curK ts) = true
      case neg =>
        rw [if_neg hs] at hR
        repeat' (first | ((conv => whnf); first | (((with_reducible show Gd _ _ _); first | with_reducible refine Gd.t ?_ | with_reducible refine Gd.f ?_ | with_reducible refine Gd.dec (fun _ => ?_) (fun _ => ?_) | with_reducible refine Gd.beq (fun _ => ?_) (fun _ => ?_) | with_reducible refine Gd.bne (fun _ => ?_) (fun _ => ?_) | with_reducible refine Gd.not ?_ | refine Gd.t ?_ | refine Gd.f ?_ | with_reducible refine Gd.var (fun _ => ?_) (fun _ => ?_)) <;> first | (exfalso; omega) | skip) | with_reducible refine Sq.mk ?_ | ((with_reducible show Ld1 _ _ _); first | refine Ld1.h H ?_ | refine Ld1.rF ?_ | refine Ld1.r ?_) | ((with_reducible show Ld _ _ _ _); first | refine Ld.h H ?_ | refine Ld.r ?_) | ((with_reducible show Ix _ _ _ _ _); (first | refine Ix.h ?_ | refine Ix.ha ?_)) | (refine Al.hp H ?_; clear H; intro _ _ H _) | (refine St.h H ?_; clear H; intro _ H)) | ((((conv => whnf); refine Cl.mk (stands_c level src pr ts _ (X.tb.ext (H.base2 HB)) (by omega) (H.atC 3 rfl)) ?_); rintro _ _ ⟨rfl, hx⟩; replace H := H.ext hx; clear hx); rw [Bool.eq_false_iff.2 hs]))
        exact ⟨.mk kd o n nm cb A c l, ts, hR, et_v rfl, H.sel [1, 2] rfl⟩
      rw [if_pos hs] at hR
      repeat' ((conv => whnf); first | (((with_reducible show Gd _ _ _); first | with_reducible refine Gd.t ?_ | with_reducible refine Gd.f ?_ | with_reducible refine Gd.dec (fun _ => ?_) (fun _ => ?_) | with_reducible refine Gd.beq (fun _ => ?_) (fun _ => ?_) | with_reducible refine Gd.bne (fun _ => ?_) (fun _ => ?_) | with_reducible refine Gd.not ?_ | refine Gd.t ?_ | refine Gd.f ?_ | with_reducible refine Gd.var (fun _ => ?_) (fun _ => ?_)) <;> first | (exfalso; omega) | skip) | with_reducible refine Sq.mk ?_ | ((with_reducible show Ld1 _ _ _); first | refine Ld1.h H ?_ | refine Ld1.rF ?_ | refine Ld1.r ?_) | ((with_reducible show Ld _ _ _ _); first | refine Ld.h H ?_ | refine Ld.r ?_) | ((with_reducible show Ix _ _ _ _ _); (first | refine Ix.h ?_ | refine Ix.ha ?_)) | (refine Al.hp H ?_; clear H; intro _ _ H _) | (refine St.h H ?_; clear H; intro _ H))
      (((conv => whnf); refine Cl.mk (stands_c level src pr ts _ (X.tb.ext (H.base2 HB)) (by omega) (H.atC 3 rfl)) ?_); rintro _ _ ⟨rfl, hx⟩; replace H := H.ext hx; clear hx)
      rw [hs]
      obtain ⟨nx, t0, r0, rfl, hnx, hr0, hb0⟩ := H.atC (c := rdr src pr ts) 3 rfl
      replace H := Hp.ofR H hb0
      clear hb0
      repeat' ((conv => whnf); first | (((with_reducible show Gd _ _ _); first | with_reducible refine Gd.t ?_ | with_reducible refine Gd.f ?_ | with_reducible refine Gd.dec (fun _ => ?_) (fun _ => ?_) | with_reducible refine Gd.beq (fun _ => ?_) (fun _ => ?_) | with_reducible refine Gd.bne (fun _ => ?_) (fun _ => ?_) | with_reducible refine Gd.not ?_ | refine Gd.t ?_ | refine Gd.f ?_ | with_reducible refine Gd.var (fun _ => ?_) (fun _ => ?_)) <;> first | (exfalso; omega) | skip) | with_reducible refine Sq.mk ?_ | ((with_reducible show Ld1 _ _ _); first | refine Ld1.h H ?_ | refine Ld1.rF ?_ | refine Ld1.r ?_) | ((with_reducible show Ld _ _ _ _); first | refine Ld.h H ?_ | refine Ld.r ?_) | ((with_reducible show Ix _ _ _ _ _); (first | refine Ix.h ?_ | refine Ix.ha ?_)) | (refine Al.hp H ?_; clear H; intro _ _ H _) | (refine St.h H ?_; clear H; intro _ H))
      replace H := Hp.toR H hnx hr0
      (conv => whnf)
      refine Cl.mkX (step_c false src pr (t0 :: r0) wb _ (H.base2 HB) X.lo X.tb X.len (H.atC 3 rfl) (stands_ne hs)) ?_ ?_
      rotate_left
      · rintro ch w2 ⟨e, p, q, h1, rfl, H'⟩
        exact ⟨e, p, q, by rw [hR, h1]; rfl, rfl, Hp.pan H H' (.inl rfl)⟩
      rintro _ w2 ⟨ts1, h1, H'⟩
      replace H := H.upd (c := rdr src pr (t0 :: r0)) H' rfl (.inl rfl)
      clear H'
      rw [h1] at hR
      replace hR : R = (F.expr (level + 1) d ts1).bind (fun r ts2 => loopE F level d f (joinP t0.kind (ET.e (.mk kd o n nm cb A c l)) r) ts2) := hR
      repeat' ((conv => whnf); first | (((with_reducible show Gd _ _ _); first | with_reducible refine Gd.t ?_ | with_reducible refine Gd.f ?_ | with_reducible refine Gd.dec (fun _ => ?_) (fun _ => ?_) | with_reducible refine Gd.beq (fun _ => ?_) (fun _ => ?_) | with_reducible refine Gd.bne (fun _ => ?_) (fun _ => ?_) | with_reducible refine Gd.not ?_ | refine Gd.t ?_ | refine Gd.f ?_ | with_reducible refine Gd.var (fun _ => ?_) (fun _ => ?_)) <;> first | (exfalso; omega) | skip) | with_reducible refine Sq.mk ?_ | ((with_reducible show Ld1 _ _ _); first | refine Ld1.h H ?_ | refine Ld1.rF ?_ | refine Ld1.r ?_) | ((with_reducible show Ld _ _ _ _); first | refine Ld.h H ?_ | refine Ld.r ?_) | ((with_reducible show Ix _ _ _ _ _); (first | refine Ix.h ?_ | refine Ix.ha ?_)) | (refine Al.hp H ?_; clear H; intro _ _ H _) | (refine St.h H ?_; clear H; intro _ H))
      (conv => whnf)
      refine Cl.mkX (hex ts1 _ (H.base2 HB) (H.atC 3 rfl) (Res.bind_out (by rw [← hR]; exact hne))) ?_ ?_
      rotate_left
      · rintro ch w3 ⟨e, p, q, h2, rfl, H'⟩
        exact ⟨e, p, q, by rw [hR, h2]; rfl, rfl, Hp.pan H H' (.inl rfl)⟩
      rintro _ w3 ⟨⟨kd2, o2, n2, nm2, cb2, A2, c2, l2⟩, ts2, h2, rfl, H'⟩
      replace H := H.updn (c := rdr src pr ts1) (Hp.swap H') rfl (.inl rfl) (.inl rfl)
      clear H'
      rw [h2] at hR
      replace hR : R = loopE F level d f (joinP t0.kind (ET.e (.mk kd o n nm cb A c l)) (ET.e (.mk kd2 o2 n2 nm2 cb2 A2 c2 l2))) ts2 := hR
      repeat' ((conv => whnf); first | (((with_reducible show Gd _ _ _); first | with_reducible refine Gd.t ?_ | with_reducible refine Gd.f ?_ | with_reducible refine Gd.dec (fun _ => ?_) (fun _ => ?_) | with_reducible refine Gd.beq (fun _ => ?_) (fun _ => ?_) | with_reducible refine Gd.bne (fun _ => ?_) (fun _ => ?_) | with_reducible refine Gd.not ?_ | refine Gd.t ?_ | refine Gd.f ?_ | with_reducible refine Gd.var (fun _ => ?_) (fun _ => ?_)) <;> first | (exfalso; omega) | skip) | with_reducible refine Sq.mk ?_ | ((with_reducible show Ld1 _ _ _); first | refine Ld1.h H ?_ | refine Ld1.rF ?_ | refine Ld1.r ?_) | ((with_reducible show Ld _ _ _ _); first | refine Ld.h H ?_ | refine Ld.r ?_) | ((with_reducible show Ix _ _ _ _ _); (first | refine Ix.h ?_ | refine Ix.ha ?_)) | (refine St.h H ?_; clear H; intro _ H))
      ((conv => whnf); refine Al.hp H ?_; clear H; intro p9 _ H _)
      repeat' ((conv => whnf); first | (((with_reducible show Gd _ _ _); first | with_reducible refine Gd.t ?_ | with_reducible refine Gd.f ?_ | with_reducible refine Gd.dec (fun _ => ?_) (fun _ => ?_) | with_reducible refine Gd.beq (fun _ => ?_) (fun _ => ?_) | with_reducible refine Gd.bne (fun _ => ?_) (fun _ => ?_) | with_reducible refine Gd.not ?_ | refine Gd.t ?_ | refine Gd.f ?_ | with_reducible refine Gd.var (fun _ => ?_) (fun _ => ?_)) <;> first | (exfalso; omega) | skip) | with_reducible refine Sq.mk ?_ | ((with_reducible show Ld1 _ _ _); first | refine Ld1.h H ?_ | refine Ld1.rF ?_ | refine Ld1.r ?_) | ((with_reducible show Ld _ _ _ _); first | refine Ld.h H ?_ | refine Ld.r ?_) | ((with_reducible show Ix _ _ _ _ _); (first | refine Ix.h ?_ | refine Ix.ha ?_)) | (refine Al.hp H ?_; clear H; intro _ _ H _) | (refine St.h H ?_; clear H; intro _ H))
      ((conv => whnf); refine Cl.mk (join_c t0.kind (.mk kd o n nm cb A c l) (.mk kd2 o2 n2 nm2 cb2 A2 c2 l2) _ (X.tb.ext (H.base2 HB))) ?_)
      rintro _ w6 ⟨kd3, o3, A3, c3, rfl, hj, H'⟩
      rw [hj] at hR
      replace H := H.fr0 H' (.inl rfl)
      repeat' ((conv => whnf); first | (((with_reducible show Gd _ _ _); first | with_reducible refine Gd.t ?_ | with_reducible refine Gd.f ?_ | with_reducible refine Gd.dec (fun _ => ?_) (fun _ => ?_) | with_reducible refine Gd.beq (fun _ => ?_) (fun _ => ?_) | with_reducible refine Gd.bne (fun _ => ?_) (fun _ => ?_) | with_reducible refine Gd.not ?_ | refine Gd.t ?_ | refine Gd.f ?_ | with_reducible refine Gd.var (fun _ => ?_) (fun _ => ?_)) <;> first | (exfalso; omega) | skip) | with_reducible refine Sq.mk ?_ | ((with_reducible show Ld1 _ _ _); first | refine Ld1.h H ?_ | refine Ld1.rF ?_ | refine Ld1.r ?_) | ((with_reducible show Ld _ _ _ _); first | refine Ld.h H ?_ | refine Ld.r ?_) | ((with_reducible show Ix _ _ _ _ _); (first | refine Ix.h ?_ | refine Ix.ha ?_)) | (refine Al.hp H ?_; clear H; intro _ _ H _) | (refine St.h H ?_; clear H; intro _ H))
      replace H := H.sel [2, 3, 0, 1, 1, 1] rfl
      exact ⟨(f, .mk kd3 o3 0 [] [] A3 c3 [.mk kd o n nm cb A c l, .mk kd2 o2 n2 nm2 cb2 A2 c2 l2], ts2), ⟨rfl, rfl, rfl, rfl, rfl, trivial⟩, rfl, ⟨hR, Hp.swap (Hp.trsN kd3 o3 0 [] [] (Hp.swap (Hp.trsS H)))⟩, Nat.lt_succ_self f⟩
    · rintro ch w2 ⟨e, p, q, h1, rfl, H'⟩
      exact ⟨e, p, q, by rw [hR, h1]; rfl, rfl, Hp.pan H H' (.inl rfl)⟩
end
end Go.Proofs.YtfnjodpehomgfaaDoor
namespace Go.Sh
open Go.RowKit
set_option linter.unusedVariables false
set_option linter.unusedSimpArgs false
set_option linter.unusedSectionVars false
section
variable {P : Program} {T : Tab} {n : Nat} {ops : Array Oper}
/-- what is known of slots that the region does not write -/
def keepE (ops : Array Oper) : Env → Env
  | [] => []
  | (t, v) :: r => match (ops.toList.any fun o => match o.dst with | some d => Nat.beq d t | none => false) with
    | true => keepE ops r
    | false => (t, v) :: keepE ops r
theorem look_keepE {ops : Array Oper} : ∀ {E : Env} {t : Nat} {u : Value}, look (keepE ops E) t = some u → look E t = some u ∧ ∀ o ∈ ops.toList, o.dst ≠ some t
  | [], t, u, h => by simp [keepE, look] at h
  | (d, v) :: r, t, u, h => by
    unfold keepE at h
    split at h
    · rename_i hany
      obtain ⟨h1, h2⟩ := look_keepE h
      refine ⟨?_, h2⟩
      unfold look
      split
      · rename_i hb
        have hd := Nat.eq_of_beq_eq_true hb
        subst hd
        obtain ⟨o, ho, hb2⟩ := List.any_eq_true.1 hany
        split at hb2
        · rename_i d2 hd2
          have := Nat.eq_of_beq_eq_true hb2
          subst this
          exact absurd hd2 (h2 o ho)
        · simp at hb2
      · exact h1
    · rename_i hany
      unfold look at h ⊢
      split at h
      · rename_i hb
        refine ⟨h, fun o ho hd => ?_⟩
        have hdt := Nat.eq_of_beq_eq_true hb
        subst hdt
        have : (ops.toList.any fun o => match o.dst with | some d2 => Nat.beq d2 d | none => false) = true := List.any_eq_true.2 ⟨o, ho, by rw [hd]; simp⟩
        rw [this] at hany
        simp at hany
      · rename_i hb
        obtain ⟨h1, h2⟩ := look_keepE h
        exact ⟨h1, h2⟩
theorem keepE_dst {ops : Array Oper} {t : Nat} (h : ∀ o ∈ ops.toList, o.dst ≠ some t) (i : Nat) : dstOf ops i ≠ some t := by
  unfold dstOf
  intro e
  cases ho : ops[i]? with
  | none => rw [ho] at e; simp at e
  | some o =>
    rw [ho] at e
    exact h o (Array.mem_toList_iff.2 (Array.mem_of_getElem? ho)) (by simpa using e)
def stepChX (P : Program) (T : Tab) (n : Nat) (W : World → Prop) (Xc : List PanicEntry → World → Prop) (o : Oper) (_r : List Oper) (ih : Fr → World → (Fr → World → Prop) → Prop) (F : Fr) (w : World) (k : Fr → World → Prop) : Prop :=
  W w ∧ match dstOk n o.dst with
    | false => False
    | true => match o.guard with
      | some _ => False
      | none => exOp P T (evR o F) o w (fun v w' => ih (F.put o.dst v) w' k) Xc
def chOpsX (P : Program) (T : Tab) (n : Nat) (W : World → Prop) (Xc : List PanicEntry → World → Prop) (l : List Oper) : Fr → World → (Fr → World → Prop) → Prop :=
  List.rec (motive := fun _ => Fr → World → (Fr → World → Prop) → Prop) (fun F w k => k F w) (stepChX P T n W Xc) l
theorem Dr.chXk (hT : TabOk P T) (hm : P.follows .mixedOrders = true) (qis cs : List Nat) {id : Nat} {F : Fr} {w : World} {K : Exit → Fr → World → Prop} {ql cl : List Oper}
    (hB : chB ops qis cs = true) (hql : pickO ops qis = some ql) (hcl : pickO ops cs = some cl) (W : World → Prop) (Xc : List PanicEntry → World → Prop)
    (hX : ∀ ch w', Xc ch w' → K (.panic ch) ⟨keepE ops F.env, F.ds⟩ w')
    (h : ∀ w1, Ext w w1 → w1.heap.size = w.heap.size → quOps P T n W (fun a b => b = a) ops.toList ql F (fun F' => chOpsX P T n W Xc cl F' w1 (fun F w => K .normal F w))) : Dr P n id ops F w K := by
  obtain ⟨hac0, hcov, hqc, hclt, hqs, hcs, hcan, hlc, hlast0, huq0, hrq, hrc⟩ := chB_spec hB
  have hac : ∀ i, i < ops.size → ∀ j ∈ afterOf ops i, j < i := fun i hi => hac0 i (List.mem_range.2 hi)
  have hlast : ∀ j, j < ops.size - 1 → j ∈ ancF ops ops.size (ops.size - 1) := fun j hj => hlast0 j (List.mem_range.2 hj)
  have huq : ∀ i, i < ops.size → ∀ j, j < ops.size → i ≠ j → ∀ t, dstOf ops i = some t → dstOf ops j ≠ some t := fun i hi j hj hne t ht => by
    have := huq0 i (List.mem_range.2 hi) j (List.mem_range.2 hj) hne (by rw [ht]; simp)
    rwa [ht] at this
  have e1 : Ext w { w with drawn := w.drawn + 1 } := ⟨rfl, rfl, rfl, Nat.le_refl _, fun _ _ => rfl⟩
  obtain ⟨vals, F', hY, hlook, hds, hfin⟩ := quOps_trace hT ql F _ (h { w with drawn := w.drawn + 1 } e1 rfl)
  have hN : ops.size - 1 < ops.size := hclt _ hlc
  have hqget : ∀ m : Nat, (ql[m]?).bind (·.dst) = (qis[m]?).bind (dstOf ops) := fun m => by
    rw [pickO_get hql m]
    cases qis[m]? <;> rfl
  have hqpos : ∀ i, i ∈ qis → ∃ m, qis[m]? = some i := fun i hi => List.getElem?_of_mem hi
  have hqlt : ∀ (m m' i i' : Nat), qis[m]? = some i → qis[m']? = some i' → m < m' → i < i' := fun m m' i i' h1 h2 hlt => by
    obtain ⟨a1, a2⟩ := List.getElem?_eq_some_iff.1 h1
    obtain ⟨b1, b2⟩ := List.getElem?_eq_some_iff.1 h2
    have := List.pairwise_iff_getElem.1 hqs m m' a1 b1 hlt
    omega
  have hqinj : ∀ (m m' i : Nat), qis[m]? = some i → qis[m']? = some i → m = m' := fun m m' i h1 h2 => by
    rcases Nat.lt_trichotomy m m' with e | e | e
    · have := hqlt m m' i i h1 h2 e; omega
    · exact e
    · have := hqlt m' m i i h2 h1 e; omega
  refine ⟨fun a0 ha0 => ?_⟩
  refine wp_region_any hm ?_
  have main : ∀ (fuel : Nat) (listed : Array Bool) (a : Act) (w' : World) (j : Nat) (Fj : Fr), listed.size = ops.size → Closed ops listed → cnt listed ops.size ≤ fuel → ¬ Lst listed (ops.size - 1) →
      a.tmps.size = n → a.defers = F.ds → Fj.ds = F.ds → chOpsX P T n W Xc (cl.drop j) Fj w' (fun F w => K .normal F w) →
      (∀ m i, cs[m]? = some i → (Lst listed i ↔ m < j)) →
      (∀ m i, qis[m]? = some i → Lst listed i → ∀ d, dstOf ops i = some d → a.tmps[d]? = some (vals m)) →
      (∀ t u, look F.env t = some u → (∀ i, i < ops.size → Lst listed i → dstOf ops i ≠ some t) → a.tmps[t]? = some u) →
      (∀ t u, look Fj.env t = some u → (∃ i, i ∈ qis ∧ ¬ Lst listed i ∧ dstOf ops i = some t) ∨ a.tmps[t]? = some u) →
      (∀ t, (∀ i, i ∈ cs → dstOf ops i ≠ some t) → look Fj.env t = look F'.env t) →
      wpAny P .any ops (Lift n K) fuel listed a w' := by
    intro fuel
    induction fuel with
    | zero => intro listed a w' j Fj _ _ hc hnl; exact absurd (cnt_pos listed _ hnl ops.size hN) (by omega)
    | succ fuel ih =>
      intro listed a w' j Fj hs hcl' hc hnl hsz hdf hdj hch hcj hA hB' hG hFj
      refine ⟨fun hr => ?_, fun i hi => ?_⟩
      · exfalso
        have : ∃ i, i < ops.size ∧ ¬ Lst listed i ∧ ∀ j, j < i → Lst listed j := by
          have : ∀ m, m ≤ ops.size - 1 → (∀ j, j < m → Lst listed j) ∨ ∃ i, i < ops.size ∧ ¬ Lst listed i ∧ ∀ j, j < i → Lst listed j := by
            intro m
            induction m with
            | zero => intro _; exact .inl fun j hj => by omega
            | succ m ihm =>
              intro hm
              rcases ihm (by omega) with h1 | h1
              · by_cases hl : Lst listed m
                · exact .inl fun j hj => (Nat.lt_or_ge j m).elim (h1 j) fun h2 => (show j = m by omega) ▸ hl
                · exact .inr ⟨m, by omega, hl, h1⟩
              · exact .inr h1
          rcases this (ops.size - 1) (Nat.le_refl _) with h1 | h1
          · exact ⟨ops.size - 1, hN, hnl, h1⟩
          · exact h1
        obtain ⟨i, h1, h2, h3⟩ := this
        have := (mem_ready hs hac).2 ⟨h1, h2, fun j hj => h3 j (hac i h1 j hj)⟩
        rw [hr] at this
        exact absurd this (by simp)
      · obtain ⟨hi1, hi2, hi3⟩ := (mem_ready hs hac).1 hi
        have hs' : (listed.setIfInBounds i true).size = ops.size := by simpa using hs
        have hLs : ∀ j, Lst (listed.setIfInBounds i true) j ↔ j = i ∨ Lst listed j := fun j => by
          unfold Lst; rw [getD_set _ _ _ (by omega)]; by_cases e : j = i <;> simp [e]
        have hcl'' : Closed ops (listed.setIfInBounds i true) := fun m hm hl j hj => by
          rw [hLs] at hl ⊢
          rcases hl with rfl | hl
          · exact .inr (hi3 j hj)
          · exact .inr (hcl' m hm hl j hj)
        have hc' : cnt (listed.setIfInBounds i true) ops.size ≤ fuel := by
          have := cnt_set listed i (by omega) hi2 ops.size
          rw [if_pos hi1] at this; omega
        have hanc : ∀ j, j ∈ ancF ops ops.size i → Lst listed j := fun j hj => by
          have := closed_anc hcl'' hac ops.size i j hi1 ((hLs i).2 (.inl rfl)) hj
          rcases (hLs j).1 this with rfl | h1
          · exfalso
            have lt : ∀ (f m j : Nat), m < ops.size → j ∈ ancF ops f m → j < m := by
              intro f
              induction f with
              | zero => intro m j _ h; simp [ancF] at h
              | succ f ihf =>
                intro m j hm h
                simp only [ancF, List.mem_flatMap, List.mem_cons] at h
                obtain ⟨q, hq, h⟩ := h
                have hqm := hac m hm q hq
                rcases h with rfl | h
                · exact hqm
                · have := ihf q j (by omega) h; omega
            have := lt _ _ _ hi1 hj; omega
          · exact h1
        obtain ⟨o, ho⟩ : ∃ o, ops[i]? = some o := ⟨ops[i], Array.getElem?_eq_getElem hi1⟩
        have hdi : dstOf ops i = o.dst := by simp [dstOf, ho]
        have hrdi : rdOf ops i = tmpsOf o ++ gdOf ops o := by unfold rdOf; simp only [ho]
        have hjlt : j < cs.length := by
          obtain ⟨m, hm⟩ := List.getElem?_of_mem hlc
          have h1 := (List.getElem?_eq_some_iff.1 hm).1
          have h2 := hcj m _ hm
          exact Nat.lt_of_not_le fun h3 => hnl (h2.2 (by omega))
        obtain ⟨ci, hci⟩ : ∃ c, cs[j]? = some c := ⟨cs[j], List.getElem?_eq_getElem hjlt⟩
        obtain ⟨oc, hoc⟩ : ∃ o, ops[ci]? = some o := ⟨_, Array.getElem?_eq_getElem (hclt ci (List.mem_of_getElem? hci))⟩
        have hclj : cl[j]? = some oc := by rw [pickO_get hcl j, hci]; exact hoc
        have hdrop : cl.drop j = oc :: cl.drop (j + 1) := by
          obtain ⟨h1, h2⟩ := List.getElem?_eq_some_iff.1 hclj
          rw [List.drop_eq_getElem_cons h1, h2]
        rw [hdrop] at hch
        have hch' : stepChX P T n W Xc oc (cl.drop (j + 1)) (chOpsX P T n W Xc (cl.drop (j + 1))) Fj w' (fun F w => K .normal F w) := hch
        obtain ⟨hWw, hrest⟩ := hch'
        unfold wpOp
        simp only [ho]
        by_cases hic : i ∈ cs
        · -- the chain's next
          have hii : i = ci := by
            obtain ⟨m, hm⟩ := List.getElem?_of_mem hic
            have hmj : ¬ m < j := fun e => hi2 ((hcj m i hm).2 e)
            rcases Nat.lt_or_ge j m with e | e
            · exfalso
              have h1 := (List.getElem?_eq_some_iff.1 hm)
              have h2 := (List.getElem?_eq_some_iff.1 hci)
              obtain ⟨h1a, h1b⟩ := h1
              obtain ⟨h2a, h2b⟩ := h2
              have hlt := List.pairwise_iff_getElem.1 hcs j m h2a h1a e
              rw [h1b, h2b] at hlt
              have := hanc ci (hcan ci (List.mem_of_getElem? hci) i hic hlt)
              have := (hcj j ci hci).1 this
              omega
            · have : m = j := by omega
              subst this
              rw [hci] at hm; simpa using hm.symm
          subst hii
          rw [ho] at hoc
          obtain rfl : o = oc := by simpa using hoc
          split at hrest
          · exact hrest.elim
          rename_i hdo
          split at hrest
          · exact hrest.elim
          rename_i hgn
          rw [if_pos (wanted_none hgn)]
          refine .inl ?_
          have hev : ∀ x u, evR o Fj x = some u → a.eval x = u := ev_of_phi (Φ := look Fj.env) (fun t => rfl) fun t ht u hu => by
            rcases hG t u hu with ⟨q, hq1, hq2, hq3⟩ | hu'
            · exfalso
              have hqi : q ≠ i := fun e => (hqc q hq1).1 (e ▸ hic)
              exact hq2 (hanc q (hrc i hic q (List.mem_range.2 (hqc q hq1).2) hqi t (by rw [hrdi]; exact List.mem_append_left _ ht) hq3))
            · exact hu'
          refine exOp_sound hT hev hrest (fun v w2 hnx => ?_) (fun ch w2 q => ⟨⟨keepE ops F.env, F.ds⟩, ⟨hsz, hdf, fun t v h => hB' t v (look_keepE h).1 fun i hi _ => keepE_dst (look_keepE h).2 i⟩, hX _ _ q⟩)
          have hG2 : ∀ t u, look (Fj.put o.dst v).env t = some u → (∃ q, q ∈ qis ∧ ¬ Lst (listed.setIfInBounds i true) q ∧ dstOf ops q = some t) ∨ (a.put o.dst v).tmps[t]? = some u := fun t u ht => by
            by_cases hd : o.dst = some t
            · rw [hd] at ht hdo ⊢
              rw [look_put_eq] at ht
              simp at ht; subst ht
              exact .inr (act_put_eq (by rw [hsz]; exact hdo))
            · rw [act_put_ne hd]
              have ht' : look Fj.env t = some u := by rw [look_put_ne hd] at ht; exact ht
              rcases hG t u ht' with ⟨q, hq1, hq2, hq3⟩ | hu
              · refine .inl ⟨q, hq1, fun e => ?_, hq3⟩
                rcases (hLs q).1 e with e | e
                · exact (hqc q hq1).1 (e ▸ hic)
                · exact hq2 e
              · exact .inr hu
          have hds2 : (Fj.put o.dst v).ds = F.ds := by cases o.dst <;> exact hdj
          by_cases hl' : i = ops.size - 1
          · -- the last
            have hall : ∀ q, q < ops.size → Lst (listed.setIfInBounds i true) q := fun q hq => by
              rw [hLs]
              by_cases e : q = i
              · exact .inl e
              · exact .inr (hanc q (by rw [hl']; exact hlast q (by omega)))
            have hready : Region.ready .any ops (listed.setIfInBounds i true) = [] := by
              rw [List.eq_nil_iff_forall_not_mem]
              intro q hq
              obtain ⟨h1, h2, _⟩ := (mem_ready hs' hac).1 hq
              exact h2 (hall q h1)
            have hagr : Agr n (Fj.put o.dst v) (a.put o.dst v) := ⟨by rw [act_put_size, hsz], by rw [act_put_defers, hds2, hdf], fun t u ht => by
              rcases hG2 t u ht with ⟨q, hq1, hq2, hq3⟩ | hu
              · exact absurd (hall q (hqc q hq1).2) hq2
              · exact hu⟩
            have hend : cl.drop (j + 1) = [] := by
              refine List.drop_eq_nil_of_le ?_
              rw [pickO_len hcl]
              refine Nat.le_of_not_lt fun hlt => ?_
              obtain ⟨c2, hc2⟩ : ∃ c, cs[j + 1]? = some c := ⟨cs[j + 1], List.getElem?_eq_getElem hlt⟩
              obtain ⟨h1a, h1b⟩ := List.getElem?_eq_some_iff.1 hc2
              obtain ⟨h2a, h2b⟩ := List.getElem?_eq_some_iff.1 hci
              have h3 := List.pairwise_iff_getElem.1 hcs j (j + 1) h2a h1a (by omega)
              rw [h1b, h2b] at h3
              have := hclt c2 (List.mem_of_getElem? hc2)
              omega
            rw [hend] at hnx
            have q : Lift n K .normal (a.put o.dst v) w2 := ⟨_, hagr, hnx⟩
            cases fuel with
            | zero => exact ⟨hready, q⟩
            | succ f => exact ⟨fun _ => q, fun j hj => by rw [hready] at hj; exact absurd hj (by simp)⟩
          · refine ih _ _ _ (j + 1) (Fj.put o.dst v) hs' hcl'' hc' (fun e => ?_) (by rw [act_put_size, hsz]) (by rw [act_put_defers, hdf]) hds2 hnx (fun m q hq => ?_) (fun m q hq hl d hd => ?_) (fun t u ht hno => ?_) hG2 (fun t ht => ?_)
            · rcases (hLs _).1 e with e | e
              · exact hl' e.symm
              · exact hnl e
            · rw [hLs, hcj m q hq]
              constructor
              · rintro (e | e)
                · subst e
                  have hmj : m = j := by
                    rcases Nat.lt_trichotomy m j with e | e | e
                    · exact absurd ((hcj m _ hq).2 e) hi2
                    · exact e
                    · obtain ⟨h1a, h1b⟩ := List.getElem?_eq_some_iff.1 hq
                      obtain ⟨h2a, h2b⟩ := List.getElem?_eq_some_iff.1 hci
                      have h3 := List.pairwise_iff_getElem.1 hcs j m h2a h1a e
                      omega
                  omega
                · omega
              · intro e
                by_cases hmj : m = j
                · subst hmj; rw [hci] at hq; simp at hq; exact .inl hq.symm
                · exact .inr (by omega)
            · have hqm := List.mem_of_getElem? hq
              have hqi : q ≠ i := fun e => (hqc q hqm).1 (e ▸ hic)
              rw [act_put_ne (fun e => huq q (hqc q hqm).2 i hi1 hqi d hd (by rw [hdi, e]))]
              exact hA m q hq (((hLs q).1 hl).resolve_left hqi) d hd
            · rw [act_put_ne (fun e => hno i hi1 ((hLs i).2 (.inl rfl)) (by rw [hdi, e]))]
              exact hB' t u ht fun q hq hl => hno q hq ((hLs q).2 (.inr hl))
            · rw [← hFj t ht, look_put_ne (fun e => ht i hic (by rw [hdi, e]))]
        · -- a quiet one
          have hiq : i ∈ qis := (hcov i (List.mem_range.2 hi1)).resolve_right hic
          obtain ⟨m, hmi⟩ := hqpos i hiq
          obtain ⟨hdo, hy⟩ := hY m o (by rw [pickO_get hql m, hmi]; exact ho)
          have hreads : ∀ t ∈ tmpsOf o ++ gdOf ops o, ∀ u, PhiF F ql vals m t = some u → a.tmps[t]? = some u := by
            intro t ht u hu
            rw [← hrdi] at ht
            rcases PhiF_cases m hu with ⟨k, hk, hkd, rfl⟩ | ⟨hno, hu'⟩
            · rw [hqget] at hkd
              cases hqk : qis[k]? with
              | none => rw [hqk] at hkd; simp at hkd
              | some q =>
                rw [hqk] at hkd
                have hqlt' := hqlt k m q i hqk hmi hk
                have hqm := List.mem_of_getElem? hqk
                rcases (hrq i hiq q (List.mem_range.2 (hqc q hqm).2) (by omega) t ht hkd).2 with ⟨_, h2⟩ | ⟨h2, _⟩
                · exact hA k q hqk (hanc q h2) t hkd
                · omega
            · refine hB' t u hu' fun q hq hl hd => ?_
              by_cases hqi : q = i
              · subst hqi; exact hi2 hl
              obtain ⟨h1, h2⟩ := hrq i hiq q (List.mem_range.2 hq) hqi t ht hd
              obtain ⟨k, hk⟩ := hqpos q h1
              rcases h2 with ⟨h2, h3⟩ | ⟨h2, h3⟩
              · have hkm : k < m := by
                  rcases Nat.lt_trichotomy k m with e | e | e
                  · exact e
                  · subst e; rw [hmi] at hk; simp at hk; omega
                  · have := hqlt m k i q hmi hk e; omega
                exact hno k hkm (by rw [hqget, hk]; exact hd)
              · exact hi2 (closed_anc hcl' hac ops.size q i hq hl h3)
          have hnext : wpAny P .any ops (Lift n K) fuel (listed.setIfInBounds i true) (a.put o.dst (vals m)) w' := by
            refine ih _ _ _ j Fj hs' hcl'' hc' (fun e => ?_) (by rw [act_put_size, hsz]) (by rw [act_put_defers, hdf]) hdj (by rw [hdrop]; exact hch) (fun k q hq => ?_) (fun k q hq hl d hd => ?_) (fun t u ht hno => ?_) (fun t u ht => ?_) hFj
            · rcases (hLs _).1 e with e | e
              · exact hic (e ▸ hlc)
              · exact hnl e
            · rw [hLs, ← hcj k q hq]
              exact ⟨fun e => e.resolve_left (fun e => hic (e ▸ List.mem_of_getElem? hq)), .inr⟩
            · by_cases e : q = i
              · subst e
                have := hqinj k m q hq hmi
                subst this
                rw [hdi] at hd
                rw [hd] at hdo ⊢
                exact act_put_eq (by rw [hsz]; exact hdo)
              · have hqm := List.mem_of_getElem? hq
                rw [act_put_ne (fun e' => huq q (hqc q hqm).2 i hi1 e d hd (by rw [hdi, e']))]
                exact hA k q hq (((hLs q).1 hl).resolve_left e) d hd
            · rw [act_put_ne (fun e => hno i hi1 ((hLs i).2 (.inl rfl)) (by rw [hdi, e]))]
              exact hB' t u ht fun q hq hl => hno q hq ((hLs q).2 (.inr hl))
            · by_cases hd : o.dst = some t
              · refine .inr ?_
                have hF' : look F'.env t = some u := by
                  rw [← hFj t (fun q hq e => huq i hi1 q (hclt q hq) (fun e' => hic (e' ▸ hq)) t (by rw [hdi, hd]) e)]
                  exact ht
                rw [hlook] at hF'
                rcases PhiF_cases _ hF' with ⟨k, hk, hkd, rfl⟩ | ⟨hno, _⟩
                · rw [hqget] at hkd
                  cases hqk : qis[k]? with
                  | none => rw [hqk] at hkd; simp at hkd
                  | some q =>
                    rw [hqk] at hkd
                    have hqm := List.mem_of_getElem? hqk
                    have hqi : q = i := Classical.byContradiction fun e => huq i hi1 q (hqc q hqm).2 (fun e' => e e'.symm) t (by rw [hdi, hd]) hkd
                    subst hqi
                    have := hqinj k m q hqk hmi
                    subst this
                    rw [hd] at hdo ⊢
                    exact act_put_eq (by rw [hsz]; exact hdo)
                · exact absurd (by rw [hqget, hmi]; show dstOf ops i = some t; rw [hdi, hd]) (hno m (by rw [pickO_len hql]; exact (List.getElem?_eq_some_iff.1 hmi).1))
              · rw [act_put_ne hd]
                rcases hG t u ht with ⟨q, hq1, hq2, hq3⟩ | hu
                · refine .inl ⟨q, hq1, fun e => ?_, hq3⟩
                  rcases (hLs q).1 e with e | e
                  · exact hd (by rw [← hdi, ← e]; exact hq3)
                  · exact hq2 e
                · exact .inr hu
          rcases hy a hreads with ⟨hno, hv⟩ | ⟨hyes, hrun⟩
          · rw [if_neg (by rw [hno]; simp)]
            rw [← hv]
            exact hnext
          · rw [if_pos hyes]
            refine .inl ?_
            unfold Oper.wp
            rcases hrun w' hWw with e | ⟨f, args, e, hcl2⟩
            · exact upon_val e hnext
            · rw [e]
              refine Calls.mono hcl2.out fun en w'' q => ?_
              cases en with
              | returned u => obtain ⟨q1, q2⟩ := q; subst q1; subst q2; exact hnext
              | panicked ch => exact q.elim
              | outgrown => exact q.elim
  have hf : ∀ i, i < ops.size → ¬ Lst (Array.replicate ops.size false) i := fun i hi hl => absurd hl (by unfold Lst; simp [Array.getD_eq_getD_getElem?, hi])
  refine main ops.size _ a0 _ 0 F' (by simp) (fun i hi hl => absurd hl (hf i hi)) ?_ (hf _ hN) ha0.1 ha0.2.1 hds (by rw [List.drop_zero]; exact hfin) (fun m i hi => ⟨fun hl => absurd hl (hf i (hclt i (List.mem_of_getElem? hi))), fun e => by omega⟩)
    (fun m i hi hl => absurd hl (hf i (hqc i (List.mem_of_getElem? hi)).2)) (fun t u ht _ => ha0.2.2 t u ht) (fun t u ht => ?_) (fun _ _ => rfl)
  · have : ∀ m, m ≤ ops.size → cnt (Array.replicate ops.size false) m ≤ m := by
      intro m
      induction m with
      | zero => intro _; simp [cnt]
      | succ m ihm => intro h; have := ihm (by omega); simp only [cnt]; split <;> omega
    exact this _ (Nat.le_refl _)
  · rw [hlook] at ht
    rcases PhiF_cases _ ht with ⟨k, hk, hkd, rfl⟩ | ⟨_, hu⟩
    · rw [hqget] at hkd
      cases hqk : qis[k]? with
      | none => rw [hqk] at hkd; simp at hkd
      | some q =>
        rw [hqk] at hkd
        have hqm := List.mem_of_getElem? hqk
        exact .inl ⟨q, hqm, hf q (hqc q hqm).2, hkd⟩
    · exact .inr (ha0.2.2 t u hu)
theorem Dr.chX (hT : TabOk P T) (hm : P.follows .mixedOrders = true) (qis cs : List Nat) {id : Nat} {F : Fr} {w : World} {K : Exit → Fr → World → Prop} {ql cl : List Oper}
    (hB : chB ops qis cs = true) (hql : pickO ops qis = some ql) (hcl : pickO ops cs = some cl) (W : World → Prop) (Xc : List PanicEntry → World → Prop)
    (hX : ∀ ch F' w', F'.ds = F.ds → Xc ch w' → K (.panic ch) F' w')
    (h : ∀ w1, Ext w w1 → w1.heap.size = w.heap.size → quOps P T n W (fun a b => b = a) ops.toList ql F (fun F' => chOpsX P T n W Xc cl F' w1 (fun F w => K .normal F w))) : Dr P n id ops F w K :=
  Dr.chXk hT hm qis cs hB hql hcl W Xc (fun ch w' q => hX ch _ w' rfl q) h
end
end Go.Sh
