/- own work: TzC, TzD, TzE, TxH, TzF, TzG, TzH, TzI, TzJ, TzK, TzL, TzM, TzN -/
import Derived.Test.YtfnjodpehomgfaaGreatDoorMP2
import Derived.Test.YtfnjodpehomgfaaGreatDoorMP3
import Derived.Test.YtfnjodpehomgfaaGreatDoorMP4
set_option linter.unusedVariables false
set_option linter.unusedSimpArgs false
set_option linter.unusedSectionVars false
namespace Go.Proofs.YtfnjodpehomgfaaGreatDoor
open Go Go.Sh Go.Tx
attribute [local irreducible] Blk Ext RdS
def rdAt (l : Bs) (a : Nat) : Tk × Nat := match l.drop a with
  | [] => (⟨k_end, [], l.length, 0, 0⟩, l.length)
  | c :: r =>
    if letter c = true then (named ((c :: r).take (spanN alnum (c :: r))) a, a + spanN alnum (c :: r))
    else if digit c = true then (number ((c :: r).take (spanN digit (c :: r))) a, a + spanN digit (c :: r))
    else match signAt (c :: r) with
      | some t => (⟨t, t, a, 0, 0⟩, a + t.length)
      | none => (⟨[], [], a, 0, 140⟩, a + 1)
theorem read_rd (l : Bs) (p : Nat) : readT l p = rdAt l (skp false (l.drop p) p) := rfl
theorem num_at (s : Bs) (a : Nat) : number s a = { number s 0 with at_ := a } := by unfold number; cases negOf s <;> rfl
theorem num_kind (s : Bs) (a : Nat) : rKind (number s a) = rKind (number s 0) := by rw [num_at]; rfl
theorem num_err (s : Bs) (a : Nat) : (number s a).err = (number s 0).err ∧ (number s a).text = s ∧ (number s a).at_ = a ∧ (number s a).err ≠ 140 := by
  unfold number; cases negOf s <;> exact ⟨rfl, rfl, rfl, by simp⟩
theorem kw_len {s : Bs} (h : isKw s = true) : s.length ≤ 8 := by
  have h1 : ∀ t ∈ keywords, t.length ≤ 8 := by decide
  exact h1 s (List.contains_iff_mem.1 h)
theorem rk0 {k s : Bs} {a : Nat} : rKind ⟨k, s, a, 0, 0⟩ = k := by
  unfold rKind
  rw [if_neg (fun h => h rfl), if_neg]
  rintro ⟨_, h⟩
  simp at h
set_option maxHeartbeats 4000000 in
theorem word_r (l : Bs) (a : Nat) (w : World) (ha : a < l.length) (hl : l.length ≤ 1000000) :
    Cl Tryz.prog 51 #[.string (bs l), .int .i64 (a : Int)] w (fun v w' => v = .agg (rwE l (rdAt l a).1).toArray ∧ Ext w w') (fun _ _ => False) := by
  refine calls_ex (args := [.string (bs l), .int .i64 (a : Int)]) T.ok Tryz.func51 rfl rfl rfl rfl ?_
  have H := Hp.begin nw w
  have hsz := bs_size l
  refine Sq.mk ?_
  ((conv => whnf); refine Al.hp H ?_; clear H; intro p4 _ H _)
  have hal : a ≤ l.length := by omega
  obtain ⟨c, hc⟩ : ∃ c, l[a]? = some c := ⟨_, List.getElem?_eq_getElem ha⟩
  have hcr : l.drop a = c :: l.drop (a + 1) := by
    obtain ⟨h1, h2⟩ := List.getElem?_eq_some_iff.1 hc
    rw [List.drop_eq_getElem_cons h1, h2]
  have hR : rdAt l a = if letter c = true then (named ((l.drop a).take (spanN alnum (l.drop a))) a, a + spanN alnum (l.drop a)) else if digit c = true then (number ((l.drop a).take (spanN digit (l.drop a))) a, a + spanN digit (l.drop a)) else match signAt (l.drop a) with
      | some t => (⟨t, t, a, 0, 0⟩, a + t.length)
      | none => (⟨[], [], a, 0, 140⟩, a + 1) := by
    unfold rdAt; rw [hcr]
  rw [hR]
  clear hR
  by_cases hle : letter c = true
  · rw [if_pos hle]
    repeat' (first | ((conv => whnf); first | refine ztT ?_ | (refine ztB ?_ ?_ <;> intro _ <;> try (exfalso; omega)) | (refine ztA ?_; clear H; intro _ _ H _) | fail) | ((((conv => whnf); refine Cl.mk (letter_r c _) ?_); rintro _ _ ⟨rfl, hx⟩; replace H := H.ext hx; clear hx); rw [hle]))
    all_goals first | (exfalso; omega) | skip
    have hdone : ∀ e w', e - a = spanN alnum (l.drop a) → a ≤ e → e ≤ l.length → Ext w w' → (24 < ((l.drop a).take (e - a)).length → Value.agg #[.string (bs k_bad), .int .i64 (a : Int), .string (bs ((l.drop a).take (e - a))), .int .i64 142] = .agg (rwE l (named ((l.drop a).take (spanN alnum (l.drop a))) a)).toArray ∧ Ext w w') ∧
        (¬ 24 < ((l.drop a).take (e - a)).length → (isKw ((l.drop a).take (e - a)) = true → Value.agg #[.string (bs ((l.drop a).take (e - a))), .int .i64 (a : Int), .string (bs ((l.drop a).take (e - a))), .int .i64 0] = .agg (rwE l (named ((l.drop a).take (spanN alnum (l.drop a))) a)).toArray ∧ Ext w w') ∧
          (isKw ((l.drop a).take (e - a)) = false → Value.agg #[.string (bs k_name), .int .i64 (a : Int), .string (bs ((l.drop a).take (e - a))), .int .i64 0] = .agg (rwE l (named ((l.drop a).take (spanN alnum (l.drop a))) a)).toArray ∧ Ext w w')) := fun e w' h1 h2 h3 ex => by
      rw [← h1]
      generalize (l.drop a).take (e - a) = s
      refine ⟨fun h => ?_, fun h => ⟨fun hk => ?_, fun hk => ?_⟩⟩
      · have hk : ¬ isKw s = true := fun hk => by have := kw_len hk; omega
        unfold named
        rw [if_neg hk, if_pos h]; exact ⟨rfl, ex⟩
      · unfold named
        rw [if_pos hk]
        refine ⟨?_, ex⟩
        unfold rwE
        rw [rk0]; rfl
      · unfold named
        rw [hk, if_neg (by simp), if_neg h]
        refine ⟨?_, ex⟩
        unfold rwE
        rw [rk0]; rfl
    refine Lp.g0 T.ok (σ := Nat) (fun e => [(5, .int .i64 (e : Int)), (1, .int .i64 (a : Int)), (0, .string (bs l)), (4, .pointer (some ⟨p4, 0, none⟩))])
      (fun e w' => a ≤ e ∧ e ≤ l.length ∧ spanN alnum (l.drop e) + (e - a) = spanN alnum (l.drop a) ∧ Hp nw w w' [bk p4 99 T.t99.zero.cells.toList]) (fun e _ => l.length - e) a rfl ⟨rfl, rfl, rfl, rfl, trivial⟩ ⟨Nat.le_refl _, hal, by omega, H⟩ ?_
    clear H
    rintro e w5 ⟨hae, hel, hsp, H⟩
    have hfin : spanN alnum (l.drop e) = 0 → e - a = spanN alnum (l.drop a) := fun h => by omega
    have hcl : ((l.drop a).take (e - a)).length = e - a := by rw [List.length_take, List.length_drop]; omega
    have hbl := bs_size ((l.drop a).take (e - a))
    rw [hcl] at hbl
    have hend : e - a = spanN alnum (l.drop a) → ∀ w', Ext w w' → (24 < e - a → Value.agg #[.string (bs k_bad), .int .i64 (a : Int), .string (bs ((l.drop a).take (e - a))), .int .i64 142] = .agg (rwE l (named ((l.drop a).take (spanN alnum (l.drop a))) a)).toArray ∧ Ext w w') ∧
        (¬ 24 < e - a → (isKw ((l.drop a).take (e - a)) = true → Value.agg #[.string (bs ((l.drop a).take (e - a))), .int .i64 (a : Int), .string (bs ((l.drop a).take (e - a))), .int .i64 0] = .agg (rwE l (named ((l.drop a).take (spanN alnum (l.drop a))) a)).toArray ∧ Ext w w') ∧
          (isKw ((l.drop a).take (e - a)) = false → Value.agg #[.string (bs k_name), .int .i64 (a : Int), .string (bs ((l.drop a).take (e - a))), .int .i64 0] = .agg (rwE l (named ((l.drop a).take (spanN alnum (l.drop a))) a)).toArray ∧ Ext w w')) := fun h w' ex => by
      have := hdone e w' h hae hel ex
      rwa [hcl] at this
    clear hdone
    by_cases hlt2 : e < l.length
    · obtain ⟨d, hd⟩ : ∃ d, l[e]? = some d := ⟨_, List.getElem?_eq_getElem hlt2⟩
      have hwe : IntKind.i64.wrap ((e : Int) + 1) = ((e + 1 : Nat) : Int) := w64 rfl (by omega) (by omega)
      have hsa := span_at (f := alnum) hd
      by_cases hdl : letter d = true
      · rw [if_pos (by simp [alnum, hdl])] at hsa
        repeat' (first | ((conv => whnf); first | refine ztT ?_ | (refine ztB ?_ ?_ <;> intro _ <;> try (exfalso; omega)) | (refine ztA ?_; clear H; intro _ _ H _) | fail) | ((((conv => whnf); refine Cl.mk (letter_r d _) ?_); rintro _ _ ⟨rfl, hx⟩; replace H := H.ext hx; clear hx); rw [hdl]))
        all_goals first | (exfalso; omega) | skip
        exact ⟨e + 1, ⟨at_int rfl hwe, rfl, rfl, rfl, trivial⟩, rfl, ⟨by omega, by omega, by omega, H⟩, by omega⟩
      · by_cases hdd : digit d = true
        · rw [if_pos (by simp [alnum, hdd])] at hsa
          repeat' (first | ((conv => whnf); first | refine ztT ?_ | (refine ztB ?_ ?_ <;> intro _ <;> try (exfalso; omega)) | (refine ztA ?_; clear H; intro _ _ H _) | fail) | ((((conv => whnf); refine Cl.mk (letter_r d _) ?_); rintro _ _ ⟨rfl, hx⟩; replace H := H.ext hx; clear hx); rw [Bool.eq_false_iff.2 hdl]) | ((((conv => whnf); refine Cl.mk (digit_r d _) ?_); rintro _ _ ⟨rfl, hx⟩; replace H := H.ext hx; clear hx); rw [hdd]))
          all_goals first | (exfalso; omega) | skip
          exact ⟨e + 1, ⟨at_int rfl hwe, rfl, rfl, rfl, trivial⟩, rfl, ⟨by omega, by omega, by omega, H⟩, by omega⟩
        · rw [if_neg (by simp [alnum, hdl, hdd])] at hsa
          have he := hend (hfin hsa)
          repeat' (first | ((conv => whnf); first | refine ztT ?_ | (refine ztB ?_ ?_ <;> intro _ <;> try (exfalso; omega)) | (refine ztA ?_; clear H; intro _ _ H _) | fail) | ((((conv => whnf); refine Cl.mk (letter_r d _) ?_); rintro _ _ ⟨rfl, hx⟩; replace H := H.ext hx; clear hx); rw [Bool.eq_false_iff.2 hdl]) | ((((conv => whnf); refine Cl.mk (digit_r d _) ?_); rintro _ _ ⟨rfl, hx⟩; replace H := H.ext hx; clear hx); rw [Bool.eq_false_iff.2 hdd]) | refine Sm.strcut T.ok hae hel ?_ | (((conv => whnf); refine Cl.mk (keyword_r ((l.drop a).take (e - a)) _) ?_); rintro _ _ ⟨rfl, hx⟩; replace H := H.ext hx; clear hx))
          all_goals first | (exfalso; omega) | skip
          · exact (he _ H.e).1 (by omega)
          · exact ((he _ H.e).2 (by omega)).1 (by assumption)
          · exact ((he _ H.e).2 (by omega)).2 (by assumption)
    · have he := hend (hfin (span_end (by omega)))
      repeat' (first | ((conv => whnf); first | refine ztT ?_ | (refine ztB ?_ ?_ <;> intro _ <;> try (exfalso; omega)) | (refine ztA ?_; clear H; intro _ _ H _) | fail) | refine Sm.strcut T.ok hae hel ?_ | (((conv => whnf); refine Cl.mk (keyword_r ((l.drop a).take (e - a)) _) ?_); rintro _ _ ⟨rfl, hx⟩; replace H := H.ext hx; clear hx))
      all_goals first | (exfalso; omega) | skip
      · exact (he _ H.e).1 (by omega)
      · exact ((he _ H.e).2 (by omega)).1 (by assumption)
      · exact ((he _ H.e).2 (by omega)).2 (by assumption)
  · rw [if_neg hle]
    have hlef := Bool.eq_false_iff.2 hle
    by_cases hdi : digit c = true
    · rw [if_pos hdi]
      repeat' (first | ((conv => whnf); first | refine ztT ?_ | (refine ztB ?_ ?_ <;> intro _ <;> try (exfalso; omega)) | (refine ztA ?_; clear H; intro _ _ H _) | fail) | ((((conv => whnf); refine Cl.mk (letter_r c _) ?_); rintro _ _ ⟨rfl, hx⟩; replace H := H.ext hx; clear hx); rw [hlef]) | ((((conv => whnf); refine Cl.mk (digit_r c _) ?_); rintro _ _ ⟨rfl, hx⟩; replace H := H.ext hx; clear hx); rw [hdi]))
      all_goals first | (exfalso; omega) | skip
      have hall : ∀ e, e - a = spanN digit (l.drop a) → Digs ((l.drop a).take (e - a)) := fun e h d hd => by
        rw [h] at hd
        exact span_all digit _ d hd
      have hnn : ∀ e, e - a = spanN digit (l.drop a) → (l.drop a).take (e - a) ≠ [] := fun e h => by
        rw [h, hcr]
        simp [spanN, hdi]
      refine Lp.g0 T.ok (σ := Nat) (fun e => [(5, .int .i64 (e : Int)), (1, .int .i64 (a : Int)), (0, .string (bs l)), (4, .pointer (some ⟨p4, 0, none⟩))])
        (fun e w' => a ≤ e ∧ e ≤ l.length ∧ spanN digit (l.drop e) + (e - a) = spanN digit (l.drop a) ∧ Hp nw w w' [bk p4 99 T.t99.zero.cells.toList]) (fun e _ => l.length - e) a rfl ⟨rfl, rfl, rfl, rfl, trivial⟩ ⟨Nat.le_refl _, hal, by omega, H⟩ ?_
      clear H
      rintro e w5 ⟨hae, hel, hsp, H⟩
      have hfin : spanN digit (l.drop e) = 0 → e - a = spanN digit (l.drop a) := fun h => by omega
      have hcl : ((l.drop a).take (e - a)).length = e - a := by rw [List.length_take, List.length_drop]; omega
      have hend : e - a = spanN digit (l.drop a) → ∀ w', Ext w w' → Value.agg #[.string (bs (rKind (number ((l.drop a).take (e - a)) 0))), .int .i64 (a : Int), .string (bs ((l.drop a).take (e - a))), .int .i64 (number ((l.drop a).take (e - a)) 0).err] = .agg (rwE l (number ((l.drop a).take (spanN digit (l.drop a))) a)).toArray ∧ Ext w w' := fun h w' ex => by
        rw [← h]
        obtain ⟨h1, h2, h3, h4⟩ := num_err ((l.drop a).take (e - a)) a
        refine ⟨?_, ex⟩
        unfold rwE rText
        rw [if_neg h4, num_kind _ a, h1, h2, h3]
      by_cases hlt2 : e < l.length
      · obtain ⟨d, hd⟩ : ∃ d, l[e]? = some d := ⟨_, List.getElem?_eq_getElem hlt2⟩
        have hwe : IntKind.i64.wrap ((e : Int) + 1) = ((e + 1 : Nat) : Int) := w64 rfl (by omega) (by omega)
        have hsa := span_at (f := digit) hd
        by_cases hdd : digit d = true
        · rw [if_pos hdd] at hsa
          repeat' (first | ((conv => whnf); first | refine ztT ?_ | (refine ztB ?_ ?_ <;> intro _ <;> try (exfalso; omega)) | (refine ztA ?_; clear H; intro _ _ H _) | fail) | ((((conv => whnf); refine Cl.mk (digit_r d _) ?_); rintro _ _ ⟨rfl, hx⟩; replace H := H.ext hx; clear hx); rw [hdd]))
          all_goals first | (exfalso; omega) | skip
          exact ⟨e + 1, ⟨at_int rfl hwe, rfl, rfl, rfl, trivial⟩, rfl, ⟨by omega, by omega, by omega, H⟩, by omega⟩
        · rw [if_neg hdd] at hsa
          have he := hfin hsa
          repeat' (first | ((conv => whnf); first | refine ztT ?_ | (refine ztB ?_ ?_ <;> intro _ <;> try (exfalso; omega)) | (refine ztW ?_; clear H; intro _ _ H _) | fail) | ((((conv => whnf); refine Cl.mk (digit_r d _) ?_); rintro _ _ ⟨rfl, hx⟩; replace H := H.ext hx; clear hx); rw [Bool.eq_false_iff.2 hdd]) | refine Sm.strcut T.ok hae hel ?_ | (((conv => whnf); refine Cl.mk (numberKind_r ((l.drop a).take (e - a)) _ (hall e he) (hnn e he) (by omega)) ?_); rintro _ _ ⟨rfl, hx⟩; replace H := H.ext hx; clear hx))
          all_goals first | (exfalso; omega) | skip
          ((conv => whnf); refine Al.hp H ?_; clear H; intro p8 _ H _)
          repeat' (first | ((conv => whnf); first | refine ztT ?_ | (refine ztB ?_ ?_ <;> intro _ <;> try (exfalso; omega)) | (refine ztW ?_; clear H; intro _ _ H _) | fail) | refine Sm.strcut T.ok hae hel ?_)
          exact hend he _ H.e
      · have he := hfin (span_end (by omega))
        repeat' (first | ((conv => whnf); first | refine ztT ?_ | (refine ztB ?_ ?_ <;> intro _ <;> try (exfalso; omega)) | (refine ztW ?_; clear H; intro _ _ H _) | fail) | refine Sm.strcut T.ok hae hel ?_ | (((conv => whnf); refine Cl.mk (numberKind_r ((l.drop a).take (e - a)) _ (hall e he) (hnn e he) (by omega)) ?_); rintro _ _ ⟨rfl, hx⟩; replace H := H.ext hx; clear hx))
        all_goals first | (exfalso; omega) | skip
        ((conv => whnf); refine Al.hp H ?_; clear H; intro p8 _ H _)
        repeat' (first | ((conv => whnf); first | refine ztT ?_ | (refine ztB ?_ ?_ <;> intro _ <;> try (exfalso; omega)) | (refine ztW ?_; clear H; intro _ _ H _) | fail) | refine Sm.strcut T.ok hae hel ?_)
        exact hend he _ H.e
    · rw [if_neg hdi]
      have hdif := Bool.eq_false_iff.2 hdi
      have hwa1 : IntKind.i64.wrap ((a : Int) + 1) = ((a + 1 : Nat) : Int) := w64 rfl (by omega) (by omega)
      repeat' (first | ((conv => whnf); first | refine ztT ?_ | (refine ztB ?_ ?_ <;> intro _ <;> try (exfalso; omega)) | (refine ztA ?_; clear H; intro _ _ H _) | fail) | ((((conv => whnf); refine Cl.mk (letter_r c _) ?_); rintro _ _ ⟨rfl, hx⟩; replace H := H.ext hx; clear hx); rw [hlef]) | ((((conv => whnf); refine Cl.mk (digit_r c _) ?_); rintro _ _ ⟨rfl, hx⟩; replace H := H.ext hx; clear hx); rw [hdif]))
      all_goals first | (exfalso; omega) | skip
      (((conv => whnf); refine Cl.mk (sign_r l a _ hal hl) ?_); rintro _ _ ⟨rfl, hx⟩; replace H := H.ext hx; clear hx)
      cases hs : signAt (l.drop a) with
      | none =>
        simp only [Option.getD_none]
        repeat' (first | ((conv => whnf); first | refine ztT ?_ | (refine ztB ?_ ?_ <;> intro _ <;> try (exfalso; omega)) | (refine ztA ?_; clear H; intro _ _ H _) | fail) | refine Sm.strcut (i := a) (j := a + 1) T.ok (by omega) (by omega) ?_)
        all_goals first | (exfalso; omega) | skip
        refine ⟨?_, H.e⟩
        show Value.agg #[.string (bs k_bad), .int .i64 (a : Int), .string (bs ((l.drop a).take (a + 1 - a))), .int .i64 140] = _
        rw [Nat.add_sub_cancel_left]; rfl
      | some t =>
        have htn : t ≠ [] := by
          have := (sign_len hs).1
          rintro rfl
          simp at this
        simp only [Option.getD_some]
        repeat' ((conv => whnf); first | refine ztT ?_ | (refine ztB ?_ ?_ <;> intro _ <;> try (exfalso; omega)) | (refine ztA ?_; clear H; intro _ _ H _) | fail)
        refine ⟨?_, H.e⟩
        unfold rwE
        rw [rk0]; rfl
theorem skp_idem : ∀ (b : Bool) (l : Bs) (p : Nat), skp false (l.drop (skp b l p - p)) (skp b l p) = skp b l p
  | false, [], p => by simp [skp]
  | true, [], p => by simp [skp]
  | false, c :: r, p => by
    have h1 := skp_idem false r (p + 1)
    have h2 := skp_idem true r (p + 1)
    have r1 := (skp_range false r (p + 1)).1
    have r2 := (skp_range true r (p + 1)).1
    simp only [skp]
    split
    · rw [show skp false r (p + 1) - p = (skp false r (p + 1) - (p + 1)) + 1 by omega, List.drop_succ_cons]; exact h1
    · split
      · rw [show skp true r (p + 1) - p = (skp true r (p + 1) - (p + 1)) + 1 by omega, List.drop_succ_cons]; exact h2
      · rename_i g1 g2
        rw [Nat.sub_self, List.drop_zero]
        simp only [skp]
        rw [if_neg g1, if_neg g2]
  | true, c :: r, p => by
    have h1 := skp_idem false r (p + 1)
    have h2 := skp_idem true r (p + 1)
    have r1 := (skp_range false r (p + 1)).1
    have r2 := (skp_range true r (p + 1)).1
    simp only [skp]
    split
    · rw [show skp false r (p + 1) - p = (skp false r (p + 1) - (p + 1)) + 1 by omega, List.drop_succ_cons]; exact h1
    · rw [show skp true r (p + 1) - p = (skp true r (p + 1) - (p + 1)) + 1 by omega, List.drop_succ_cons]; exact h2
theorem kw_ne {s : Bs} (h : isKw s = true) : s ≠ k_bad ∧ s ≠ k_end ∧ s ≠ k_least := by
  have h1 : ∀ t ∈ keywords, t ≠ k_bad ∧ t ≠ k_end ∧ t ≠ k_least := by decide
  exact h1 s (List.contains_iff_mem.1 h)
theorem named_k (s : Bs) (a : Nat) : (named s a).text = s ∧ (named s a).kind ≠ k_bad ∧ (named s a).kind ≠ k_end ∧ (named s a).kind ≠ k_least := by
  unfold named
  split
  · rename_i h
    exact ⟨rfl, kw_ne h⟩
  · exact ⟨rfl, by show k_name ≠ k_bad; decide, by show k_name ≠ k_end; decide, by show k_name ≠ k_least; decide⟩
theorem number_k (s : Bs) (a : Nat) : (number s a).kind = k_number := by unfold number; cases negOf s <;> rfl
theorem sign_k {l t : Bs} (h : signAt l = some t) : t ≠ k_bad ∧ t ≠ k_end ∧ t ≠ k_least := by
  have h1 : ∀ t ∈ signs, t ≠ k_bad ∧ t ≠ k_end ∧ t ≠ k_least := by decide
  exact h1 t (List.mem_of_find?_eq_some h)
theorem rd_kind (l : Bs) (a : Nat) : (rdAt l a).1.kind ≠ k_bad ∧ (rdAt l a).1.kind ≠ k_least ∧ (a < l.length → (rdAt l a).1.kind ≠ k_end) := by
  unfold rdAt
  split
  · rename_i h
    refine ⟨by show k_end ≠ k_bad; decide, by show k_end ≠ k_least; decide, fun h2 => ?_⟩
    have := congrArg List.length h
    rw [List.length_drop, List.length_nil] at this
    omega
  · split
    · obtain ⟨_, h1, h2, h3⟩ := named_k ((List.take (spanN alnum (_ :: _)) (_ :: _))) a
      exact ⟨h1, h3, fun _ => h2⟩
    · split
      · show (number _ a).kind ≠ _ ∧ (number _ a).kind ≠ _ ∧ (_ → (number _ a).kind ≠ _)
        rw [number_k]
        exact ⟨by decide, by decide, fun _ => by decide⟩
      · split
        · rename_i t hs
          exact ⟨(sign_k hs).1, (sign_k hs).2.2, fun _ => (sign_k hs).2.1⟩
        · exact ⟨by show ([] : Bs) ≠ k_bad; decide, by show ([] : Bs) ≠ k_least; decide, fun _ => by show ([] : Bs) ≠ k_end; decide⟩
theorem rd_text {l : Bs} {a : Nat} (ha : a < l.length) (he : (rdAt l a).1.err = 0) : (rdAt l a).2 = a + (rText l (rdAt l a).1).length ∧ (rdAt l a).2 ≤ l.length ∧ a < (rdAt l a).2 := by
  obtain ⟨c, r, hcr⟩ : ∃ c r, l.drop a = c :: r := ⟨l[a], _, List.drop_eq_getElem_cons ha⟩
  have hl : (c :: r).length = l.length - a := by rw [← hcr, List.length_drop]
  have ht : rText l (rdAt l a).1 = (rdAt l a).1.text := by
    unfold rText
    rw [if_neg (by rw [he]; decide)]
  rw [ht]
  by_cases hc : letter c = true
  · have e : rdAt l a = (named ((c :: r).take (spanN alnum (c :: r))) a, a + spanN alnum (c :: r)) := by unfold rdAt; rw [hcr]; simp only; rw [if_pos hc]
    have h1 : 1 ≤ spanN alnum (c :: r) := span_pos (by simp [alnum, hc])
    have h2 := span_le alnum (c :: r)
    rw [e]
    refine ⟨?_, by simp only; omega, by simp only; omega⟩
    simp only
    rw [(named_k _ a).1, List.length_take]; omega
  · by_cases hd : digit c = true
    · have e : rdAt l a = (number ((c :: r).take (spanN digit (c :: r))) a, a + spanN digit (c :: r)) := by unfold rdAt; rw [hcr]; simp only; rw [if_neg hc, if_pos hd]
      have h1 : 1 ≤ spanN digit (c :: r) := span_pos hd
      have h2 := span_le digit (c :: r)
      rw [e]
      refine ⟨?_, by simp only; omega, by simp only; omega⟩
      simp only
      rw [(num_err _ a).2.1, List.length_take]; omega
    · cases hs : signAt (c :: r) with
      | none =>
        have e : rdAt l a = (⟨[], [], a, 0, 140⟩, a + 1) := by unfold rdAt; rw [hcr]; simp only; rw [if_neg hc, if_neg hd, hs]
        rw [e] at he
        simp at he
      | some t =>
        have e : rdAt l a = (⟨t, t, a, 0, 0⟩, a + t.length) := by unfold rdAt; rw [hcr]; simp only; rw [if_neg hc, if_neg hd, hs]
        have h1 := sign_len hs
        rw [e]
        exact ⟨rfl, by simp only; omega, by simp only; omega⟩
theorem rk_bad {l : Bs} {a : Nat} : rKind (rdAt l a).1 = k_bad ↔ (rdAt l a).1.err ≠ 0 := by
  constructor
  · intro h e
    unfold rKind at h
    rw [if_neg (fun h => h e)] at h
    split at h
    · revert h; decide
    · exact (rd_kind l a).1 h
  · intro h
    unfold rKind
    rw [if_pos h]
theorem rwE_end (l : Bs) : rwE l ⟨k_end, [], l.length, 0, 0⟩ = [.string (bs k_end), .int .i64 (l.length : Int), .string (bs []), .int .i64 0] := by unfold rwE; rw [rk0]; rfl
set_option maxHeartbeats 4000000 in
theorem Words_r (l : Bs) (w : World) (hl : l.length ≤ 100000) :
    Cl Tryz.prog 27 #[.string (bs l)] w (fun v w' => ∃ A c, v = .slice A (words l (l.length + 1) 0).length c ∧ Hp nw w w' [qu (rwE l) 4 99 A c (words l (l.length + 1) 0)]) (fun _ _ => False) := by
  refine calls_ex (args := [.string (bs l)]) T.ok Tryz.func27 rfl rfl rfl rfl ?_
  have H := Hp.begin nw w
  have hsz := bs_size l
  replace H := Hp.nil H (rwE l) 4 99
  repeat' ((conv => whnf); first | refine ztS ?_ | (refine ztB ?_ ?_ <;> intro _ <;> try (exfalso; omega)) | (refine ztA ?_; clear H; intro _ _ H _) | fail)
  (((conv => whnf); refine Cl.mk (blanks_r l 0 _ (Nat.zero_le _) (by omega)) ?_); rintro _ _ ⟨rfl, hx⟩; replace H := H.ext hx; clear hx)
  repeat' ((conv => whnf); first | refine ztS ?_ | (refine ztB ?_ ?_ <;> intro _ <;> try (exfalso; omega)) | (refine ztA ?_; clear H; intro _ _ H _) | fail)
  refine Lp.g0 T.ok (σ := Nat × Nat × Option Addr × Nat × List Tk) (fun q => [(0, .string (bs l)), (4, .int .i64 (skp false (l.drop q.2.1) q.2.1 : Int)), (3, .slice q.2.2.1 q.2.2.2.2.length q.2.2.2.1)])
    (fun q w' => q.2.1 ≤ l.length ∧ l.length < q.1 + q.2.1 ∧ q.1 + q.2.2.2.2.length ≤ l.length + 1 ∧ q.2.2.2.2 ++ words l q.1 q.2.1 = words l (l.length + 1) 0 ∧ Hp nw w w' [qu (rwE l) 4 99 q.2.2.1 q.2.2.2.1 q.2.2.2.2]) (fun q _ => q.1) (l.length + 1, 0, none, 0, []) rfl ⟨rfl, rfl, rfl, trivial⟩ ⟨Nat.zero_le _, by omega, by simp, rfl, H⟩ ?_
  clear H
  rintro ⟨n, p, A, c, m⟩ w5 ⟨hp, hn, hm, hw, H⟩
  simp only at hp hn hm hw H ⊢
  cases n with
  | zero => omega
  | succ n =>
  obtain ⟨hr1, hr2⟩ := skp_range false (l.drop p) p
  rw [List.length_drop] at hr2
  have hid := skp_idem false (l.drop p) p
  rw [List.drop_drop, Nat.add_sub_cancel' hr1] at hid
  have hrd := read_rd l p
  rw [words_succ, hrd] at hw
  generalize ha : skp false (l.drop p) p = a at *
  by_cases hlt : a < l.length
  case neg =>
    have hE : rdAt l a = (⟨k_end, [], l.length, 0, 0⟩, l.length) := by
      unfold rdAt
      rw [List.drop_of_length_le (by omega)]
    rw [hE, if_pos (.inr rfl)] at hw
    repeat' ((conv => whnf); first | refine ztS ?_ | (refine ztB ?_ ?_ <;> intro _ <;> try (exfalso; omega)) | (refine ztW ?_; clear H; intro _ _ H _) | fail)
    all_goals first | (exfalso; omega) | skip
    (conv => whnf)
    refine Sm.lith (cs := rwE l ⟨k_end, [], l.length, 0, 0⟩) H T.ok (fun p w4 H _ => ?_) (hcs := by rw [rwE_end, ← hsz]; rfl)
    refine Sm.ap1 (enc := rwE l) ⟨k_end, [], l.length, 0, 0⟩ H T.ok ?_ ?_ (fun A' c' w6 H => ?_)
    · show (m.length + 1) * 48 ≤ _; omega
    · omega
    simp only [List.nil_append] at H
    repeat' ((conv => whnf); first | refine ztS ?_ | (refine ztB ?_ ?_ <;> intro _ <;> try (exfalso; omega)) | (refine ztW ?_; clear H; intro _ _ H _) | fail)
    have hm1 : m.length + 1 = (m ++ [(⟨k_end, [], l.length, 0, 0⟩ : Tk)]).length := by simp
    rw [← hw]
    exact ⟨A', c', by rw [hm1]; rfl, H⟩
  repeat' ((conv => whnf); first | refine ztS ?_ | (refine ztB ?_ ?_ <;> intro _ <;> try (exfalso; omega)) | (refine ztW ?_; clear H; intro _ _ H _) | fail)
  all_goals first | (exfalso; omega) | skip
  (((conv => whnf); refine Cl.mk (word_r l a _ hlt (by omega)) ?_); rintro _ _ ⟨rfl, hx⟩; replace H := H.ext hx; clear hx)
  ((conv => whnf); refine Al.hp H ?_; clear H; intro p5 _ H _)
  repeat' ((conv => whnf); first | refine ztS ?_ | (refine ztB ?_ ?_ <;> intro _ <;> try (exfalso; omega)) | (refine ztW ?_; clear H; intro _ _ H _) | fail)
  refine Sm.lith (cs := rwE l (rdAt l a).1) H T.ok (fun p w4 H _ => ?_)
  refine Sm.ap1 (enc := rwE l) (rdAt l a).1 H T.ok ?_ ?_ (fun A' c' w6 H => ?_)
  · show (m.length + 1) * 48 ≤ _; omega
  · omega
  simp only [List.cons_append, List.nil_append] at H
  have hfix : ∀ w', Hp nw w w' [bk p5 99 (rwE l (rdAt l a).1), qu (rwE l) 4 99 A' c' (m ++ [(rdAt l a).1])] → Hp nw w w' [bk p5 99 (rwE l (rdAt l a).1), qu (rwE l) 4 99 A' c' (m ++ [(rdAt l a).1])] := fun _ h => h
  replace H := hfix _ H
  clear hfix
  have hm1 : m.length + 1 = (m ++ [(rdAt l a).1]).length := by simp
  by_cases he : (rdAt l a).1.err = 0
  · have hk : ¬ rKind (rdAt l a).1 = k_bad := fun h => (rk_bad.1 h) he
    rw [if_neg (fun h => by rcases h with h | h; exact h he; exact (rd_kind l a).2.2 hlt h)] at hw
    obtain ⟨g1, g2, g3⟩ := rd_text hlt he
    have hsz2 := bs_size (rText l (rdAt l a).1)
    repeat' ((conv => whnf); first | refine ztT ?_ | (refine ztB ?_ ?_ <;> intro _ <;> try (exfalso; omega)) | (refine ztW ?_; clear H; intro _ _ H _) | fail)
    have hwa : IntKind.i64.wrap ((a : Int) + ((bs (rText l (rdAt l a).1)).size : Int)) = (((rdAt l a).2 : Nat) : Int) := w64 (by omega) (by omega) (by omega)
    have hbk := fun w => blanks_r l (rdAt l a).2 w g2 (by omega)
    simp only [← hwa] at hbk
    (((conv => whnf); refine Cl.mk (hbk _) ?_); rintro _ _ ⟨rfl, hx⟩; replace H := H.ext hx; clear hx)
    repeat' ((conv => whnf); first | refine ztS ?_ | (refine ztB ?_ ?_ <;> intro _ <;> try (exfalso; omega)) | (refine ztW ?_; clear H; intro _ _ H _) | fail)
    refine ⟨(n, (rdAt l a).2, A', c', m ++ [(rdAt l a).1]), ⟨rfl, rfl, at_val rfl (by rw [← hm1]), trivial⟩, rfl, ⟨g2, by simp only; omega, by simp only [List.length_append, List.length_cons, List.length_nil]; omega, ?_, H.d0⟩, Nat.lt_succ_self n⟩
    simp only [List.append_assoc, List.cons_append, List.nil_append]
    exact hw
  · have hk : rKind (rdAt l a).1 = k_bad := rk_bad.2 he
    rw [if_pos (.inl he)] at hw
    repeat' ((conv => whnf); first | refine ztT ?_ | (refine ztB ?_ ?_ <;> intro _ <;> try (exfalso; omega)) | (refine ztW ?_; clear H; intro _ _ H _) | fail)
    rw [← hw]
    exact ⟨A', c', by rw [hm1]; rfl, H.d0⟩
end Go.Proofs.YtfnjodpehomgfaaGreatDoor
namespace Go.Proofs.YtfnjodpehomgfaaGreatDoor
open Go Go.Sh Go.Tx
attribute [local irreducible] Blk Ext RdS
def spE (s : RS) : Int := match s.sp with | none => 0 | some (e, _) => e
def spP (s : RS) : Nat := match s.sp with | none => 0 | some (_, p) => p
def qCs (ws : List Tk) (A : Option Addr) (cw k : Nat) (s : RS) : List Value := [.slice A ws.length cw, .int .i64 (k : Int), .int .i64 (spE s), .int .i64 (spP s : Int)]
def RdQ (ws : List Tk) (A : Option Addr) (cw pr : Nat) (s : RS) (w : World) : Prop := ∃ k, ws.drop k = s.ts ∧ (∀ e p, s.sp = some (e, p) → e ≠ 0) ∧ Blk w pr 54 (qCs ws A cw k s)
abbrev rq (ws : List Tk) (A : Option Addr) (cw pr : Nat) (s : RS) : Ck := ⟨(· = pr), RdQ ws A cw pr s, true, false⟩
theorem rq_ok {ws : List Tk} {A : Option Addr} {cw pr : Nat} {s : RS} {w : World} (h : RdQ ws A cw pr s w) : (rq ws A cw pr s).Ok w := by
  obtain ⟨k, h1, h2, h3⟩ := h
  exact ⟨⟨k, h1, h2, h3⟩, fun j hj => by subst hj; exact h3.lt, fun w' hs hb => ⟨k, h1, h2, (bk_ok h3).loc w' hs hb⟩⟩
structure RX (src : Bs) (ws : List Tk) (A : Option Addr) (cw pr : Nat) (wb : World) : Prop where
  lo : wb.heap.size ≤ pr
  rd : RdS (rwE src) 4 wb A ws
  len : ws.length ≤ 20000
  pls : Pls ws
theorem RX.ok {src : Bs} {ws : List Tk} {A : Option Addr} {cw pr : Nat} {wb w : World} (X : RX src ws A cw pr wb) (h : Ext wb w) : BaseOk (· = pr) wb w := ⟨h, fun k hk => by subst hk; exact X.lo⟩
theorem Hp.ofQ {S : Nat → Prop} {w0 w : World} {Γ Γ' : List Ck} {ws : List Tk} {A : Option Addr} {cw pr k : Nat} {s : RS} (H : Hp S w0 w Γ) (hb : Blk w pr 54 (qCs ws A cw k s))
    (u : Upd1 Γ (rq ws A cw pr s) (bk pr 54 (qCs ws A cw k s)) Γ' := by (repeat (first | exact Upd1.head | apply Upd1.tail))) : Hp S w0 w Γ' :=
  Hp.upd (c := rq ws A cw pr s) H (Hp.start (S := (· = pr)) (bk_ok hb) (fun k hk => hk)) rfl (.inl rfl) u
theorem Hp.toQ {S : Nat → Prop} {w0 w : World} {Γ Γ' : List Ck} {ws : List Tk} {A : Option Addr} {cw pr k : Nat} {s : RS} (H : Hp S w0 w Γ) (h1 : ws.drop k = s.ts) (h2 : ∀ e p, s.sp = some (e, p) → e ≠ 0)
    (u : Upd1 Γ (bk pr 54 (qCs ws A cw k s)) (rq ws A cw pr s) Γ' := by (repeat (first | exact Upd1.head | apply Upd1.tail))) : Hp S w0 w Γ' := by
  obtain ⟨L, R, hs, rfl⟩ := u.sp
  have hb : Blk w pr 54 (qCs ws A cw k s) := H.mem (c := bk pr 54 (qCs ws A cw k s)) (by rw [hs.eq]; simp)
  exact Hp.upd (c := bk pr 54 (qCs ws A cw k s)) H (Hp.start (S := (· = pr)) (rq_ok ⟨k, h1, h2, hb⟩) (fun k hk => hk)) rfl (.inl rfl) u
section
variable {src : Bs} {ws : List Tk} {A : Option Addr} {cw pr : Nat} {wb : World} (X : RX src ws A cw pr wb)
include X
theorem fine_r (s : RS) (w : World) (h : RdQ ws A cw pr s w) : Cl Tryz.prog 28 #[.pointer (some ⟨pr, 0, none⟩)] w (fun v w' => v = .bool s.sp.isNone ∧ Ext w w') (fun _ _ => False) := by
  obtain ⟨k, h1, h2, hb⟩ := h
  refine calls_ex (args := [.pointer (some ⟨pr, 0, none⟩)]) T.ok Tryz.func28 rfl rfl rfl rfl ?_
  have H := Hp.start (S := (· = pr)) (bk_ok hb) (fun k hk => hk)
  obtain ⟨ts, sp⟩ := s
  cases sp with
  | none =>
    repeat' ((conv => whnf); first | refine ztS ?_ | (refine ztB ?_ ?_ <;> intro _ <;> try (exfalso; omega)) | (refine ztA ?_; clear H; intro _ _ H _) | fail)
    exact ⟨rfl, Ext.refl _⟩
  | some x =>
    obtain ⟨e, p⟩ := x
    have he := h2 e p rfl
    repeat' ((conv => whnf); first | refine ztS ?_ | (refine ztB ?_ ?_ <;> intro _ <;> try (exfalso; omega)) | (refine ztA ?_; clear H; intro _ _ H _) | fail)
    refine ⟨b_eq ?_, Ext.refl _⟩
    show (e == 0) = false
    simpa using he
theorem next_r (s : RS) (w : World) (hwb : Ext wb w) (h : RdQ ws A cw pr s w) (hne : s.ts ≠ []) : Cl Tryz.prog 52 #[.pointer (some ⟨pr, 0, none⟩)] w (fun v w' => v = .agg (rwE src (curT s.ts)).toArray ∧ Ext w w') (fun _ _ => False) := by
  obtain ⟨k, h1, h2, hb0⟩ := h
  refine calls_ex (args := [.pointer (some ⟨pr, 0, none⟩)]) T.ok Tryz.func52 rfl rfl rfl rfl ?_
  have H := Hp.begin nw w
  have hk : k < ws.length := by
    apply Nat.lt_of_not_le
    intro hle
    exact hne (h1.symm.trans (List.drop_of_length_le hle))
  have hx : ws[k]? = some (curT s.ts) := by
    rw [← h1, List.drop_eq_getElem_cons hk, List.getElem?_eq_getElem hk]; rfl
  refine Sq.mk ?_
  ((conv => whnf); refine Al.hp H ?_; clear H; intro p2 _ H _)
  have hrd := RdS.from (Ext.trans hwb H.e) X.rd
  (conv => whnf)
  refine Sq.mk ?_
  (conv => whnf)
  refine Dr.tail T.ok mixed 10 (by kernel_rfl) (fun W wT hW eT _ => ?_)
  repeat' ((conv => whnf); first | ((conv => whnf); first | refine ztQ ?_ | (refine ztB ?_ ?_ <;> intro _ <;> try (exfalso; omega)) | fail) | ((with_reducible show QLd1 ..); refine QLd1.blk hW (Blk.from H.e hb0) rfl ?_) | ((with_reducible show QLd ..); refine QLd.blk hW (Blk.from H.e hb0) rfl ?_))
  replace H := H.ext eT
  clear hW eT
  repeat' ((conv => whnf); first | refine ztS ?_ | (refine ztB ?_ ?_ <;> intro _ <;> try (exfalso; omega)) | (refine ztA ?_; clear H; intro _ _ H _) | fail)
  exact ⟨rfl, H.e⟩
theorem is_r (k : Bs) (s : RS) (w : World) (hwb : Ext wb w) (h : RdQ ws A cw pr s w) (hne : s.ts ≠ []) : Cl Tryz.prog 29 #[.pointer (some ⟨pr, 0, none⟩), .string (bs k)] w (fun v w' => v = .bool (isR k s) ∧ Ext w w') (fun _ _ => False) := by
  refine calls_ex (args := [.pointer (some ⟨pr, 0, none⟩), .string (bs k)]) T.ok Tryz.func29 rfl rfl rfl rfl ?_
  have H := Hp.begin nw w
  have hq : ∀ w', Ext w w' → RdQ ws A cw pr s w' := fun w' e => by
    obtain ⟨j, h1, h2, hb⟩ := h
    exact ⟨j, h1, h2, Blk.from e hb⟩
  repeat' ((conv => whnf); first | refine ztS ?_ | (refine ztB ?_ ?_ <;> intro _ <;> try (exfalso; omega)) | (refine ztA ?_; clear H; intro _ _ H _) | fail)
  (((conv => whnf); refine Cl.mk (fine_r X s _ (hq _ H.e)) ?_); rintro _ _ ⟨rfl, hx⟩; replace H := H.ext hx; clear hx)
  cases hs : s.sp with
  | some x =>
    have hi : isR k s = false := by unfold isR; rw [hs]
    rw [hi]
    repeat' ((conv => whnf); first | refine ztS ?_ | (refine ztB ?_ ?_ <;> intro _ <;> try (exfalso; omega)) | (refine ztA ?_; clear H; intro _ _ H _) | fail)
    exact ⟨rfl, H.e⟩
  | none =>
    have hi : isR k s = (rKind (curT s.ts) == k) := by unfold isR; rw [hs]
    rw [hi]
    repeat' ((conv => whnf); first | refine ztS ?_ | (refine ztB ?_ ?_ <;> intro _ <;> try (exfalso; omega)) | (refine ztA ?_; clear H; intro _ _ H _) | fail)
    (((conv => whnf); refine Cl.mk (next_r X s _ (Ext.trans hwb H.e) (hq _ H.e) hne) ?_); rintro _ _ ⟨rfl, hx⟩; replace H := H.ext hx; clear hx)
    repeat' ((conv => whnf); first | refine ztS ?_ | (refine ztB ?_ ?_ <;> intro _ <;> try (exfalso; omega)) | (refine ztA ?_; clear H; intro _ _ H _) | fail)
    refine ⟨b_eq ?_, H.e⟩
    rw [bs_eq, Bool.eq_iff_iff]
    simp
theorem wrong_r (e : Int) (s : RS) (w : World) (he : e ≠ 0) (hwb : Ext wb w) (h : RdQ ws A cw pr s w) (hne : s.ts ≠ []) : Cl Tryz.prog 82 #[.pointer (some ⟨pr, 0, none⟩), .int .i64 e] w (fun v w' => Hp (· = pr) w w' [rq ws A cw pr (wrongR e s)]) (fun _ _ => False) := by
  have HB := X.ok hwb
  refine calls_ex (args := [.pointer (some ⟨pr, 0, none⟩), .int .i64 e]) T.ok Tryz.func82 rfl rfl rfl rfl ?_
  obtain ⟨k, h1, h2, hb⟩ := h
  have H := Hp.start (S := (· = pr)) (bk_ok hb) (fun k hk => hk)
  obtain ⟨ts, sp⟩ := s
  cases sp with
  | some x =>
    obtain ⟨e0, p0⟩ := x
    have he0 := h2 e0 p0 rfl
    repeat' ((conv => whnf); first | refine ztS ?_ | (refine ztB ?_ ?_ <;> intro _ <;> try (exfalso; omega)) | (refine ztA ?_; clear H; intro _ _ H _) | fail)
    · exact Hp.toQ H h1 h2
    · exfalso
      rename_i hx
      exact he0 hx
  | none =>
    have hq : ∀ w', Blk w' pr 54 (qCs ws A cw k ⟨ts, none⟩) → RdQ ws A cw pr ⟨ts, none⟩ w' := fun w' hb => ⟨k, h1, h2, hb⟩
    repeat' ((conv => whnf); first | refine ztS ?_ | (refine ztB ?_ ?_ <;> intro _ <;> try (exfalso; omega)) | (refine ztW ?_; clear H; intro _ _ H _) | fail)
    all_goals first | (exfalso; exact absurd (show spE (⟨ts, none⟩ : RS) = 0 from rfl) (by assumption)) | skip
    (((conv => whnf); refine Cl.mk (next_r X ⟨ts, none⟩ _ (H.base2 HB) (hq _ (H.blk 0 rfl)) hne) ?_); rintro _ _ ⟨rfl, hx⟩; replace H := H.ext hx; clear hx)
    ((conv => whnf); refine Al.hp H ?_; clear H; intro p4 _ H _)
    have hW : wrongR e ⟨ts, none⟩ = ⟨ts, some (wrongE e (curT ts))⟩ := rfl
    by_cases herr : (curT ts).err = 0
    · by_cases hlst : rKind (curT ts) = k_least
      · have hE : wrongE e (curT ts) = (143, (curT ts).at_) := by unfold wrongE; rw [if_neg (fun h => h herr), if_pos hlst]
        rw [hW, hE]
        repeat' ((conv => whnf); first | refine ztT ?_ | (refine ztB ?_ ?_ <;> intro _ <;> try (exfalso; omega)) | (refine ztW ?_; clear H; intro _ _ H _) | fail)
        all_goals first | (exfalso; exact absurd herr (by assumption)) | skip
        exact Hp.toQ (s := ⟨ts, some (143, (curT ts).at_)⟩) H.d0 h1 (fun e p h => by simp only [Option.some.injEq, Prod.mk.injEq] at h; omega)
      · have hE : wrongE e (curT ts) = (e, (curT ts).at_) := by unfold wrongE; rw [if_neg (fun h => h herr), if_neg hlst]
        rw [hW, hE]
        repeat' ((conv => whnf); first | refine ztT ?_ | (refine ztB ?_ ?_ <;> intro _ <;> try (exfalso; omega)) | (refine ztW ?_; clear H; intro _ _ H _) | fail)
        all_goals first | (exfalso; exact absurd herr (by assumption)) | skip
        exact Hp.toQ (s := ⟨ts, some (e, (curT ts).at_)⟩) H.d0 h1 (fun e' p h => by simp only [Option.some.injEq, Prod.mk.injEq] at h; omega)
    · have hE : wrongE e (curT ts) = ((curT ts).err, (curT ts).at_) := by unfold wrongE; rw [if_pos herr]
      rw [hW, hE]
      repeat' ((conv => whnf); first | refine ztT ?_ | (refine ztB ?_ ?_ <;> intro _ <;> try (exfalso; omega)) | (refine ztW ?_; clear H; intro _ _ H _) | fail)
      all_goals first | (exfalso; exact absurd (by assumption) herr) | skip
      exact Hp.toQ (s := ⟨ts, some ((curT ts).err, (curT ts).at_)⟩) H.d0 h1 (fun e' p h => by simp only [Option.some.injEq, Prod.mk.injEq] at h; omega)
def noW : Value := .agg #[.string (bs []), .int .i64 0, .string (bs []), .int .i64 0]
def takeV (src k : Bs) (s : RS) : Value := match s.sp with
  | some _ => noW
  | none => if rKind (curT s.ts) = k then .agg (rwE src (curT s.ts)).toArray else noW
theorem take_r (k : Bs) (s : RS) (w : World) (hwb : Ext wb w) (h : RdQ ws A cw pr s w) (hne : s.ts ≠ []) : Cl Tryz.prog 53 #[.pointer (some ⟨pr, 0, none⟩), .string (bs k)] w (fun v w' => v = takeV src k s ∧ Hp (· = pr) w w' [rq ws A cw pr (takeR k s)]) (fun _ _ => False) := by
  have HB := X.ok hwb
  have hlen := X.len
  refine calls_ex (args := [.pointer (some ⟨pr, 0, none⟩), .string (bs k)]) T.ok Tryz.func53 rfl rfl rfl rfl ?_
  have H := Hp.start (S := (· = pr)) (rq_ok h) (fun k hk => hk)
  refine Sq.mk ?_
  ((conv => whnf); refine Al.hp H ?_; clear H; intro p4 _ H _)
  repeat' ((conv => whnf); first | refine ztS ?_ | (refine ztB ?_ ?_ <;> intro _ <;> try (exfalso; omega)) | (refine ztW ?_; clear H; intro _ _ H _) | fail)
  (((conv => whnf); refine Cl.mk (fine_r X s _ (H.atC 1 rfl)) ?_); rintro _ _ ⟨rfl, hx⟩; replace H := H.ext hx; clear hx)
  obtain ⟨ts, sp⟩ := s
  cases sp with
  | some x =>
    repeat' ((conv => whnf); first | refine ztS ?_ | (refine ztB ?_ ?_ <;> intro _ <;> try (exfalso; omega)) | (refine ztW ?_; clear H; intro _ _ H _) | fail)
    exact ⟨rfl, H.d0⟩
  | none =>
    repeat' ((conv => whnf); first | refine ztS ?_ | (refine ztB ?_ ?_ <;> intro _ <;> try (exfalso; omega)) | (refine ztW ?_; clear H; intro _ _ H _) | fail)
    (((conv => whnf); refine Cl.mk (next_r X ⟨ts, none⟩ _ (H.base2 HB) (H.atC 1 rfl) hne) ?_); rintro _ _ ⟨rfl, hx⟩; replace H := H.ext hx; clear hx)
    ((conv => whnf); refine Al.hp H ?_; clear H; intro p5 _ H _)
    by_cases hk : rKind (curT ts) = k
    · have hV : takeV src k ⟨ts, none⟩ = .agg (rwE src (curT ts)).toArray := by unfold takeV; simp only; rw [if_pos hk]
      have hR : takeR k ⟨ts, none⟩ = ⟨ts.tail, none⟩ := by unfold takeR; simp only; rw [if_pos hk]
      rw [hV, hR]
      obtain ⟨j, h1, h2, hb0⟩ := H.atC (c := rq ws A cw pr ⟨ts, none⟩) 2 rfl
      have hj : j < ws.length := by
        apply Nat.lt_of_not_le
        intro hle
        exact hne (h1.symm.trans (List.drop_of_length_le hle))
      replace H := Hp.ofQ H hb0
      clear hb0
      repeat' ((conv => whnf); first | refine ztT ?_ | (refine ztB ?_ ?_ <;> intro _ <;> try (exfalso; omega)) | (refine ztW ?_; clear H; intro _ _ H _) | fail)
      refine ⟨rfl, ?_⟩
      have hw1 : IntKind.i64.wrap ((j : Int) + 1) = ((j + 1 : Nat) : Int) := w64 rfl (by omega) (by omega)
      rw [hw1] at H
      exact Hp.toQ (s := ⟨ts.tail, none⟩) (k := j + 1) H.d0.d0 (by rw [← List.tail_drop, h1]) (fun e p h => by cases h)
    · have hV : takeV src k ⟨ts, none⟩ = noW := by unfold takeV; simp only; rw [if_neg hk]
      have hR : takeR k ⟨ts, none⟩ = wrongR 141 ⟨ts, none⟩ := by unfold takeR; simp only; rw [if_neg hk]
      rw [hV, hR]
      repeat' ((conv => whnf); first | refine ztT ?_ | (refine ztB ?_ ?_ <;> intro _ <;> try (exfalso; omega)) | (refine ztW ?_; clear H; intro _ _ H _) | fail)
      ((conv => whnf); refine Cl.mk (wrong_r X 141 ⟨ts, none⟩ _ (by decide) (H.base2 HB) (H.atC 2 rfl) hne) ?_)
      rintro _ w3 H'
      replace H := H.upd (c := rq ws A cw pr ⟨ts, none⟩) H' rfl (.inl rfl)
      clear H'
      repeat' ((conv => whnf); first | refine ztT ?_ | (refine ztB ?_ ?_ <;> intro _ <;> try (exfalso; omega)) | (refine ztW ?_; clear H; intro _ _ H _) | fail)
      exact ⟨rfl, H.d0.d0⟩
theorem deeper_r (d : Nat) (s : RS) (w : World) (hd : d ≤ 1000000) (hwb : Ext wb w) (h : RdQ ws A cw pr s w) (hne : s.ts ≠ []) : Cl Tryz.prog 142 #[.pointer (some ⟨pr, 0, none⟩), .int .i64 (d : Int)] w (fun v w' => v = .bool (decide (d + 1 ≤ 40)) ∧ Hp (· = pr) w w' [rq ws A cw pr (if d + 1 ≤ 40 then s else wrongR 144 s)]) (fun _ _ => False) := by
  have HB := X.ok hwb
  refine calls_ex (args := [.pointer (some ⟨pr, 0, none⟩), .int .i64 (d : Int)]) T.ok Tryz.func142 rfl rfl rfl rfl ?_
  have H := Hp.start (S := (· = pr)) (rq_ok h) (fun k hk => hk)
  have hw1 : IntKind.i64.wrap ((d : Int) + 1) = ((d + 1 : Nat) : Int) := w64 rfl (by omega) (by omega)
  by_cases h40 : d + 1 ≤ 40
  · rw [if_pos h40]
    repeat' ((conv => whnf); first | refine ztT ?_ | (refine ztB ?_ ?_ <;> intro _ <;> try (exfalso; omega)) | (refine ztW ?_; clear H; intro _ _ H _) | fail)
    all_goals first | (exfalso; omega) | skip
    exact ⟨b_eq (by simpa using h40), H⟩
  · rw [if_neg h40]
    repeat' ((conv => whnf); first | refine ztT ?_ | (refine ztB ?_ ?_ <;> intro _ <;> try (exfalso; omega)) | (refine ztW ?_; clear H; intro _ _ H _) | fail)
    all_goals first | (exfalso; omega) | skip
    ((conv => whnf); refine Cl.mk (wrong_r X 144 s _ (by decide) (H.base2 HB) (H.atC 0 rfl) hne) ?_)
    rintro _ w3 H'
    replace H := H.upd (c := rq ws A cw pr s) H' rfl (.inl rfl)
    clear H'
    repeat' ((conv => whnf); first | refine ztT ?_ | (refine ztB ?_ ?_ <;> intro _ <;> try (exfalso; omega)) | (refine ztW ?_; clear H; intro _ _ H _) | fail)
    exact ⟨b_eq (by simpa using h40), H⟩
end
end Go.Proofs.YtfnjodpehomgfaaGreatDoor
namespace Go.Proofs.YtfnjodpehomgfaaGreatDoor
open Go Go.Sh Go.Tx
attribute [local irreducible] Blk Ext RdS
def levelN (k : Bs) : Nat := if k = s_orr then 1 else if k = s_andd then 2 else if k = s_eqq then 3 else if k = s_neq then 3 else if k = s_lt then 3 else if k = s_le then 3 else if k = s_bar then 4 else if k = s_xor then 4 else if k = s_amp then 5
  else if k = s_shl then 6 else if k = s_shr then 6 else if k = s_plus then 7 else if k = s_minus then 7 else if k = s_star then 8 else if k = s_slash then 8 else if k = s_pct then 8 else 0
def binL : List Bs := [s_orr, s_andd, s_eqq, s_neq, s_lt, s_le, s_bar, s_xor, s_amp, s_shl, s_shr, s_plus, s_minus, s_star, s_slash, s_pct]
theorem level_no {k : Bs} (h : k ∉ binL) : levelN k = 0 := by
  simp only [binL, List.mem_cons, List.not_mem_nil, or_false, not_or] at h
  obtain ⟨h1, h2, h3, h4, h5, h6, h7, h8, h9, h10, h11, h12, h13, h14, h15, h16⟩ := h
  unfold levelN
  rw [if_neg h1, if_neg h2, if_neg h3, if_neg h4, if_neg h5, if_neg h6, if_neg h7, if_neg h8, if_neg h9, if_neg h10, if_neg h11, if_neg h12, if_neg h13, if_neg h14, if_neg h15, if_neg h16]
theorem stands_level {lv : Nat} (hl : lv < 8) (k : Bs) : standsB lv k = decide (levelN k = lv + 1) := by
  by_cases h : k ∈ binL
  · have h1 : ∀ k ∈ binL, ∀ lv < 8, standsB lv k = decide (levelN k = lv + 1) := by decide
    exact h1 k h lv hl
  · rw [level_no h]
    have h2 : ∀ lv < 8, ∀ t ∈ (levels[lv]?.getD []), t ∈ binL := by decide
    rw [show decide (0 = lv + 1) = false from decide_eq_false (by omega)]
    unfold standsB
    rw [Bool.eq_false_iff]
    intro hc
    exact h (h2 lv hl k (List.contains_iff_mem.1 hc))
set_option maxHeartbeats 4000000 in
theorem Level_r (k : Bs) (w : World) : Cl Tryz.prog 127 #[.string (bs k)] w (fun v w' => v = .int .i64 (levelN k : Int) ∧ Ext w w') (fun _ _ => False) := by
  refine calls_ex (args := [.string (bs k)]) T.ok Tryz.func127 rfl rfl rfl rfl ?_
  have H := Hp.begin nw w
  by_cases h : k ∈ binL
  · simp only [binL, List.mem_cons, List.not_mem_nil, or_false] at h
    rcases h with rfl | rfl | rfl | rfl | rfl | rfl | rfl | rfl | rfl | rfl | rfl | rfl | rfl | rfl | rfl | rfl
    all_goals (repeat' ((conv => whnf); first | refine ztS ?_ | (refine ztB ?_ ?_ <;> intro _ <;> try (exfalso; omega)) | (refine ztA ?_; clear H; intro _ _ H _) | fail))
    all_goals exact ⟨rfl, H.e⟩
  · rw [level_no h]
    simp only [binL, List.mem_cons, List.not_mem_nil, or_false, not_or] at h
    obtain ⟨h1, h2, h3, h4, h5, h6, h7, h8, h9, h10, h11, h12, h13, h14, h15, h16⟩ := h
    repeat' ((conv => whnf); first | refine ztT ?_ | (refine ztB ?_ ?_ <;> intro _ <;> try (exfalso; omega)) | (refine ztA ?_; clear H; intro _ _ H _) | fail)
    exact ⟨rfl, H.e⟩
theorem names_r (w : World) : Cl Tryz.prog 147 #[] w (fun v w' => ∃ A c, v = .slice A opNames.length c ∧ Hp nw w w' [qu strE 1 9 A c opNames]) (fun _ _ => False) := by
  refine calls_ex (args := []) T.ok Tryz.func147 rfl rfl rfl rfl ?_
  have H := Hp.begin nw w
  repeat' ((conv => whnf); first | refine ztS ?_ | (refine ztB ?_ ?_ <;> intro _ <;> try (exfalso; omega)) | (refine ztA ?_; clear H; intro _ _ H _) | fail)
  refine Sm.lith (cs := opNames.flatMap strE) H T.ok (fun p w4 H _ => ?_)
  repeat' ((conv => whnf); first | refine ztS ?_ | (refine ztB ?_ ?_ <;> intro _ <;> try (exfalso; omega)) | (refine ztA ?_; clear H; intro _ _ H _) | fail)
  exact ⟨some ⟨p, 0, none⟩, 16, rfl, Hp.bq (sz := 1) H (fun z _ => rfl)⟩
def opR (s : Bs) : Int := if findOp s = -1 then 0 else findOp s
theorem operation_r (s : Bs) (w : World) : Cl Tryz.prog 144 #[.string (bs s)] w (fun v w' => v = .int .i64 (opR s) ∧ Ext w w') (fun _ _ => False) := by
  refine calls_ex (args := [.string (bs s)]) T.ok Tryz.func144 rfl rfl rfl rfl ?_
  have H := Hp.begin nw w
  repeat' ((conv => whnf); first | refine ztS ?_ | (refine ztB ?_ ?_ <;> intro _ <;> try (exfalso; omega)) | (refine ztA ?_; clear H; intro _ _ H _) | fail)
  ((conv => whnf); refine Cl.mk (names_r _) ?_)
  rintro _ w2 ⟨A, c, rfl, H'⟩
  replace H := H.fr0 H' (.inl rfl)
  clear H'
  repeat' ((conv => whnf); first | refine ztS ?_ | (refine ztB ?_ ?_ <;> intro _ <;> try (exfalso; omega)) | (refine ztA ?_; clear H; intro _ _ H _) | fail)
  refine Lp.g0 T.ok (σ := Nat) (fun i => [(4, .int .i64 (i : Int)), (3, .slice A opNames.length c), (0, .string (bs s))])
    (fun i w' => i ≤ opNames.length ∧ findAux s (opNames.drop i) i = findOp s ∧ Hp nw w w' [qu strE 1 9 A c opNames]) (fun i _ => 16 - i) 0 rfl ⟨rfl, rfl, rfl, trivial⟩ ⟨Nat.zero_le _, rfl, H⟩ ?_
  clear H
  rintro i w5 ⟨hi, hc, H⟩
  have hkl : opNames.length = 16 := rfl
  by_cases hlt : i < opNames.length
  · obtain ⟨x, hx⟩ : ∃ x, opNames[i]? = some x := ⟨_, List.getElem?_eq_getElem hlt⟩
    obtain ⟨hx1, hx2⟩ := List.getElem?_eq_some_iff.1 hx
    rw [List.drop_eq_getElem_cons hx1, hx2] at hc
    simp only [findAux] at hc
    repeat' ((conv => whnf); first | refine ztS ?_ | (refine ztB ?_ ?_ <;> intro _ <;> try (exfalso; omega)) | (refine ztA ?_; clear H; intro _ _ H _) | fail)
    · have hb : (bs x == bs s) = true := by assumption
      rw [bs_eq] at hb
      rw [if_pos (of_decide_eq_true hb)] at hc
      refine ⟨i_eq ?_, H.e⟩
      unfold opR
      rw [← hc, if_neg (by omega)]
    · have hb : (bs x == bs s) = false := by assumption
      rw [bs_eq] at hb
      rw [if_neg (of_decide_eq_false hb)] at hc
      exact ⟨i + 1, ⟨at_int (m := ((i + 1 : Nat) : Int)) rfl (w64 (by simp) (by omega) (by omega)), rfl, rfl, trivial⟩, rfl, ⟨by omega, hc, H⟩, by omega⟩
  · have hi : i = opNames.length := by omega
    subst hi
    repeat' ((conv => whnf); first | refine ztS ?_ | (refine ztB ?_ ?_ <;> intro _ <;> try (exfalso; omega)) | (refine ztA ?_; clear H; intro _ _ H _) | fail)
    all_goals first | (exfalso; omega) | skip
    refine ⟨i_eq ?_, H.e⟩
    unfold opR
    rw [← hc]; rfl
theorem op_known {s : Bs} (h : s ∈ opNames) : opR s = findOp s := by
  have h1 : ∀ s ∈ opNames, opR s = findOp s := by decide
  exact h1 s h
theorem value_r (s : Bs) (w : World) (hd : Digs s) (hv : val s ≤ 9223372036854775808) (hl : s.length ≤ 1000000) : Cl Tryz.prog 143 #[.string (bs s)] w (fun v w' => v = .int .i64 (IntKind.i64.wrap (val s : Int)) ∧ Ext w w') (fun _ _ => False) := by
  refine calls_ex (args := [.string (bs s)]) T.ok Tryz.func143 rfl rfl rfl rfl ?_
  have H := Hp.begin nw w
  have hsz := bs_size s
  repeat' ((conv => whnf); first | refine ztS ?_ | (refine ztB ?_ ?_ <;> intro _ <;> try (exfalso; omega)) | (refine ztA ?_; clear H; intro _ _ H _) | fail)
  refine Lp.g0 T.ok (σ := Nat) (fun i => [(4, .int .i64 (i : Int)), (3, .int .i64 (IntKind.i64.wrap (val (s.take i) : Int))), (0, .string (bs s))])
    (fun i w' => i ≤ s.length ∧ Hp nw w w' []) (fun i _ => s.length - i) 0 rfl ⟨rfl, rfl, rfl, trivial⟩ ⟨Nat.zero_le _, H⟩ ?_
  clear H
  rintro i w5 ⟨hi, H⟩
  by_cases hlt : i < s.length
  · obtain ⟨c, hc⟩ : ∃ c, s[i]? = some c := ⟨_, List.getElem?_eq_getElem hlt⟩
    obtain ⟨hc1, hc2⟩ := List.getElem?_eq_some_iff.1 hc
    have hcd := dig_range (hd c (by rw [← hc2]; exact List.getElem_mem hc1))
    have hst : s.take (i + 1) = s.take i ++ [c] := by rw [List.take_succ_eq_append_getElem hc1, hc2]
    have hva : val (s.take (i + 1)) = val (s.take i) * 10 + (c.toNat - 48) := by rw [hst, val_app]
    have hvl := val_take s (i + 1)
    have hw0 : IntKind.i64.wrap (val (s.take i) : Int) = (val (s.take i) : Int) := w64 rfl (by omega) (by omega)
    have hw1 : IntKind.i64.wrap ((val (s.take i) : Int) * 10) = ((val (s.take i) * 10 : Nat) : Int) := w64 (by omega) (by omega) (by omega)
    have hw2 : IntKind.u8.wrap ((c.toNat : Int) - 48) = ((c.toNat - 48 : Nat) : Int) := by
      simp [IntKind.wrap, IntKind.signed, IntKind.bits]
      omega
    have hw3 : IntKind.i64.wrap ((c.toNat - 48 : Nat) : Int) = ((c.toNat - 48 : Nat) : Int) := w64 rfl (by omega) (by omega)
    rw [hw0]
    repeat' ((conv => whnf); first | refine ztT ?_ | (refine ztB ?_ ?_ <;> intro _ <;> try (exfalso; omega)) | (refine ztA ?_; clear H; intro _ _ H _) | fail)
    all_goals first | (exfalso; omega) | skip
    refine ⟨i + 1, ⟨at_int (m := ((i + 1 : Nat) : Int)) rfl (w64 (by simp) (by omega) (by omega)), at_val rfl (i_eq ?_), rfl, trivial⟩, rfl, ⟨by omega, H⟩, by omega⟩
    rw [hw1, hw2, hw3, hva]
    congr 1
  · have hi : i = s.length := by omega
    subst hi
    repeat' ((conv => whnf); first | refine ztT ?_ | (refine ztB ?_ ?_ <;> intro _ <;> try (exfalso; omega)) | (refine ztA ?_; clear H; intro _ _ H _) | fail)
    all_goals first | (exfalso; omega) | skip
    refine ⟨i_eq ?_, H.e⟩
    rw [List.take_length]
theorem two_r (s : Bs) (x y : ET) (w : World) (hs : s ∈ binL) :
    Cl Tryz.prog 128 #[.string (bs s), x.v, y.v] w (fun v w' => ∃ kd o A c, v = ET.v (.mk kd o 0 [] [] A c [x, y]) ∧ joinP s x.e y.e = ET.e (.mk kd o 0 [] [] A c [x, y]) ∧ Hp nw w w' [qu ET.enc 6 74 A c [x, y]]) (fun _ _ => False) := by
  obtain ⟨k1, o1, n1, a1, b1, A1, c1, l1⟩ := x
  obtain ⟨k2, o2, n2, a2, b2, A2, c2, l2⟩ := y
  generalize hx : ET.mk k1 o1 n1 a1 b1 A1 c1 l1 = x
  generalize hy : ET.mk k2 o2 n2 a2 b2 A2 c2 l2 = y
  have hvx : x.v = .agg #[.int .i64 k1, .int .i64 o1, .int .i64 n1, .string (bs a1), .string (bs b1), .slice A1 l1.length c1] := by rw [← hx]; rfl
  have hvy : y.v = .agg #[.int .i64 k2, .int .i64 o2, .int .i64 n2, .string (bs a2), .string (bs b2), .slice A2 l2.length c2] := by rw [← hy]; rfl
  rw [hvx, hvy]
  refine calls_ex (args := [.string (bs s), .agg #[.int .i64 k1, .int .i64 o1, .int .i64 n1, .string (bs a1), .string (bs b1), .slice A1 l1.length c1], .agg #[.int .i64 k2, .int .i64 o2, .int .i64 n2, .string (bs a2), .string (bs b2), .slice A2 l2.length c2]]) T.ok Tryz.func128 rfl rfl rfl rfl ?_
  have H := Hp.begin nw w
  refine Sq.mk ?_
  ((conv => whnf); refine Al.hp H ?_; clear H; intro p4 _ H _)
  ((conv => whnf); refine Al.hp H ?_; clear H; intro p5 _ H _)
  ((conv => whnf); refine Al.hp H ?_; clear H; intro p6 _ H _)
  repeat' ((conv => whnf); first | refine ztS ?_ | (refine ztB ?_ ?_ <;> intro _ <;> try (exfalso; omega)) | (refine ztW ?_; clear H; intro _ _ H _) | fail)
  refine Sm.lith (cs := [.int .i64 k1, .int .i64 o1, .int .i64 n1, .string (bs a1), .string (bs b1), .slice A1 l1.length c1, .int .i64 k2, .int .i64 o2, .int .i64 n2, .string (bs a2), .string (bs b2), .slice A2 l2.length c2]) H T.ok (fun p1 w1 H _ => ?_)
  have hfix : ∀ w', Hp nw w w' [bk p1 74 [.int .i64 k1, .int .i64 o1, .int .i64 n1, .string (bs a1), .string (bs b1), .slice A1 l1.length c1, .int .i64 k2, .int .i64 o2, .int .i64 n2, .string (bs a2), .string (bs b2), .slice A2 l2.length c2]] → Hp nw w w' [qu ET.enc 6 74 (some ⟨p1, 0, none⟩) 2 [x, y]] := fun w' H => by
    have H1 : Hp nw w w' [bk p1 74 ([x, y].flatMap ET.enc)] := by rw [← hx, ← hy]; exact H
    exact Hp.bq (sz := 6) H1 (fun z _ => ET.enc_len z)
  ((conv => whnf); refine Al.hp H ?_; clear H; intro p7 _ H _)
  by_cases h1 : s = s_andd
  · repeat' ((conv => whnf); first | refine ztT ?_ | (refine ztB ?_ ?_ <;> intro _ <;> try (exfalso; omega)) | (refine ztW ?_; clear H; intro _ _ H _) | fail)
    refine ⟨8, 0, some ⟨p1, 0, none⟩, 2, et_v rfl, ?_, hfix _ (H.sel [1] rfl)⟩
    unfold joinP; rw [if_pos h1]; rfl
  · by_cases h2 : s = s_orr
    · repeat' ((conv => whnf); first | refine ztT ?_ | (refine ztB ?_ ?_ <;> intro _ <;> try (exfalso; omega)) | (refine ztW ?_; clear H; intro _ _ H _) | fail)
      refine ⟨9, 0, some ⟨p1, 0, none⟩, 2, et_v rfl, ?_, hfix _ (H.sel [1] rfl)⟩
      unfold joinP; rw [if_neg h1, if_pos h2]; rfl
    · have ho : opR s = findOp s := by
        have h3 : ∀ s ∈ binL, s ≠ s_andd → s ≠ s_orr → opR s = findOp s := by decide
        exact h3 s hs h1 h2
      repeat' (first | ((conv => whnf); first | refine ztT ?_ | (refine ztB ?_ ?_ <;> intro _ <;> try (exfalso; omega)) | (refine ztW ?_; clear H; intro _ _ H _) | fail) | (((conv => whnf); refine Cl.mk (operation_r s _) ?_); rintro _ _ ⟨rfl, hx⟩; replace H := H.ext hx; clear hx))
      refine ⟨4, opR s, some ⟨p1, 0, none⟩, 2, et_v rfl, ?_, hfix _ (H.sel [1] rfl)⟩
      unfold joinP; rw [if_neg h1, if_neg h2, ho]; rfl
end Go.Proofs.YtfnjodpehomgfaaGreatDoor
namespace Go.Tx
def Res.and {α β : Type} (R : Res α) (f : α → List Tk → Res β) : Res (α × β) := R.bind fun a ts => (f a ts).bind fun b ts' => .ok (a, b) ts'
def Res.map {α β : Type} (g : α → β) (R : Res α) : Res β := R.bind fun a ts => .ok (g a) ts
def Vl {α : Type} (R : Res α) (P : α → Prop) : Prop := ∀ a ts, R = .ok a ts → P a
section
variable {α β γ : Type}
theorem Res.map_bind (R : Res α) (g : α → β) (K : β → List Tk → Res γ) : (R.map g).bind K = R.bind fun a ts => K (g a) ts := by cases R <;> rfl
theorem Res.and_bind (R : Res α) (f : α → List Tk → Res β) (K : α × β → List Tk → Res γ) : (R.and f).bind K = R.bind fun a ts => (f a ts).bind fun b ts' => K (a, b) ts' := by
  cases R with
  | out => rfl
  | err e p => rfl
  | ok a ts => show ((f a ts).bind _).bind K = (f a ts).bind _; cases f a ts <;> rfl
theorem AtR.map {R : Res α} {s : RS} (h : AtR R s) (g : α → β) : AtR (R.map g) s := by
  obtain ⟨h1, h2⟩ := h
  exact ⟨h1, by cases R <;> exact h2⟩
theorem AtR.and_of {R : Res α} {f : α → List Tk → Res β} {s : RS} (h : AtR (R.bind f) s) : AtR (R.and f) s := by
  obtain ⟨h1, h2⟩ := h
  refine ⟨h1, ?_⟩
  cases R with
  | out => exact h2
  | err e p => exact h2
  | ok a ts =>
    show AtC ((f a ts).bind _) s
    have h2 : AtC (f a ts) s := h2
    revert h2
    cases f a ts <;> exact id
theorem AtR.ok_and {a : α} {ts : List Tk} {f : α → List Tk → Res β} {s : RS} (h : AtR (f a ts) s) : AtR (Res.and (.ok a ts) f) s := AtR.and_of h
theorem AtR.same {R R' : Res α} {s : RS} (h : AtR R s) (e : R = R') : AtR R' s := e ▸ h
theorem AtR.toErr {e : Int} {p : Nat} {s : RS} (h : AtR (.err e p : Res α) s) : AtR (.err e p : Res β) s := ⟨h.1, h.2⟩
theorem Vl.ok {a : α} {ts : List Tk} {P : α → Prop} (h : P a) : Vl (.ok a ts) P := fun b ts' e => by
  simp only [Res.ok.injEq] at e
  rw [← e.1]; exact h
theorem Vl.err {e : Int} {p : Nat} {P : α → Prop} : Vl (.err e p) P := fun b ts' h => by simp at h
theorem Vl.map {R : Res α} {g : α → β} {P : β → Prop} (h : Vl R fun a => P (g a)) : Vl (R.map g) P := fun b ts e => by
  cases R with
  | out => simp [Res.map, Res.bind] at e
  | err e' p => simp [Res.map, Res.bind] at e
  | ok a ts' =>
    simp only [Res.map, Res.bind, Res.ok.injEq] at e
    rw [← e.1]; exact h a ts' rfl
theorem Vl.mono {R : Res α} {P Q : α → Prop} (h : Vl R P) (k : ∀ a, P a → Q a) : Vl R Q := fun a ts e => k a (h a ts e)
theorem Vl.mono2 {R : Res α} {P P' Q : α → Prop} (h : Vl R P) (h' : Vl R P') (k : ∀ a, P a → P' a → Q a) : Vl R Q := fun a ts e => k a (h a ts e) (h' a ts e)
theorem Vl.fst {R : Res α} {f : α → List Tk → Res β} {P : α → Prop} (h : Vl R P) : Vl (R.and f) fun p => P p.1 := fun p ts e => by
  cases R with
  | out => simp [Res.and, Res.bind] at e
  | err e' q => simp [Res.and, Res.bind] at e
  | ok a ts' =>
    simp only [Res.and, Res.bind] at e
    cases hf : f a ts' with
    | out => rw [hf] at e; simp at e
    | err e' q => rw [hf] at e; simp at e
    | ok b ts2 =>
      rw [hf] at e
      simp only [Res.ok.injEq] at e
      rw [← e.1]; exact h a ts' rfl
theorem Vl.ok_and {a : α} {ts : List Tk} {f : α → List Tk → Res β} {P : β → Prop} (h : Vl (f a ts) P) : Vl (Res.and (.ok a ts) f) fun p => P p.2 := fun p ts' e => by
  simp only [Res.and, Res.bind] at e
  cases hf : f a ts with
  | out => rw [hf] at e; simp at e
  | err e' q => rw [hf] at e; simp at e
  | ok b ts2 =>
    rw [hf] at e
    simp only [Res.ok.injEq] at e
    rw [← e.1]; exact h b ts2 hf
theorem Res.and_out {R : Res α} {f : α → List Tk → Res β} (h : R.and f ≠ .out) : R ≠ .out := fun e => h (by rw [e]; rfl)
theorem Res.map_out {R : Res α} {g : α → β} (h : R.map g ≠ .out) : R ≠ .out := fun e => h (by rw [e]; rfl)
theorem Res.and_ok_out {a : α} {ts : List Tk} {f : α → List Tk → Res β} (h : Res.and (.ok a ts) f ≠ .out) : f a ts ≠ .out := fun e => h (by simp [Res.and, Res.bind, e])
end
structure Gdw (ts : List Tk) : Prop where
  ends : Ends ts
  ok : chk ts = .ok () ts
theorem Gdw.at {ts : List Tk} (h : Gdw ts) {α : Type} (a : α) : AtR (.ok a ts) ⟨ts, none⟩ := ⟨h.ends, rfl, rfl, h.ok⟩
theorem AtR.gd {α : Type} {a : α} {ts : List Tk} {s : RS} (h : AtR (.ok a ts) s) : s = ⟨ts, none⟩ ∧ Gdw ts := by
  obtain ⟨h1, h2, h3, h4⟩ := h
  obtain ⟨ts', sp⟩ := s
  simp only at h2 h3 h1
  subst h2 h3
  exact ⟨rfl, h1, h4⟩
theorem ends_ne {ts : List Tk} (h : Ends ts) : ts ≠ [] := by
  rintro rfl
  exact h
theorem step_at' {t : Tk} {r : List Tk} (h : Ends (t :: r)) (he : t.err = 0) (hk : t.kind ≠ k_end) : AtR (stepP false (t :: r)) ⟨r, none⟩ := by
  obtain ⟨t', u, r', e⟩ := Way.ne (ts := t :: r) ⟨h, he⟩ hk
  simp only [List.cons.injEq] at e
  obtain ⟨rfl, rfl⟩ := e
  have he : Ends (u :: r') := h
  rw [step_chk]
  refine ⟨he, ?_⟩
  rcases chk_cases he with hc | ⟨e, p, hc⟩
  · rw [hc]; exact ⟨rfl, rfl, hc⟩
  · rw [hc]; exact .inr ⟨rfl, hc⟩
def NumOk (t : Tk) : Prop := t.kind = k_number → t.err = 0 → Digs t.text ∧ t.n = -(val t.text : Int) ∧ val t.text ≤ 9223372036854775808 ∧ t.text.length ≤ 1000000
end Go.Tx
namespace Go.Proofs.YtfnjodpehomgfaaGreatDoor
open Go Go.Sh Go.Tx
attribute [local irreducible] Blk Ext RdS
structure RY (src : Bs) (ws : List Tk) (A : Option Addr) (cw pr : Nat) (wb : World) : Prop where
  x : RX src ws A cw pr wb
  num : ∀ t ∈ ws, NumOk t
section
variable {src : Bs} {ws : List Tk} {A : Option Addr} {cw pr : Nat} {wb : World}
theorem RX.lt (X : RX src ws A cw pr wb) {j : Nat} {ts : List Tk} (h : ws.drop j = ts) : ts ≠ [] → j < 20000 := fun hne => by
  have := X.len
  apply Nat.lt_of_lt_of_le _ this
  apply Nat.lt_of_not_le
  intro hle
  exact hne (h.symm.trans (List.drop_of_length_le hle))
theorem RdQ.mem {s : RS} {w : World} (h : RdQ ws A cw pr s w) : ∀ t ∈ s.ts, t ∈ ws := fun t ht => by
  obtain ⟨k, h1, _⟩ := h
  rw [← h1] at ht
  exact List.mem_of_mem_drop ht
theorem RdQ.pls (X : RX src ws A cw pr wb) {s : RS} {w : World} (h : RdQ ws A cw pr s w) : Pls s.ts := fun t ht => X.pls t (h.mem t ht)
def OkRE (ws : List Tk) (A : Option Addr) (cw pr : Nat) {α : Type} (g : α → Ex) (R : Res α) (w : World) (v : Value) (w' : World) : Prop :=
  ∃ t s', v = ET.v t ∧ AtR R s' ∧ Vl R (fun a => ET.e t = g a) ∧ Hp (· = pr) w w' [trs [t], rq ws A cw pr s']
def OkRL (ws : List Tk) (A : Option Addr) (cw pr : Nat) {α : Type} (g : α → List Ex) (R : Res α) (w : World) (v : Value) (w' : World) : Prop :=
  ∃ B c l s', v = .slice B l.length c ∧ AtR R s' ∧ Vl R (fun a => ET.es l = g a) ∧ l.length ≤ 2000000 ∧ Hp (· = pr) w w' [qu ET.enc 6 74 B c l, trs l, rq ws A cw pr s']
def OkRB (ws : List Tk) (A : Option Addr) (cw pr : Nat) {α : Type} (g : α → List St) (R : Res α) (w : World) (v : Value) (w' : World) : Prop :=
  ∃ B c l s', v = .slice B l.length c ∧ AtR R s' ∧ Vl R (fun a => SM.es l = g a) ∧ Hp (· = pr) w w' [stl B c l, rq ws A cw pr s']
def OkRS (ws : List Tk) (A : Option Addr) (cw pr : Nat) {α : Type} (g : α → St) (R : Res α) (w : World) (v : Value) (w' : World) : Prop :=
  ∃ t s', v = SM.v t ∧ AtR R s' ∧ Vl R (fun a => SM.e t = g a) ∧ Hp (· = pr) w w' [sts [t], rq ws A cw pr s']
structure RCon (src : Bs) (ws : List Tk) (A : Option Addr) (cw pr : Nat) (wb : World) (F : PF) : Prop where
  expr : ∀ (lv d : Nat) (ts : List Tk) (w : World), lv ≤ 8 → d ≤ 41 → Ext wb w → RdQ ws A cw pr ⟨ts, none⟩ w → Gdw ts → F.expr lv d ts ≠ .out → Cl Tryz.prog 106 #[.pointer (some ⟨pr, 0, none⟩), .int .i64 ((lv + 1 : Nat) : Int), .int .i64 (d : Int)] w (OkRE ws A cw pr id (F.expr lv d ts) w) (fun _ _ => False)
  unary : ∀ (d : Nat) (ts : List Tk) (w : World), d ≤ 41 → Ext wb w → RdQ ws A cw pr ⟨ts, none⟩ w → Gdw ts → F.unary d ts ≠ .out → Cl Tryz.prog 126 #[.pointer (some ⟨pr, 0, none⟩), .int .i64 (d : Int)] w (OkRE ws A cw pr id (F.unary d ts) w) (fun _ _ => False)
  primary : ∀ (d : Nat) (ts : List Tk) (w : World), d ≤ 41 → Ext wb w → RdQ ws A cw pr ⟨ts, none⟩ w → Gdw ts → F.primary d ts ≠ .out → Cl Tryz.prog 141 #[.pointer (some ⟨pr, 0, none⟩), .int .i64 (d : Int)] w (OkRE ws A cw pr id (F.primary d ts) w) (fun _ _ => False)
  block : ∀ (d : Nat) (ts : List Tk) (w : World), d ≤ 41 → Ext wb w → RdQ ws A cw pr ⟨ts, none⟩ w → Gdw ts → F.block d ts ≠ .out → Cl Tryz.prog 54 #[.pointer (some ⟨pr, 0, none⟩), .int .i64 (d : Int)] w (OkRB ws A cw pr id (F.block d ts) w) (fun _ _ => False)
  choice : ∀ (d : Nat) (ts : List Tk) (w : World), d ≤ 41 → curK ts = k_if → Ext wb w → RdQ ws A cw pr ⟨ts, none⟩ w → Gdw ts → ((deepP d ts).bind fun _ ts => F.choice d ts) ≠ .out → Cl Tryz.prog 83 #[.pointer (some ⟨pr, 0, none⟩), .int .i64 (d : Int)] w (OkRS ws A cw pr id ((deepP d ts).bind fun _ ts => F.choice d ts) w) (fun _ _ => False)
variable (Y : RY src ws A cw pr wb)
include Y
theorem primaryD (d : Nat) (s : RS) (w : World) {e : Int} {p : Nat} (hwb : Ext wb w) (h : RdQ ws A cw pr s w) (ha : AtR (.err e p : Res Unit) s) : Cl Tryz.prog 141 #[.pointer (some ⟨pr, 0, none⟩), .int .i64 (d : Int)] w (OkRE ws A cw pr (fun _ => Ex.zero) (.err e p : Res Unit) w) (fun _ _ => False) := by
  have X := Y.x
  have HB := X.ok hwb
  have hne := ends_ne ha.ends
  refine calls_ex (args := [.pointer (some ⟨pr, 0, none⟩), .int .i64 (d : Int)]) T.ok Tryz.func141 rfl rfl rfl rfl ?_
  have H := Hp.start (S := (· = pr)) (rq_ok h) (fun k hk => hk)
  refine Sq.mk ?_
  ((conv => whnf); refine Al.hp H ?_; clear H; intro p4 _ H _)
  repeat' ((conv => whnf); first | refine ztS ?_ | (refine ztB ?_ ?_ <;> intro _ <;> try (exfalso; omega)) | (refine ztW ?_; clear H; intro _ _ H _) | fail)
  (((conv => whnf); refine Cl.mk (fine_r X s _ (H.atC 1 rfl)) ?_); rintro _ _ ⟨rfl, hx⟩; replace H := H.ext hx; clear hx)
  obtain ⟨ts, sp⟩ := s
  cases sp with
  | some x =>
    repeat' ((conv => whnf); first | refine ztS ?_ | (refine ztB ?_ ?_ <;> intro _ <;> try (exfalso; omega)) | (refine ztW ?_; clear H; intro _ _ H _) | fail)
    exact ⟨.mk 0 0 0 [] [] none 0 [], _, rfl, ha, Vl.err, Hp.trsZ 0 0 0 [] [] H.d0⟩
  | none =>
    repeat' ((conv => whnf); first | refine ztS ?_ | (refine ztB ?_ ?_ <;> intro _ <;> try (exfalso; omega)) | (refine ztW ?_; clear H; intro _ _ H _) | fail)
    (((conv => whnf); refine Cl.mk (next_r X ⟨ts, none⟩ _ (H.base2 HB) (H.atC 1 rfl) hne) ?_); rintro _ _ ⟨rfl, hx⟩; replace H := H.ext hx; clear hx)
    have hck : chk ts = .err e p := by
      rcases ha.at_ with h | ⟨_, h⟩
      · cases h
      · exact h
    have hk := (chk_err hck).1
    have hn : ∀ x ∈ [k_number, k_name, k_min, k_max, k_reduce, k_each, s_lp], ¬ rKind (curT ts) = x := by rcases hk with h | h <;> rw [h] <;> decide
    have n1 := hn k_number (by simp)
    have n2 := hn k_name (by simp)
    have n3 := hn k_min (by simp)
    have n4 := hn k_max (by simp)
    have n5 := hn k_reduce (by simp)
    have n6 := hn k_each (by simp)
    have n7 := hn s_lp (by simp)
    ((conv => whnf); refine Al.hp H ?_; clear H; intro p5 _ H _)
    repeat' ((conv => whnf); first | refine ztT ?_ | (refine ztB ?_ ?_ <;> intro _ <;> try (exfalso; omega)) | (refine ztW ?_; clear H; intro _ _ H _) | fail)
    ((conv => whnf); refine Cl.mk (wrong_r X 141 ⟨ts, none⟩ _ (by decide) (H.base2 HB) (H.atC 2 rfl) hne) ?_)
    rintro _ w3 H'
    replace H := H.upd (c := rq ws A cw pr ⟨ts, none⟩) H' rfl (.inl rfl)
    clear H'
    repeat' ((conv => whnf); first | refine ztT ?_ | (refine ztB ?_ ?_ <;> intro _ <;> try (exfalso; omega)) | (refine ztW ?_; clear H; intro _ _ H _) | fail)
    have hw : wrongR 141 ⟨ts, none⟩ = ⟨ts, some (e, p)⟩ := wrong_doom ha.at_
    exact ⟨.mk 0 0 0 [] [] none 0 [], _, rfl, ⟨by rw [wrong_ts]; exact ha.ends, .inl (by rw [hw])⟩, Vl.err, Hp.trsZ 0 0 0 [] [] H.d0.d0⟩
theorem unaryD (d : Nat) (s : RS) (w : World) {e : Int} {p : Nat} (hwb : Ext wb w) (h : RdQ ws A cw pr s w) (ha : AtR (.err e p : Res Unit) s) : Cl Tryz.prog 126 #[.pointer (some ⟨pr, 0, none⟩), .int .i64 (d : Int)] w (OkRE ws A cw pr (fun _ => Ex.zero) (.err e p : Res Unit) w) (fun _ _ => False) := by
  have X := Y.x
  have HB := X.ok hwb
  have hne := ends_ne ha.ends
  refine calls_ex (args := [.pointer (some ⟨pr, 0, none⟩), .int .i64 (d : Int)]) T.ok Tryz.func126 rfl rfl rfl rfl ?_
  have H := Hp.start (S := (· = pr)) (rq_ok h) (fun k hk => hk)
  refine Sq.mk ?_
  ((conv => whnf); refine Al.hp H ?_; clear H; intro p4 _ H _)
  repeat' ((conv => whnf); first | refine ztS ?_ | (refine ztB ?_ ?_ <;> intro _ <;> try (exfalso; omega)) | (refine ztW ?_; clear H; intro _ _ H _) | fail)
  (((conv => whnf); refine Cl.mk (is_r X s_minus s _ (H.base2 HB) (H.atC 1 rfl) hne) ?_); rintro _ _ ⟨rfl, hx⟩; replace H := H.ext hx; clear hx)
  rw [is_err ha (by decide) (by decide)]
  repeat' ((conv => whnf); first | refine ztS ?_ | (refine ztB ?_ ?_ <;> intro _ <;> try (exfalso; omega)) | (refine ztW ?_; clear H; intro _ _ H _) | fail)
  (((conv => whnf); refine Cl.mk (is_r X s_bang s _ (H.base2 HB) (H.atC 1 rfl) hne) ?_); rintro _ _ ⟨rfl, hx⟩; replace H := H.ext hx; clear hx)
  rw [is_err ha (by decide) (by decide)]
  repeat' ((conv => whnf); first | refine ztS ?_ | (refine ztB ?_ ?_ <;> intro _ <;> try (exfalso; omega)) | (refine ztW ?_; clear H; intro _ _ H _) | fail)
  ((conv => whnf); refine Cl.mk (primaryD Y d s _ (H.base2 HB) (H.atC 1 rfl) ha) ?_)
  rintro _ w3 ⟨⟨kd, o, n, nm, cb, B, c, l⟩, s', rfl, ha', _, H'⟩
  replace H := H.updn (c := rq ws A cw pr s) (Hp.swap H') rfl (.inl rfl) (.inl rfl)
  clear H'
  repeat' ((conv => whnf); first | refine ztS ?_ | (refine ztB ?_ ?_ <;> intro _ <;> try (exfalso; omega)) | (refine ztW ?_; clear H; intro _ _ H _) | fail)
  exact ⟨.mk kd o n nm cb B c l, s', rfl, ha', Vl.err, H.sel [0, 1] rfl⟩
theorem exprD (d : Nat) {e : Int} {p : Nat} (hd : d ≤ 1000000) : ∀ (m lv : Nat) (s : RS) (w : World), lv + m = 8 → Ext wb w → RdQ ws A cw pr s w → AtR (.err e p : Res Unit) s → Cl Tryz.prog 106 #[.pointer (some ⟨pr, 0, none⟩), .int .i64 ((lv + 1 : Nat) : Int), .int .i64 (d : Int)] w (OkRE ws A cw pr (fun _ => Ex.zero) (.err e p : Res Unit) w) (fun _ _ => False)
  | 0, lv, s, w, hm, hwb, h, ha => by
    have X := Y.x
    have HB := X.ok hwb
    refine calls_ex (args := [.pointer (some ⟨pr, 0, none⟩), .int .i64 ((lv + 1 : Nat) : Int), .int .i64 (d : Int)]) T.ok Tryz.func106 rfl rfl rfl rfl ?_
    have H := Hp.start (S := (· = pr)) (rq_ok h) (fun k hk => hk)
    refine Sq.mk ?_
    ((conv => whnf); refine Al.hp H ?_; clear H; intro p4 _ H _)
    repeat' ((conv => whnf); first | refine ztS ?_ | (refine ztB ?_ ?_ <;> intro _ <;> try (exfalso; omega)) | (refine ztW ?_; clear H; intro _ _ H _) | fail)
    all_goals first | (exfalso; omega) | skip
    ((conv => whnf); refine Cl.mk (unaryD Y d s _ (H.base2 HB) (H.atC 1 rfl) ha) ?_)
    rintro _ w3 ⟨⟨kd, o, n, nm, cb, B, c, l⟩, s', rfl, ha', _, H'⟩
    replace H := H.updn (c := rq ws A cw pr s) (Hp.swap H') rfl (.inl rfl) (.inl rfl)
    clear H'
    repeat' ((conv => whnf); first | refine ztS ?_ | (refine ztB ?_ ?_ <;> intro _ <;> try (exfalso; omega)) | (refine ztW ?_; clear H; intro _ _ H _) | fail)
    exact ⟨.mk kd o n nm cb B c l, s', rfl, ha', Vl.err, H.sel [0, 1] rfl⟩
  | m + 1, lv, s, w, hm, hwb, h, ha => by
    have X := Y.x
    have HB := X.ok hwb
    have ih := fun s w => exprD (e := e) (p := p) d hd m (lv + 1) s w (by omega)
    have hw1 : IntKind.i64.wrap (((lv + 1 : Nat) : Int) + 1) = ((lv + 1 + 1 : Nat) : Int) := w64 rfl (by omega) (by omega)
    rw [← hw1] at ih
    refine calls_ex (args := [.pointer (some ⟨pr, 0, none⟩), .int .i64 ((lv + 1 : Nat) : Int), .int .i64 (d : Int)]) T.ok Tryz.func106 rfl rfl rfl rfl ?_
    have H := Hp.start (S := (· = pr)) (rq_ok h) (fun k hk => hk)
    refine Sq.mk ?_
    ((conv => whnf); refine Al.hp H ?_; clear H; intro p6 _ H _)
    repeat' ((conv => whnf); first | refine ztS ?_ | (refine ztB ?_ ?_ <;> intro _ <;> try (exfalso; omega)) | (refine ztW ?_; clear H; intro _ _ H _) | fail)
    all_goals first | (exfalso; omega) | skip
    ((conv => whnf); refine Cl.mk (ih s _ (H.base2 HB) (H.atC 1 rfl) ha) ?_)
    rintro _ w3 ⟨⟨kd, o, n, nm, cb, B, c, l⟩, s', rfl, ha', _, H'⟩
    replace H := H.updn (c := rq ws A cw pr s) (Hp.swap H') rfl (.inl rfl) (.inl rfl)
    clear H'
    ((conv => whnf); refine Al.hp H ?_; clear H; intro p7 _ H _)
    repeat' ((conv => whnf); first | refine ztS ?_ | (refine ztB ?_ ?_ <;> intro _ <;> try (exfalso; omega)) | (refine ztW ?_; clear H; intro _ _ H _) | fail)
    refine Lp.g0 T.ok (σ := Unit) (fun q => [(7, .pointer (some ⟨p7, 0, none⟩)), (0, .pointer (some ⟨pr, 0, none⟩)), (1, .int .i64 ((lv + 1 : Nat) : Int)), (6, .pointer (some ⟨p6, 0, none⟩))])
      (fun q w' => Hp (· = pr) w w' [bk p7 74 (ET.enc (.mk kd o n nm cb B c l)), trs [.mk kd o n nm cb B c l], bk p6 74 T.t74.zero.cells.toList, rq ws A cw pr s']) (fun q _ => 0) () rfl ⟨rfl, rfl, rfl, rfl, trivial⟩ H ?_
    clear H
    rintro _ w5 H
    repeat' ((conv => whnf); first | refine ztS ?_ | (refine ztB ?_ ?_ <;> intro _ <;> try (exfalso; omega)) | (refine ztW ?_; clear H; intro _ _ H _) | fail)
    (((conv => whnf); refine Cl.mk (fine_r X s' _ (H.atC 3 rfl)) ?_); rintro _ _ ⟨rfl, hx⟩; replace H := H.ext hx; clear hx)
    obtain ⟨ts, sp⟩ := s'
    cases sp with
    | some x =>
      repeat' ((conv => whnf); first | refine ztS ?_ | (refine ztB ?_ ?_ <;> intro _ <;> try (exfalso; omega)) | (refine ztW ?_; clear H; intro _ _ H _) | fail)
      exact ⟨.mk kd o n nm cb B c l, _, rfl, ha', Vl.err, H.sel [1, 2] rfl⟩
    | none =>
      repeat' ((conv => whnf); first | refine ztS ?_ | (refine ztB ?_ ?_ <;> intro _ <;> try (exfalso; omega)) | (refine ztW ?_; clear H; intro _ _ H _) | fail)
      (((conv => whnf); refine Cl.mk (next_r X ⟨ts, none⟩ _ (H.base2 HB) (H.atC 3 rfl) (ends_ne ha'.ends)) ?_); rintro _ _ ⟨rfl, hx⟩; replace H := H.ext hx; clear hx)
      repeat' ((conv => whnf); first | refine ztS ?_ | (refine ztB ?_ ?_ <;> intro _ <;> try (exfalso; omega)) | (refine ztW ?_; clear H; intro _ _ H _) | fail)
      (((conv => whnf); refine Cl.mk (Level_r (rKind (curT ts)) _) ?_); rintro _ _ ⟨rfl, hx⟩; replace H := H.ext hx; clear hx)
      have hck : chk ts = .err e p := by
        rcases ha'.at_ with h | ⟨_, h⟩
        · cases h
        · exact h
      have hlv : levelN (rKind (curT ts)) = 0 := by rcases (chk_err hck).1 with h | h <;> rw [h] <;> rfl
      rw [hlv]
      repeat' ((conv => whnf); first | refine ztS ?_ | (refine ztB ?_ ?_ <;> intro _ <;> try (exfalso; omega)) | (refine ztW ?_; clear H; intro _ _ H _) | fail)
      all_goals first | (exfalso; omega) | skip
      exact ⟨.mk kd o n nm cb B c l, _, rfl, ha', Vl.err, H.sel [1, 2] rfl⟩
end
end Go.Proofs.YtfnjodpehomgfaaGreatDoor
namespace Go.Proofs.YtfnjodpehomgfaaGreatDoor
open Go Go.Sh Go.Tx
attribute [local irreducible] Blk Ext RdS
section
variable {src : Bs} {ws : List Tk} {A : Option Addr} {cw pr : Nat} {wb : World}
theorem OkRE.err {α β : Type} {g : α → Ex} {g' : β → Ex} {e : Int} {p : Nat} {w w' : World} {v : Value} (h : OkRE ws A cw pr g (.err e p : Res α) w v w') : OkRE ws A cw pr g' (.err e p : Res β) w v w' := by
  obtain ⟨t, s', h1, h2, h3, h4⟩ := h
  exact ⟨t, s', h1, h2.toErr, Vl.err, h4⟩
theorem OkRE.ok_and {α : Type} {a : α} {ts : List Tk} {f : α → List Tk → Res Ex} {w w' : World} {v : Value} (h : OkRE ws A cw pr id (f a ts) w v w') : OkRE ws A cw pr Prod.snd (Res.and (.ok a ts) f) w v w' := by
  obtain ⟨t, s', h1, h2, h3, h4⟩ := h
  exact ⟨t, s', h1, h2.ok_and, Vl.ok_and h3, h4⟩
variable (Y : RY src ws A cw pr wb) {F : PF} (C : RCon src ws A cw pr wb F)
include Y C
theorem exprR {α : Type} (R0 : Res α) (lv d : Nat) (s : RS) (w : World) (hlv : lv ≤ 8) (hd : d ≤ 41) (hwb : Ext wb w) (h : RdQ ws A cw pr s w) (ha : AtR R0 s) (hne : (R0.and fun _ ts => F.expr lv d ts) ≠ .out) :
    Cl Tryz.prog 106 #[.pointer (some ⟨pr, 0, none⟩), .int .i64 ((lv + 1 : Nat) : Int), .int .i64 (d : Int)] w (OkRE ws A cw pr Prod.snd (R0.and fun _ ts => F.expr lv d ts) w) (fun _ _ => False) := by
  cases R0 with
  | out => exact absurd rfl hne
  | err e p => exact Cl.mkX (exprD Y d (by omega) (8 - lv) lv s w (by omega) hwb h ha.toErr) (fun v w' q => OkRE.err q) (fun _ _ h => h)
  | ok a ts =>
    obtain ⟨rfl, hg⟩ := ha.gd
    exact Cl.mkX (C.expr lv d ts w hlv hd hwb h hg (Res.and_ok_out (f := fun _ ts => F.expr lv d ts) hne)) (fun v w' q => OkRE.ok_and (f := fun _ ts => F.expr lv d ts) q) (fun _ _ h => h)
theorem unaryR {α : Type} (R0 : Res α) (d : Nat) (s : RS) (w : World) (hd : d ≤ 41) (hwb : Ext wb w) (h : RdQ ws A cw pr s w) (ha : AtR R0 s) (hne : (R0.and fun _ ts => F.unary d ts) ≠ .out) :
    Cl Tryz.prog 126 #[.pointer (some ⟨pr, 0, none⟩), .int .i64 (d : Int)] w (OkRE ws A cw pr Prod.snd (R0.and fun _ ts => F.unary d ts) w) (fun _ _ => False) := by
  cases R0 with
  | out => exact absurd rfl hne
  | err e p => exact Cl.mkX (unaryD Y d s w hwb h ha.toErr) (fun v w' q => OkRE.err q) (fun _ _ h => h)
  | ok a ts =>
    obtain ⟨rfl, hg⟩ := ha.gd
    exact Cl.mkX (C.unary d ts w hd hwb h hg (Res.and_ok_out (f := fun _ ts => F.unary d ts) hne)) (fun v w' q => OkRE.ok_and (f := fun _ ts => F.unary d ts) q) (fun _ _ h => h)
set_option maxHeartbeats 4000000 in
theorem expr_r (lv d : Nat) (ts : List Tk) (w : World) (hlv : lv ≤ 8) (hd : d ≤ 41) (hwb : Ext wb w) (h : RdQ ws A cw pr ⟨ts, none⟩ w) (hg : Gdw ts) (hne : exprP F lv d ts ≠ .out) :
    Cl Tryz.prog 106 #[.pointer (some ⟨pr, 0, none⟩), .int .i64 ((lv + 1 : Nat) : Int), .int .i64 (d : Int)] w (OkRE ws A cw pr id (exprP F lv d ts) w) (fun _ _ => False) := by
  have X := Y.x
  have HB := X.ok hwb
  refine calls_ex (args := [.pointer (some ⟨pr, 0, none⟩), .int .i64 ((lv + 1 : Nat) : Int), .int .i64 (d : Int)]) T.ok Tryz.func106 rfl rfl rfl rfl ?_
  have H := Hp.start (S := (· = pr)) (rq_ok h) (fun k hk => hk)
  refine Sq.mk ?_
  ((conv => whnf); refine Al.hp H ?_; clear H; intro p6 _ H _)
  by_cases h8 : lv = 8
  · have hR : exprP F lv d ts = F.unary d ts := by unfold exprP; rw [if_pos h8]
    rw [hR] at hne ⊢
    repeat' ((conv => whnf); first | refine ztS ?_ | (refine ztB ?_ ?_ <;> intro _ <;> try (exfalso; omega)) | (refine ztW ?_; clear H; intro _ _ H _) | fail)
    all_goals first | (exfalso; omega) | skip
    ((conv => whnf); refine Cl.mk (C.unary d ts _ hd (H.base2 HB) (H.atC 1 rfl) hg hne) ?_)
    rintro _ w3 ⟨⟨kd, o, n, nm, cb, B, c, l⟩, s', rfl, ha', hv, H'⟩
    replace H := H.updn (c := rq ws A cw pr ⟨ts, none⟩) (Hp.swap H') rfl (.inl rfl) (.inl rfl)
    clear H'
    repeat' ((conv => whnf); first | refine ztS ?_ | (refine ztB ?_ ?_ <;> intro _ <;> try (exfalso; omega)) | (refine ztW ?_; clear H; intro _ _ H _) | fail)
    exact ⟨.mk kd o n nm cb B c l, s', rfl, ha', hv, H.sel [0, 1] rfl⟩
  obtain ⟨R, hR⟩ : ∃ R, R = exprP F lv d ts := ⟨_, rfl⟩
  rw [← hR] at hne ⊢
  unfold exprP at hR
  rw [if_neg h8] at hR
  have hw1 : IntKind.i64.wrap (((lv + 1 : Nat) : Int) + 1) = ((lv + 1 + 1 : Nat) : Int) := w64 rfl (by omega) (by omega)
  have hex := fun ts w => C.expr (lv + 1) d ts w (by omega) hd
  rw [← hw1] at hex
  repeat' ((conv => whnf); first | refine ztS ?_ | (refine ztB ?_ ?_ <;> intro _ <;> try (exfalso; omega)) | (refine ztW ?_; clear H; intro _ _ H _) | fail)
  all_goals first | (exfalso; omega) | skip
  ((conv => whnf); refine Cl.mk (hex ts _ (H.base2 HB) (H.atC 1 rfl) hg (Res.bind_out (by rw [← hR]; exact hne))) ?_)
  rintro _ w3 ⟨⟨kd, o, n, nm, cb, B, c, l⟩, s', rfl, ha', hv, H'⟩
  replace H := H.updn (c := rq ws A cw pr ⟨ts, none⟩) (Hp.swap H') rfl (.inl rfl) (.inl rfl)
  clear H'
  ((conv => whnf); refine Al.hp H ?_; clear H; intro p7 _ H _)
  repeat' ((conv => whnf); first | refine ztS ?_ | (refine ztB ?_ ?_ <;> intro _ <;> try (exfalso; omega)) | (refine ztW ?_; clear H; intro _ _ H _) | fail)
  have hst : ∃ n, R = (F.expr (lv + 1) d ts).bind fun e ts1 => loopE F lv d n e ts1 := by
    cases hx : F.expr (lv + 1) d ts with
    | out => rw [hx] at hR; exact ⟨0, hR⟩
    | err e p => rw [hx] at hR; exact ⟨0, hR⟩
    | ok e ts1 => rw [hx] at hR; exact ⟨ts1.length + 1, hR⟩
  obtain ⟨n0, hR0⟩ := hst
  refine Lp.g0 T.ok (σ := Res Ex × Nat × ET × RS) (fun q => [(7, .pointer (some ⟨p7, 0, none⟩)), (0, .pointer (some ⟨pr, 0, none⟩)), (1, .int .i64 ((lv + 1 : Nat) : Int)), (2, .int .i64 (d : Int)), (6, .pointer (some ⟨p6, 0, none⟩))])
    (fun q w' => R = q.1.bind (fun e ts => loopE F lv d q.2.1 e ts) ∧ AtR q.1 q.2.2.2 ∧ Vl q.1 (fun a => ET.e q.2.2.1 = a) ∧ Hp (· = pr) w w' [bk p7 74 (ET.enc q.2.2.1), trs [q.2.2.1], bk p6 74 T.t74.zero.cells.toList, rq ws A cw pr q.2.2.2]) (fun q _ => q.2.1) (F.expr (lv + 1) d ts, n0, .mk kd o n nm cb B c l, s') rfl ⟨rfl, rfl, rfl, rfl, rfl, trivial⟩ ⟨hR0, ha', hv, H⟩ ?_
  clear H hR hR0 ha' hv
  rintro ⟨Rc, n, ⟨kd, o, nn, nm, cb, B, c, l⟩, ⟨ts, sp⟩⟩ w5 ⟨hR, ha, hv, H⟩
  simp only at hR ha hv H ⊢
  have hout : (∀ e ts, Rc = .ok e ts → standsB lv (curK ts) = false) → AtR R ⟨ts, sp⟩ ∧ Vl R (fun a => ET.e (.mk kd o nn nm cb B c l) = id a) := fun hno => by
    cases Rc with
    | out => exact absurd hR hne
    | err e p => rw [hR]; exact ⟨ha.toErr, Vl.err⟩
    | ok e ts1 =>
      cases n with
      | zero => exact absurd hR hne
      | succ n =>
        have : R = .ok e ts1 := by
          rw [hR]
          show loopE F lv d (n + 1) e ts1 = _
          unfold loopE
          rw [hno e ts1 rfl, if_neg (by simp)]
        rw [this]
        exact ⟨ha, hv⟩
  repeat' ((conv => whnf); first | refine ztS ?_ | (refine ztB ?_ ?_ <;> intro _ <;> try (exfalso; omega)) | (refine ztW ?_; clear H; intro _ _ H _) | fail)
  (((conv => whnf); refine Cl.mk (fine_r X ⟨ts, sp⟩ _ (H.atC 3 rfl)) ?_); rintro _ _ ⟨rfl, hx⟩; replace H := H.ext hx; clear hx)
  cases sp with
  | some x =>
    obtain ⟨g1, g2⟩ := hout (fun e ts1 h => by
      rw [h] at ha
      have := ha.gd.1
      cases this)
    repeat' ((conv => whnf); first | refine ztS ?_ | (refine ztB ?_ ?_ <;> intro _ <;> try (exfalso; omega)) | (refine ztW ?_; clear H; intro _ _ H _) | fail)
    exact ⟨.mk kd o nn nm cb B c l, _, rfl, g1, g2, H.sel [1, 2] rfl⟩
  | none =>
    repeat' ((conv => whnf); first | refine ztS ?_ | (refine ztB ?_ ?_ <;> intro _ <;> try (exfalso; omega)) | (refine ztW ?_; clear H; intro _ _ H _) | fail)
    (((conv => whnf); refine Cl.mk (next_r X ⟨ts, none⟩ _ (H.base2 HB) (H.atC 3 rfl) (ends_ne ha.ends)) ?_); rintro _ _ ⟨rfl, hx⟩; replace H := H.ext hx; clear hx)
    repeat' ((conv => whnf); first | refine ztS ?_ | (refine ztB ?_ ?_ <;> intro _ <;> try (exfalso; omega)) | (refine ztW ?_; clear H; intro _ _ H _) | fail)
    (((conv => whnf); refine Cl.mk (Level_r (rKind (curT ts)) _) ?_); rintro _ _ ⟨rfl, hx⟩; replace H := H.ext hx; clear hx)
    by_cases hL : levelN (rKind (curT ts)) = lv + 1
    case neg =>
      obtain ⟨g1, g2⟩ := hout (fun e ts1 h => by
        rw [h] at ha
        obtain ⟨h1, h2⟩ := ha.gd
        obtain rfl : ts = ts1 := by cases h1; rfl
        rw [stands_level (by omega), ← (chk_ok h2.ok).1]
        exact decide_eq_false hL)
      repeat' ((conv => whnf); first | refine ztS ?_ | (refine ztB ?_ ?_ <;> intro _ <;> try (exfalso; omega)) | (refine ztW ?_; clear H; intro _ _ H _) | fail)
      all_goals first | (exfalso; omega) | skip
      exact ⟨.mk kd o nn nm cb B c l, _, rfl, g1, g2, H.sel [1, 2] rfl⟩
    obtain ⟨e, rfl⟩ : ∃ e, Rc = .ok e ts := by
      cases Rc with
      | out => exact absurd hR hne
      | err e p =>
        exfalso
        have hck : chk ts = .err e p := by
          rcases ha.at_ with h | ⟨_, h⟩
          · cases h
          · exact h
        have : levelN (rKind (curT ts)) = 0 := by rcases (chk_err hck).1 with h | h <;> rw [h] <;> rfl
        omega
      | ok e ts1 =>
        have h1 := ha.gd.1
        cases h1
        exact ⟨e, rfl⟩
    obtain ⟨_, hg2⟩ := ha.gd
    have hk := (chk_ok hg2.ok).1
    have hs : standsB lv (curK ts) = true := by rw [stands_level (by omega), ← hk]; exact decide_eq_true hL
    cases n with
    | zero => exact absurd hR hne
    | succ n =>
    replace hR : R = loopE F lv d (n + 1) e ts := hR
    unfold loopE at hR
    rw [if_pos hs] at hR
    have hstp := step_at hg2.ends hg2.ok (stands_ne hs)
    have hbin : rKind (curT ts) ∈ binL := by
      apply Classical.byContradiction
      intro hb
      rw [level_no hb] at hL
      omega
    obtain ⟨t0, r0, rfl⟩ : ∃ t0 r0, ts = t0 :: r0 := by
      cases ts with
      | nil => exact absurd rfl (ends_ne ha.ends)
      | cons t0 r0 => exact ⟨t0, r0, rfl⟩
    repeat' ((conv => whnf); first | refine ztS ?_ | (refine ztB ?_ ?_ <;> intro _ <;> try (exfalso; omega)) | (refine ztW ?_; clear H; intro _ _ H _) | fail)
    all_goals first | (exfalso; omega) | skip
    (((conv => whnf); refine Cl.mk (next_r X ⟨t0 :: r0, none⟩ _ (H.base2 HB) (H.atC 3 rfl) (List.cons_ne_nil _ _)) ?_); rintro _ _ ⟨rfl, hx⟩; replace H := H.ext hx; clear hx)
    ((conv => whnf); refine Al.hp H ?_; clear H; intro p8 _ H _)
    (obtain ⟨j, hj1, hj2, hb0⟩ := H.atC (c := rq ws A cw pr (⟨t0 :: r0, none⟩)) 4 rfl; have hjl := X.lt hj1 (by first | exact List.cons_ne_nil _ _ | assumption); replace H := Hp.ofQ H hb0; clear hb0)
    repeat' ((conv => whnf); first | refine ztS ?_ | (refine ztB ?_ ?_ <;> intro _ <;> try (exfalso; omega)) | (refine ztW ?_; clear H; intro _ _ H _) | fail)
    (have hwj : IntKind.i64.wrap ((j : Int) + 1) = ((j + 1 : Nat) : Int) := w64 rfl (by omega) (by omega); rw [hwj] at H; replace H := Hp.toQ (pr := pr) (s := ⟨r0, none⟩) (k := j + 1) H (List.tail_drop.symm.trans (congrArg List.tail hj1)) (fun e p h => by cases h); clear hwj hj1 hj2 hjl)
    have hR2 : R = ((stepP false (t0 :: r0)).and fun _ ts => F.expr (lv + 1) d ts).bind fun p ts2 => loopE F lv d n (joinP t0.kind e p.2) ts2 := by rw [hR, Res.and_bind]; rfl
    have hexR := fun w => exprR Y C (stepP false (t0 :: r0)) (lv + 1) d ⟨r0, none⟩ w (by omega) hd
    rw [← hw1] at hexR
    ((conv => whnf); refine Cl.mk (hexR _ (H.base2 HB) (H.atC 4 rfl) hstp (Res.bind_out (by rw [← hR2]; exact hne))) ?_)
    rintro _ w3 ⟨⟨kd2, o2, n2, nm2, cb2, B2, c2, l2⟩, s2, rfl, ha2, hv2, H'⟩
    replace H := H.updn (c := rq ws A cw pr ⟨r0, none⟩) (Hp.swap H') rfl (.inl rfl) (.inl rfl)
    clear H'
    ((conv => whnf); refine Al.hp H ?_; clear H; intro p9 _ H _)
    have hfix : ∀ Γ w', Hp (· = pr) w w' (bk p9 74 (ET.enc (.mk kd2 o2 n2 nm2 cb2 B2 c2 l2)) :: Γ) → Hp (· = pr) w w' (bk p9 74 (ET.enc (.mk kd2 o2 n2 nm2 cb2 B2 c2 l2)) :: Γ) := fun _ _ h => h
    repeat' ((conv => whnf); first | refine ztS ?_ | (refine ztB ?_ ?_ <;> intro _ <;> try (exfalso; omega)) | (refine ztW ?_; clear H; intro _ _ H _) | fail)
    ((conv => whnf); refine Cl.mk (two_r (rKind t0) (.mk kd o nn nm cb B c l) (.mk kd2 o2 n2 nm2 cb2 B2 c2 l2) _ hbin) ?_)
    rintro _ w6 ⟨kd3, o3, A3, c3, rfl, hj, H'⟩
    replace H := H.fr0 H' (.inl rfl)
    clear H'
    repeat' ((conv => whnf); first | refine ztS ?_ | (refine ztB ?_ ?_ <;> intro _ <;> try (exfalso; omega)) | (refine ztW ?_; clear H; intro _ _ H _) | fail)
    have hxe : ET.e (.mk kd o nn nm cb B c l) = e := hv e _ rfl
    have hk0 : rKind t0 = t0.kind := hk
    rw [hk0] at hj
    replace H := H.sel [2, 4, 0, 2, 2, 2] rfl
    refine ⟨(((stepP false (t0 :: r0)).and fun _ ts => F.expr (lv + 1) d ts).map (fun p => joinP t0.kind e p.2), n, .mk kd3 o3 0 [] [] A3 c3 [.mk kd o nn nm cb B c l, .mk kd2 o2 n2 nm2 cb2 B2 c2 l2], s2), ⟨rfl, rfl, rfl, rfl, rfl, trivial⟩, rfl, ⟨?_, ha2.map _, ?_, Hp.swap (Hp.trsN kd3 o3 0 [] [] (Hp.swap (Hp.trsS H)))⟩, Nat.lt_succ_self n⟩
    · rw [Res.map_bind]; exact hR2
    · refine Vl.map (hv2.mono fun p hp => ?_)
      rw [← hj, hxe, hp]
end
end Go.Proofs.YtfnjodpehomgfaaGreatDoor
namespace Go.Proofs.YtfnjodpehomgfaaGreatDoor
open Go Go.Sh Go.Tx
attribute [local irreducible] Blk Ext RdS
section
variable {src : Bs} {ws : List Tk} {A : Option Addr} {cw pr : Nat} {wb : World}
variable (Y : RY src ws A cw pr wb) {F : PF} (C : RCon src ws A cw pr wb F)
include Y C
theorem deep_at {d : Nat} {ts : List Tk} (hg : Gdw ts) (hp : Pls ts) : (d + 1 ≤ 40 → deepP (d + 1) ts = .ok () ts) ∧ (¬ d + 1 ≤ 40 → deepP (d + 1) ts = .err 144 (curT ts).at_ ∧ wrongR 144 ⟨ts, none⟩ = ⟨ts, some (144, (curT ts).at_)⟩) := by
  refine ⟨fun h => ?_, fun h => ⟨?_, wrong_good rfl hg.ok hp.cur.1⟩⟩
  · unfold deepP; rw [if_neg (by omega)]
  · unfold deepP; rw [if_pos (by omega)]
set_option maxHeartbeats 4000000 in
theorem unary_r (d : Nat) (ts : List Tk) (w : World) (hd : d ≤ 41) (hwb : Ext wb w) (h : RdQ ws A cw pr ⟨ts, none⟩ w) (hg : Gdw ts) (hne : unaryP F d ts ≠ .out) :
    Cl Tryz.prog 126 #[.pointer (some ⟨pr, 0, none⟩), .int .i64 (d : Int)] w (OkRE ws A cw pr id (unaryP F d ts) w) (fun _ _ => False) := by
  have X := Y.x
  have HB := X.ok hwb
  have hts := ends_ne hg.ends
  have hpl := h.pls X
  have hmem := h.mem
  have hwd : IntKind.i64.wrap ((d : Int) + 1) = ((d + 1 : Nat) : Int) := w64 rfl (by omega) (by omega)
  obtain ⟨R, hR⟩ : ∃ R, R = unaryP F d ts := ⟨_, rfl⟩
  rw [← hR] at hne ⊢
  unfold unaryP at hR
  refine calls_ex (args := [.pointer (some ⟨pr, 0, none⟩), .int .i64 (d : Int)]) T.ok Tryz.func126 rfl rfl rfl rfl ?_
  have H := Hp.start (S := (· = pr)) (rq_ok h) (fun k hk => hk)
  clear h
  refine Sq.mk ?_
  ((conv => whnf); refine Al.hp H ?_; clear H; intro p4 _ H _)
  repeat' ((conv => whnf); first | refine ztS ?_ | (refine ztB ?_ ?_ <;> intro _ <;> try (exfalso; omega)) | (refine ztW ?_; clear H; intro _ _ H _) | fail)
  (((conv => whnf); refine Cl.mk (is_r X s_minus ⟨ts, none⟩ _ (H.base2 HB) (H.atC 1 rfl) hts) ?_); rintro _ _ ⟨rfl, hx⟩; replace H := H.ext hx; clear hx)
  rw [is_ok (hg.at ())]
  repeat' ((conv => whnf); first | refine ztS ?_ | (refine ztB ?_ ?_ <;> intro _ <;> try (exfalso; omega)) | (refine ztW ?_; clear H; intro _ _ H _) | fail)
  (((conv => whnf); refine Cl.mk (is_r X s_bang ⟨ts, none⟩ _ (H.base2 HB) (H.atC 1 rfl) hts) ?_); rintro _ _ ⟨rfl, hx⟩; replace H := H.ext hx; clear hx)
  rw [is_ok (hg.at ())]
  by_cases hs : curK ts ≠ s_minus ∧ curK ts ≠ s_bang
  · rw [if_pos hs] at hR
    rw [beq_eq_false_iff_ne.2 hs.1, beq_eq_false_iff_ne.2 hs.2]
    repeat' ((conv => whnf); first | refine ztS ?_ | (refine ztB ?_ ?_ <;> intro _ <;> try (exfalso; omega)) | (refine ztW ?_; clear H; intro _ _ H _) | fail)
    ((conv => whnf); refine Cl.mk (C.primary d ts _ hd (H.base2 HB) (H.atC 1 rfl) hg (by rw [← hR]; exact hne)) ?_)
    rintro _ w3 ⟨⟨kd, o, n, nm, cb, B, c, l⟩, s', rfl, ha', hv, H'⟩
    replace H := H.updn (c := rq ws A cw pr ⟨ts, none⟩) (Hp.swap H') rfl (.inl rfl) (.inl rfl)
    clear H'
    repeat' ((conv => whnf); first | refine ztS ?_ | (refine ztB ?_ ?_ <;> intro _ <;> try (exfalso; omega)) | (refine ztW ?_; clear H; intro _ _ H _) | fail)
    rw [← hR] at ha' hv
    exact ⟨.mk kd o n nm cb B c l, s', rfl, ha', hv, H.sel [0, 1] rfl⟩
  rw [if_neg hs] at hR
  obtain ⟨hd1, hd2⟩ := deep_at Y C (d := d) hg hpl
  have hend : curK ts ≠ k_end := fun e => hs (by rw [e]; decide)
  have hhd := hg.ok
  have hst := step_at hg.ends hg.ok hend
  have hfin : ∀ (w' : World) (p5 : Nat) (kk : Int) (e : ET) (s : RS), Hp (· = pr) w w' [bk p5 74 (ET.enc e), trs [e], rq ws A cw pr s] → Hp (· = pr) w w' [trs [.mk kk 0 0 [] [] (some ⟨p5, 0, none⟩) 1 [e]], rq ws A cw pr s] := fun w' p5 kk e s H => by
    have H1 : Hp (· = pr) w w' [bk p5 74 ([e].flatMap ET.enc), trs [e], rq ws A cw pr s] := by simpa using H
    exact Hp.trsN kk 0 0 [] [] (Hp.bq (sz := 6) H1 (fun z _ => ET.enc_len z))
  by_cases h40 : d + 1 ≤ 40
  case neg =>
    obtain ⟨h1, h2⟩ := hd2 h40
    rw [h1] at hR
    replace hR : R = .err 144 (curT ts).at_ := hR
    have hgo : ∀ (v : Value) (w' : World), v = .bool (decide (d + 1 ≤ 40)) ∧ Hp (· = pr) w w' [rq ws A cw pr (if d + 1 ≤ 40 then ⟨ts, none⟩ else wrongR 144 ⟨ts, none⟩)] → v = .bool false ∧ Hp (· = pr) w w' [rq ws A cw pr ⟨ts, some (144, (curT ts).at_)⟩] := fun v w' q => by
      rw [if_neg h40, h2, decide_eq_false h40] at q; exact q
    by_cases hm : curK ts = s_minus
    · have hb : ¬ curK ts = s_bang := by rw [hm]; decide
      rw [beq_iff_eq.2 hm, beq_eq_false_iff_ne.2 hb]
      repeat' ((conv => whnf); first | refine ztS ?_ | (refine ztB ?_ ?_ <;> intro _ <;> try (exfalso; omega)) | (refine ztW ?_; clear H; intro _ _ H _) | fail)
      ((conv => whnf); refine Cl.mk (deeper_r X d ⟨ts, none⟩ _ (by omega) (H.base2 HB) (H.atC 1 rfl) hts) ?_)
      rintro _ w3 ⟨rfl, H'⟩
      rw [if_neg h40, h2] at H'
      rw [decide_eq_false h40]
      replace H := H.upd (c := rq ws A cw pr ⟨ts, none⟩) H' rfl (.inl rfl)
      clear H'
      repeat' ((conv => whnf); first | refine ztS ?_ | (refine ztB ?_ ?_ <;> intro _ <;> try (exfalso; omega)) | (refine ztW ?_; clear H; intro _ _ H _) | fail)
      refine ⟨.mk 0 0 0 [] [] none 0 [], _, rfl, ?_, by rw [hR]; exact Vl.err, Hp.trsZ 0 0 0 [] [] H.d0⟩
      rw [hR]; exact ⟨hg.ends, .inl rfl⟩
    · have hb : curK ts = s_bang := Classical.byContradiction fun hb => hs ⟨hm, hb⟩
      rw [beq_eq_false_iff_ne.2 hm, beq_iff_eq.2 hb]
      repeat' ((conv => whnf); first | refine ztS ?_ | (refine ztB ?_ ?_ <;> intro _ <;> try (exfalso; omega)) | (refine ztW ?_; clear H; intro _ _ H _) | fail)
      ((conv => whnf); refine Cl.mk (deeper_r X d ⟨ts, none⟩ _ (by omega) (H.base2 HB) (H.atC 1 rfl) hts) ?_)
      rintro _ w3 ⟨rfl, H'⟩
      rw [if_neg h40, h2] at H'
      rw [decide_eq_false h40]
      replace H := H.upd (c := rq ws A cw pr ⟨ts, none⟩) H' rfl (.inl rfl)
      clear H'
      repeat' ((conv => whnf); first | refine ztS ?_ | (refine ztB ?_ ?_ <;> intro _ <;> try (exfalso; omega)) | (refine ztW ?_; clear H; intro _ _ H _) | fail)
      refine ⟨.mk 0 0 0 [] [] none 0 [], _, rfl, ?_, by rw [hR]; exact Vl.err, Hp.trsZ 0 0 0 [] [] H.d0⟩
      rw [hR]; exact ⟨hg.ends, .inl rfl⟩
  rw [hd1 h40] at hR
  replace hR : R = (stepP (curK ts == s_minus) ts).bind fun _ ts1 => if curK ts = s_minus ∧ curK ts1 = k_number then (stepP false ts1).bind fun _ ts2 => .ok (.mk 0 0 (curT ts1).n [] [] []) ts2 else (F.unary (d + 1) ts1).bind fun e ts2 => .ok (.mk (if curK ts = s_bang then 3 else 2) 0 0 [] [] [e]) ts2 := hR
  obtain ⟨t0, u0, r0, rfl⟩ := Way.ne ⟨hg.ends, (chk_ok hg.ok).2.1⟩ hend
  have hun := fun (s : RS) w => unaryR Y C (stepP false (t0 :: u0 :: r0)) (d + 1) s w (by omega)
  rw [← hwd] at hun
  by_cases hm : curK (t0 :: u0 :: r0) = s_minus
  · have hb : ¬ curK (t0 :: u0 :: r0) = s_bang := by rw [hm]; decide
    rw [beq_iff_eq.2 hm] at hR
    rw [if_neg hb] at hR
    rw [beq_iff_eq.2 hm, beq_eq_false_iff_ne.2 hb]
    repeat' ((conv => whnf); first | refine ztS ?_ | (refine ztB ?_ ?_ <;> intro _ <;> try (exfalso; omega)) | (refine ztW ?_; clear H; intro _ _ H _) | fail)
    ((conv => whnf); refine Cl.mk (deeper_r X d ⟨t0 :: u0 :: r0, none⟩ _ (by omega) (H.base2 HB) (H.atC 1 rfl) hts) ?_)
    rintro _ w3 ⟨rfl, H'⟩
    rw [if_pos h40] at H'
    rw [decide_eq_true h40]
    replace H := H.upd (c := rq ws A cw pr ⟨t0 :: u0 :: r0, none⟩) H' rfl (.inl rfl)
    clear H'
    repeat' ((conv => whnf); first | refine ztS ?_ | (refine ztB ?_ ?_ <;> intro _ <;> try (exfalso; omega)) | (refine ztW ?_; clear H; intro _ _ H _) | fail)
    (obtain ⟨j, hj1, hj2, hb0⟩ := H.atC (c := rq ws A cw pr (⟨t0 :: u0 :: r0, none⟩)) 1 rfl; have hjl := X.lt hj1 (by first | exact List.cons_ne_nil _ _ | assumption); replace H := Hp.ofQ H hb0; clear hb0)
    repeat' ((conv => whnf); first | refine ztS ?_ | (refine ztB ?_ ?_ <;> intro _ <;> try (exfalso; omega)) | (refine ztW ?_; clear H; intro _ _ H _) | fail)
    (have hwj : IntKind.i64.wrap ((j : Int) + 1) = ((j + 1 : Nat) : Int) := w64 rfl (by omega) (by omega); rw [hwj] at H; replace H := Hp.toQ (pr := pr) (s := ⟨u0 :: r0, none⟩) (k := j + 1) H (List.tail_drop.symm.trans (congrArg List.tail hj1)) (fun e p h => by cases h); clear hwj hj1 hj2 hjl)
    (((conv => whnf); refine Cl.mk (next_r X ⟨u0 :: r0, none⟩ _ (H.base2 HB) (H.atC 1 rfl) (List.cons_ne_nil _ _)) ?_); rintro _ _ ⟨rfl, hx⟩; replace H := H.ext hx; clear hx)
    have hue : Go.Tx.Ends (u0 :: r0) := hg.ends
    by_cases hnum : u0.kind = k_number ∧ u0.err = 0
    · obtain ⟨hn1, hn2⟩ := hnum
      obtain ⟨n1, n2, n3, n4⟩ := Y.num u0 (hmem u0 (by simp)) hn1 hn2
      have hst1 : stepP true (t0 :: u0 :: r0) = .ok () (u0 :: r0) := by
        simp only [stepP]
        rw [if_neg (fun h => h hn2), if_neg (by simp)]
      rw [hst1] at hR
      replace hR : R = if curK (t0 :: u0 :: r0) = s_minus ∧ u0.kind = k_number then (stepP false (u0 :: r0)).bind fun _ ts2 => .ok (.mk 0 0 u0.n [] [] []) ts2 else (F.unary (d + 1) (u0 :: r0)).bind fun e ts2 => .ok (.mk 2 0 0 [] [] [e]) ts2 := hR
      rw [if_pos ⟨hm, hn1⟩] at hR
      have hstu := step_at' hue hn2 (by rw [hn1]; decide)
      have hval := fun w => value_r u0.text w n1 n3 n4
      have htx : rText src u0 = u0.text := by unfold rText; rw [if_neg (by rw [hn2]; decide)]
      rw [← htx] at hval
      have hK : IntKind.i64.wrap (0 - IntKind.i64.wrap (val (rText src u0) : Int)) = u0.n := by
        rw [htx]
        by_cases hv : val u0.text = 9223372036854775808
        · rw [n2, hv]; decide
        · rw [w64 (m := (val u0.text : Int)) rfl (by omega) (by omega)]
          exact w64 (by omega) (by omega) (by omega)
      have hH : ∀ p8 w', Hp (· = pr) w w' [bk p8 99 (rwE src u0), bk p4 74 (ET.enc (.mk 0 0 u0.n [] [] none 0 [])), rq ws A cw pr ⟨r0, none⟩] → OkRE ws A cw pr id R w (ET.v (.mk 0 0 u0.n [] [] none 0 [])) w' := fun p8 w' H => by
        refine ⟨.mk 0 0 u0.n [] [] none 0 [], ⟨r0, none⟩, rfl, ?_, ?_, Hp.trsZ 0 0 u0.n [] [] H.d0.d0⟩
        · rw [hR]; exact hstu.map (fun _ => Ex.mk 0 0 u0.n [] [] [])
        · rw [hR]; exact Vl.map (g := fun _ => Ex.mk 0 0 u0.n [] [] []) (fun _ _ _ => rfl)
      by_cases hls : u0.n = -9223372036854775808
      · have hk1 : rKind u0 = k_least := by unfold rKind; rw [if_neg (fun h => h hn2), if_pos ⟨hn1, hls⟩]
        have hk2 : ¬ rKind u0 = k_number := by rw [hk1]; decide
        have hk3 : ¬ rKind (curT (u0 :: r0)) = k_number := hk2
        have hk4 : rKind (curT (u0 :: r0)) = k_least := hk1
        repeat' ((conv => whnf); first | refine ztT ?_ | (refine ztB ?_ ?_ <;> intro _ <;> try (exfalso; omega)) | (refine ztW ?_; clear H; intro _ _ H _) | fail)
        (((conv => whnf); refine Cl.mk (next_r X ⟨u0 :: r0, none⟩ _ (H.base2 HB) (H.atC 1 rfl) (List.cons_ne_nil _ _)) ?_); rintro _ _ ⟨rfl, hx⟩; replace H := H.ext hx; clear hx)
        repeat' ((conv => whnf); first | refine ztT ?_ | (refine ztB ?_ ?_ <;> intro _ <;> try (exfalso; omega)) | (refine ztW ?_; clear H; intro _ _ H _) | fail)
        (((conv => whnf); refine Cl.mk (next_r X ⟨u0 :: r0, none⟩ _ (H.base2 HB) (H.atC 1 rfl) (List.cons_ne_nil _ _)) ?_); rintro _ _ ⟨rfl, hx⟩; replace H := H.ext hx; clear hx)
        ((conv => whnf); refine Al.hp H ?_; clear H; intro p8 _ H _)
        repeat' ((conv => whnf); first | refine ztT ?_ | (refine ztB ?_ ?_ <;> intro _ <;> try (exfalso; omega)) | (refine ztW ?_; clear H; intro _ _ H _) | fail)
        (obtain ⟨j, hj1, hj2, hb0⟩ := H.atC (c := rq ws A cw pr (⟨u0 :: r0, none⟩)) 2 rfl; have hjl := X.lt hj1 (by first | exact List.cons_ne_nil _ _ | assumption); replace H := Hp.ofQ H hb0; clear hb0)
        repeat' ((conv => whnf); first | refine ztT ?_ | (refine ztB ?_ ?_ <;> intro _ <;> try (exfalso; omega)) | (refine ztW ?_; clear H; intro _ _ H _) | fail)
        (have hwj : IntKind.i64.wrap ((j : Int) + 1) = ((j + 1 : Nat) : Int) := w64 rfl (by omega) (by omega); rw [hwj] at H; replace H := Hp.toQ (pr := pr) (s := ⟨r0, none⟩) (k := j + 1) H (List.tail_drop.symm.trans (congrArg List.tail hj1)) (fun e p h => by cases h); clear hwj hj1 hj2 hjl)
        (((conv => whnf); refine Cl.mk (hval _) ?_); rintro _ _ ⟨rfl, hx⟩; replace H := H.ext hx; clear hx)
        repeat' ((conv => whnf); first | refine ztT ?_ | (refine ztB ?_ ?_ <;> intro _ <;> try (exfalso; omega)) | (refine ztW ?_; clear H; intro _ _ H _) | fail)
        rw [hK] at H ⊢
        exact hH _ _ H
      · have hk1 : rKind u0 = k_number := by unfold rKind; rw [if_neg (fun h => h hn2), if_neg (fun h => hls h.2)]; exact hn1
        have hk4 : rKind (curT (u0 :: r0)) = k_number := hk1
        repeat' ((conv => whnf); first | refine ztT ?_ | (refine ztB ?_ ?_ <;> intro _ <;> try (exfalso; omega)) | (refine ztW ?_; clear H; intro _ _ H _) | fail)
        ((((conv => whnf); refine Cl.mk (next_r X ⟨u0 :: r0, none⟩ _ (H.base2 HB) (H.atC 1 rfl) (List.cons_ne_nil _ _)) ?_); rintro _ _ ⟨rfl, hx⟩; replace H := H.ext hx; clear hx); ((conv => whnf); refine Al.hp H ?_; clear H; intro p8 _ H _); (repeat' ((conv => whnf); first | refine ztT ?_ | (refine ztB ?_ ?_ <;> intro _ <;> try (exfalso; omega)) | (refine ztW ?_; clear H; intro _ _ H _) | fail)); (obtain ⟨j, hj1, hj2, hb0⟩ := H.atC (c := rq ws A cw pr (⟨u0 :: r0, none⟩)) 2 rfl; have hjl := X.lt hj1 (by first | exact List.cons_ne_nil _ _ | assumption); replace H := Hp.ofQ H hb0; clear hb0); (repeat' ((conv => whnf); first | refine ztT ?_ | (refine ztB ?_ ?_ <;> intro _ <;> try (exfalso; omega)) | (refine ztW ?_; clear H; intro _ _ H _) | fail)); (have hwj : IntKind.i64.wrap ((j : Int) + 1) = ((j + 1 : Nat) : Int) := w64 rfl (by omega) (by omega); rw [hwj] at H; replace H := Hp.toQ (pr := pr) (s := ⟨r0, none⟩) (k := j + 1) H (List.tail_drop.symm.trans (congrArg List.tail hj1)) (fun e p h => by cases h); clear hwj hj1 hj2 hjl); (((conv => whnf); refine Cl.mk (hval _) ?_); rintro _ _ ⟨rfl, hx⟩; replace H := H.ext hx; clear hx); (repeat' ((conv => whnf); first | refine ztT ?_ | (refine ztB ?_ ?_ <;> intro _ <;> try (exfalso; omega)) | (refine ztW ?_; clear H; intro _ _ H _) | fail)); rw [hK] at H ⊢; exact hH _ _ H)
    · have hst1 : stepP true (t0 :: u0 :: r0) = stepP false (t0 :: u0 :: r0) := by
        simp only [stepP]
        by_cases he : u0.err = 0
        · rw [if_neg (fun h => h he), if_neg (by simp), if_neg (fun h => h he), if_neg (fun h => hnum ⟨h.1, he⟩)]
        · rw [if_pos he, if_pos he]
      rw [hst1] at hR
      have hk2 : ¬ rKind (curT (u0 :: r0)) = k_number := fun h => by
        have h : rKind u0 = k_number := h
        unfold rKind at h
        split at h
        · revert h; decide
        · rename_i he
          split at h
          · revert h; decide
          · exact hnum ⟨h, Classical.not_not.1 he⟩
      have hk3 : ¬ rKind (curT (u0 :: r0)) = k_least := fun h => by
        have h : rKind u0 = k_least := h
        unfold rKind at h
        split at h
        · revert h; decide
        · rename_i he
          split at h
          · rename_i h2
            exact hnum ⟨h2.1, Classical.not_not.1 he⟩
          · exact (hpl u0 (by simp)).1 h
      replace hR : R = ((stepP false (t0 :: u0 :: r0)).and fun _ ts => F.unary (d + 1) ts).map (fun p => .mk 2 0 0 [] [] [p.2]) := by
        rw [hR, Res.map, Res.and_bind]
        cases hx : stepP false (t0 :: u0 :: r0) with
        | out => rfl
        | err e p => rfl
        | ok a ts1 =>
          have : ts1 = u0 :: r0 := by
            rw [step_chk] at hx
            simp only [chk] at hx
            split at hx
            · simp at hx
            · split at hx
              · simp at hx
              · simp only [Res.ok.injEq] at hx
                exact hx.2.symm
          subst this
          show (if _ ∧ curK (u0 :: r0) = k_number then _ else _) = _
          rw [if_neg]
          · rfl
          · rintro ⟨_, h⟩
            have h : u0.kind = k_number := h
            apply hnum
            refine ⟨h, Classical.byContradiction fun he => ?_⟩
            rw [step_chk] at hx
            simp only [chk] at hx
            rw [if_pos he] at hx
            simp at hx
      repeat' ((conv => whnf); first | refine ztT ?_ | (refine ztB ?_ ?_ <;> intro _ <;> try (exfalso; omega)) | (refine ztW ?_; clear H; intro _ _ H _) | fail)
      (((conv => whnf); refine Cl.mk (next_r X ⟨u0 :: r0, none⟩ _ (H.base2 HB) (H.atC 1 rfl) (List.cons_ne_nil _ _)) ?_); rintro _ _ ⟨rfl, hx⟩; replace H := H.ext hx; clear hx)
      repeat' ((conv => whnf); first | refine ztT ?_ | (refine ztB ?_ ?_ <;> intro _ <;> try (exfalso; omega)) | (refine ztW ?_; clear H; intro _ _ H _) | fail)
      (((conv => whnf); refine Cl.mk (hun ⟨u0 :: r0, none⟩ _ (H.base2 HB) (H.atC 1 rfl) hst (Res.map_out (by rw [← hR]; exact hne))) ?_); rintro _ w4 ⟨⟨kd, o, n, nm, cb, B, c, l⟩, s', rfl, ha', hv', H'⟩; replace H := H.updn (c := rq ws A cw pr ⟨u0 :: r0, none⟩) (Hp.swap H') rfl (.inl rfl) (.inl rfl); clear H'; ((conv => whnf); refine Al.hp H ?_; clear H; intro p9 _ H _); (repeat' ((conv => whnf); first | refine ztS ?_ | (refine ztB ?_ ?_ <;> intro _ <;> try (exfalso; omega)) | (refine ztW ?_; clear H; intro _ _ H _) | fail)); refine Sm.lith (cs := ET.enc (.mk kd o n nm cb B c l)) H T.ok (fun p10 w5 H _ => ?_); (repeat' ((conv => whnf); first | refine ztS ?_ | (refine ztB ?_ ?_ <;> intro _ <;> try (exfalso; omega)) | (refine ztW ?_; clear H; intro _ _ H _) | fail)); refine ⟨.mk 2 0 0 [] [] (some ⟨p10, 0, none⟩) 1 [.mk kd o n nm cb B c l], s', rfl, by rw [hR]; exact ha'.map _, by rw [hR]; exact Vl.map (hv'.mono fun p hp => by simp only [ET.e, ET.es, id]; rw [← hp]; rfl), hfin _ p10 2 (.mk kd o n nm cb B c l) s' (H.sel [0, 1, 2] rfl)⟩)
  · have hb : curK (t0 :: u0 :: r0) = s_bang := Classical.byContradiction fun hb => hs ⟨hm, hb⟩
    rw [beq_eq_false_iff_ne.2 hm] at hR
    rw [if_pos hb] at hR
    rw [beq_eq_false_iff_ne.2 hm, beq_iff_eq.2 hb]
    replace hR : R = ((stepP false (t0 :: u0 :: r0)).and fun _ ts => F.unary (d + 1) ts).map (fun p => .mk 3 0 0 [] [] [p.2]) := by
      rw [hR, Res.map, Res.and_bind]
      cases hx : stepP false (t0 :: u0 :: r0) with
      | out => rfl
      | err e p => rfl
      | ok a ts1 =>
        show (if _ ∧ _ then _ else _) = _
        rw [if_neg (fun h => hm h.1)]
        rfl
    repeat' ((conv => whnf); first | refine ztS ?_ | (refine ztB ?_ ?_ <;> intro _ <;> try (exfalso; omega)) | (refine ztW ?_; clear H; intro _ _ H _) | fail)
    ((conv => whnf); refine Cl.mk (deeper_r X d ⟨t0 :: u0 :: r0, none⟩ _ (by omega) (H.base2 HB) (H.atC 1 rfl) hts) ?_)
    rintro _ w3 ⟨rfl, H'⟩
    rw [if_pos h40] at H'
    rw [decide_eq_true h40]
    replace H := H.upd (c := rq ws A cw pr ⟨t0 :: u0 :: r0, none⟩) H' rfl (.inl rfl)
    clear H'
    repeat' ((conv => whnf); first | refine ztS ?_ | (refine ztB ?_ ?_ <;> intro _ <;> try (exfalso; omega)) | (refine ztW ?_; clear H; intro _ _ H _) | fail)
    (obtain ⟨j, hj1, hj2, hb0⟩ := H.atC (c := rq ws A cw pr (⟨t0 :: u0 :: r0, none⟩)) 1 rfl; have hjl := X.lt hj1 (by first | exact List.cons_ne_nil _ _ | assumption); replace H := Hp.ofQ H hb0; clear hb0)
    repeat' ((conv => whnf); first | refine ztS ?_ | (refine ztB ?_ ?_ <;> intro _ <;> try (exfalso; omega)) | (refine ztW ?_; clear H; intro _ _ H _) | fail)
    (have hwj : IntKind.i64.wrap ((j : Int) + 1) = ((j + 1 : Nat) : Int) := w64 rfl (by omega) (by omega); rw [hwj] at H; replace H := Hp.toQ (pr := pr) (s := ⟨u0 :: r0, none⟩) (k := j + 1) H (List.tail_drop.symm.trans (congrArg List.tail hj1)) (fun e p h => by cases h); clear hwj hj1 hj2 hjl)
    (((conv => whnf); refine Cl.mk (hun ⟨u0 :: r0, none⟩ _ (H.base2 HB) (H.atC 1 rfl) hst (Res.map_out (by rw [← hR]; exact hne))) ?_); rintro _ w4 ⟨⟨kd, o, n, nm, cb, B, c, l⟩, s', rfl, ha', hv', H'⟩; replace H := H.updn (c := rq ws A cw pr ⟨u0 :: r0, none⟩) (Hp.swap H') rfl (.inl rfl) (.inl rfl); clear H'; ((conv => whnf); refine Al.hp H ?_; clear H; intro p9 _ H _); (repeat' ((conv => whnf); first | refine ztS ?_ | (refine ztB ?_ ?_ <;> intro _ <;> try (exfalso; omega)) | (refine ztW ?_; clear H; intro _ _ H _) | fail)); refine Sm.lith (cs := ET.enc (.mk kd o n nm cb B c l)) H T.ok (fun p10 w5 H _ => ?_); (repeat' ((conv => whnf); first | refine ztS ?_ | (refine ztB ?_ ?_ <;> intro _ <;> try (exfalso; omega)) | (refine ztW ?_; clear H; intro _ _ H _) | fail)); refine ⟨.mk 3 0 0 [] [] (some ⟨p10, 0, none⟩) 1 [.mk kd o n nm cb B c l], s', rfl, by rw [hR]; exact ha'.map _, by rw [hR]; exact Vl.map (hv'.mono fun p hp => by simp only [ET.e, ET.es, id]; rw [← hp]; rfl), hfin _ p10 3 (.mk kd o n nm cb B c l) s' (H.sel [0, 1, 2] rfl)⟩)
end
end Go.Proofs.YtfnjodpehomgfaaGreatDoor
namespace Go.Proofs.YtfnjodpehomgfaaGreatDoor
open Go Go.Sh Go.Tx
attribute [local irreducible] Blk Ext RdS
theorem argsR_s (F : PF) (d n : Nat) (l : List Ex) (ts : List Tk) : argsR F d (n + 1) l ts = (if curK ts = s_comma then (stepP false ts).bind fun _ ts1 => (F.expr 0 d ts1).bind fun e ts2 => argsR F d n (l ++ [e]) ts2 else (takeP s_rp ts).bind fun _ ts1 => .ok l ts1) := rfl
section
variable {src : Bs} {ws : List Tk} {A : Option Addr} {cw pr : Nat} {wb : World}
theorem RdQ.small (X : RX src ws A cw pr wb) {s : RS} {w : World} (h : RdQ ws A cw pr s w) : s.ts.length ≤ 20000 := by
  obtain ⟨k, h1, _⟩ := h
  have := X.len
  rw [← h1, List.length_drop]; omega
variable (Y : RY src ws A cw pr wb) {F : PF} (C : RCon src ws A cw pr wb F)
include Y C
theorem takeRR {α : Type} (k : Bs) (R0 : Res α) (s : RS) (w : World) (hwb : Ext wb w) (h : RdQ ws A cw pr s w) (ha : AtR R0 s) (hk : k ≠ k_end) (h1 : k ≠ k_bad) (h2 : k ≠ k_least) :
    Cl Tryz.prog 53 #[.pointer (some ⟨pr, 0, none⟩), .string (bs k)] w (fun v w' => ∃ kd p tx e s', v = .agg #[.string (bs kd), .int .i64 p, .string (bs tx), .int .i64 e] ∧ AtR (R0.and fun _ ts => takeP k ts) s' ∧ Vl (R0.and fun _ ts => takeP k ts) (fun a => tx = a.2.text) ∧ Hp (· = pr) w w' [rq ws A cw pr s']) (fun _ _ => False) := by
  have X := Y.x
  refine Cl.mkX (take_r X k s w hwb h (ends_ne ha.ends)) (fun v w' q => ?_) (fun _ _ h => h)
  obtain ⟨rfl, H⟩ := q
  have hat := take_at ha (h.pls X) hk h1 h2
  have hv : ∀ a ts, (R0.and fun _ ts => takeP k ts) = .ok a ts → a.2 = curT s.ts ∧ s.sp = none ∧ rKind (curT s.ts) = k ∧ (curT s.ts).err = 0 := fun a ts e => by
    cases R0 with
    | out => simp [Res.and, Res.bind] at e
    | err e' p => simp [Res.and, Res.bind] at e
    | ok a0 ts0 =>
      cases ht : takeP k ts0 with
      | out => simp [Res.and, Res.bind, ht] at e
      | err e' p => simp [Res.and, Res.bind, ht] at e
      | ok t ts1 =>
        simp only [Res.and, Res.bind, ht, Res.ok.injEq] at e
        rw [← e.1]
        exact take_val ha ht
  obtain ⟨ts, sp⟩ := s
  cases sp with
  | some x =>
    refine ⟨[], 0, [], 0, _, rfl, hat.and_of, fun a ts' e => ?_, H⟩
    obtain ⟨_, g, _⟩ := hv a ts' e
    cases g
  | none =>
    by_cases hc : rKind (curT ts) = k
    · have hV : takeV src k ⟨ts, none⟩ = .agg (rwE src (curT ts)).toArray := by unfold takeV; simp only; rw [if_pos hc]
      rw [hV]
      refine ⟨rKind (curT ts), (curT ts).at_, rText src (curT ts), (curT ts).err, _, rfl, hat.and_of, fun a ts' e => ?_, H⟩
      obtain ⟨g1, _, _, g4⟩ := hv a ts' e
      rw [g1]
      unfold rText
      rw [if_neg (by simp only at g4 ⊢; rw [g4]; decide)]
    · have hV : takeV src k ⟨ts, none⟩ = noW := by unfold takeV; simp only; rw [if_neg hc]
      rw [hV]
      refine ⟨[], 0, [], 0, _, rfl, hat.and_of, fun a ts' e => ?_, H⟩
      obtain ⟨_, _, g, _⟩ := hv a ts' e
      exact absurd g hc
set_option maxHeartbeats 4000000 in
theorem args_r {α : Type} (R0 : Res α) (d : Nat) (s : RS) (w : World) (hd : d ≤ 41) (hwb : Ext wb w) (h : RdQ ws A cw pr s w) (ha : AtR R0 s) (hne : (R0.and fun _ ts => argsP F d (ts.length + 1) [] ts) ≠ .out) :
    Cl Tryz.prog 129 #[.pointer (some ⟨pr, 0, none⟩), .int .i64 (d : Int)] w (OkRL ws A cw pr Prod.snd (R0.and fun _ ts => argsP F d (ts.length + 1) [] ts) w) (fun _ _ => False) := by
  have X := Y.x
  have HB := X.ok hwb
  have hts := ends_ne ha.ends
  have hsm := h.small X
  obtain ⟨R, hR⟩ : ∃ R, R = R0.and fun _ ts => argsP F d (ts.length + 1) [] ts := ⟨_, rfl⟩
  rw [← hR] at hne ⊢
  refine calls_ex (args := [.pointer (some ⟨pr, 0, none⟩), .int .i64 (d : Int)]) T.ok Tryz.func129 rfl rfl rfl rfl ?_
  have H := Hp.start (S := (· = pr)) (rq_ok h) (fun k hk => hk)
  clear h
  replace H := Hp.nil (Hp.trs0 H) ET.enc 6 74
  repeat' ((conv => whnf); first | refine ztS ?_ | (refine ztB ?_ ?_ <;> intro _ <;> try (exfalso; omega)) | (refine ztW ?_; clear H; intro _ _ H _) | fail)
  (((conv => whnf); refine Cl.mk (is_r X s_rp s _ (H.base2 HB) (H.atC 2 rfl) hts) ?_); rintro _ _ ⟨rfl, hx⟩; replace H := H.ext hx; clear hx)
  by_cases hrp : isR s_rp s = true
  · rw [hrp]
    obtain ⟨a, ts, rfl⟩ : ∃ a ts, R0 = .ok a ts := by
      cases R0 with
      | out => exact absurd hR hne
      | err e p => rw [is_err ha (by decide) (by decide)] at hrp; cases hrp
      | ok a ts => exact ⟨a, ts, rfl⟩
    obtain ⟨rfl, hg⟩ := ha.gd
    rw [is_ok ha] at hrp
    have hk : curK ts = s_rp := by simpa using hrp
    have hst := step_at hg.ends hg.ok (by rw [hk]; decide)
    obtain ⟨t0, r0, rfl⟩ : ∃ t0 r0, ts = t0 :: r0 := by
      cases ts with
      | nil => exact absurd rfl hts
      | cons t0 r0 => exact ⟨t0, r0, rfl⟩
    replace hR : R = (stepP false (t0 :: r0)).map (fun _ => (a, [])) := by
      rw [hR]
      show ((argsP F d (_ + 1) [] (t0 :: r0)).bind _) = _
      unfold argsP
      rw [if_pos hk]
      unfold takeP
      rw [if_neg (fun e => e hk)]
      cases stepP false (t0 :: r0) <;> rfl
    repeat' ((conv => whnf); first | refine ztS ?_ | (refine ztB ?_ ?_ <;> intro _ <;> try (exfalso; omega)) | (refine ztW ?_; clear H; intro _ _ H _) | fail)
    (obtain ⟨j, hj1, hj2, hb0⟩ := H.atC (c := rq ws A cw pr (⟨t0 :: r0, none⟩)) 2 rfl; have hjl := X.lt hj1 (by first | exact List.cons_ne_nil _ _ | assumption); replace H := Hp.ofQ H hb0; clear hb0)
    repeat' ((conv => whnf); first | refine ztS ?_ | (refine ztB ?_ ?_ <;> intro _ <;> try (exfalso; omega)) | (refine ztW ?_; clear H; intro _ _ H _) | fail)
    (have hwj : IntKind.i64.wrap ((j : Int) + 1) = ((j + 1 : Nat) : Int) := w64 rfl (by omega) (by omega); rw [hwj] at H; replace H := Hp.toQ (pr := pr) (s := ⟨r0, none⟩) (k := j + 1) H (List.tail_drop.symm.trans (congrArg List.tail hj1)) (fun e p h => by cases h); clear hwj hj1 hj2 hjl)
    refine ⟨none, 0, [], _, rfl, by rw [hR]; exact hst.map _, by rw [hR]; exact Vl.map (g := fun _ => (a, [])) (fun _ _ _ => rfl), by simp, H⟩
  rw [Bool.eq_false_iff.2 hrp]
  have hR1 : ∃ n, n ≤ 20001 ∧ R = ((R0.and fun _ ts => F.expr 0 d ts).map (fun p => (p.1, [p.2]))).bind fun q ts => (argsR F d n q.2 ts).bind fun l ts3 => .ok (q.1, l) ts3 := by
    cases R0 with
    | out => exact absurd hR hne
    | err e p => exact ⟨0, by omega, hR⟩
    | ok a ts =>
      obtain ⟨rfl, hg⟩ := ha.gd
      rw [is_ok ha] at hrp
      have hk : ¬ curK ts = s_rp := by simpa using hrp
      refine ⟨ts.length, by simp only at hsm; omega, ?_⟩
      rw [hR, Res.map_bind, Res.and_bind]
      show ((argsP F d (ts.length + 1) [] ts).bind _) = (F.expr 0 d ts).bind _
      unfold argsP
      rw [if_neg hk, if_neg (by simp)]
      show ((F.expr 0 d ts).bind _).bind _ = _
      rw [Res.bind_assoc]
      congr 1
      funext e ts2
      rw [List.nil_append, args_R F d ts.length [e] ts2 (by simp)]
  obtain ⟨n0, hn0, hR1⟩ := hR1
  repeat' ((conv => whnf); first | refine ztS ?_ | (refine ztB ?_ ?_ <;> intro _ <;> try (exfalso; omega)) | (refine ztW ?_; clear H; intro _ _ H _) | fail)
  ((conv => whnf); refine Cl.mk (exprR Y C R0 0 d s _ (by omega) hd (H.base2 HB) (H.atC 2 rfl) ha (Res.map_out (g := fun p => (p.1, [p.2])) (Res.bind_out (by rw [← hR1]; exact hne)))) ?_)
  rintro _ w3 ⟨⟨kd, o, n, nm, cb, B, c, l⟩, s2, rfl, ha2, hv2, H'⟩
  replace H := H.updn (c := rq ws A cw pr s) (Hp.swap H') rfl (.inl rfl) (.inl rfl)
  clear H'
  ((conv => whnf); refine Al.hp H ?_; clear H; intro p6 _ H _)
  repeat' ((conv => whnf); first | refine ztS ?_ | (refine ztB ?_ ?_ <;> intro _ <;> try (exfalso; omega)) | (refine ztW ?_; clear H; intro _ _ H _) | fail)
  refine Sm.lith (cs := ET.enc (.mk kd o n nm cb B c l)) H T.ok (fun p5 w4 H _ => ?_)
  refine Sm.ap1 (enc := ET.enc) (.mk kd o n nm cb B c l) H T.ok ?_ ?_ (fun A' c' w6 H => ?_)
  · show (0 + 1) * 80 ≤ _; omega
  · show 0 + 1 ≤ _; omega
  simp only [List.cons_append, List.nil_append] at H
  repeat' ((conv => whnf); first | refine ztS ?_ | (refine ztB ?_ ?_ <;> intro _ <;> try (exfalso; omega)) | (refine ztW ?_; clear H; intro _ _ H _) | fail)
  replace H := Hp.swap (Hp.trsS (l := []) (H.sel [1, 2, 0, 0, 0] rfl))
  have hv3 : Vl ((R0.and fun _ ts => F.expr 0 d ts).map (fun p => (p.1, [p.2]))) (fun q => ET.es [.mk kd o n nm cb B c l] = q.2) := Vl.map (hv2.mono fun p hp => by simp only [ET.es]; rw [hp])
  refine Lp.g0 T.ok (σ := Res (α × List Ex) × Nat × Option Addr × Nat × List ET × ET × RS) (fun q => [(5, .slice q.2.2.1 q.2.2.2.2.1.length q.2.2.2.1), (6, .pointer (some ⟨p6, 0, none⟩)), (0, .pointer (some ⟨pr, 0, none⟩)), (1, .int .i64 (d : Int))])
    (fun q w' => R = q.1.bind (fun a ts => (argsR F d q.2.1 a.2 ts).bind fun l ts3 => .ok (a.1, l) ts3) ∧ AtR q.1 q.2.2.2.2.2.2 ∧ Vl q.1 (fun a => ET.es q.2.2.2.2.1 = a.2) ∧ q.2.1 + q.2.2.2.2.1.length ≤ 20002 ∧ Hp (· = pr) w w' [bk p6 74 (ET.enc q.2.2.2.2.2.1), qu ET.enc 6 74 q.2.2.1 q.2.2.2.1 q.2.2.2.2.1, trs q.2.2.2.2.1, rq ws A cw pr q.2.2.2.2.2.2]) (fun q _ => q.2.1)
    ((R0.and fun _ ts => F.expr 0 d ts).map (fun p => (p.1, [p.2])), n0, A', c', [.mk kd o n nm cb B c l], .mk kd o n nm cb B c l, s2) rfl ⟨rfl, rfl, rfl, rfl, trivial⟩ ⟨hR1, ha2.map _, hv3, by simp only [List.length_cons, List.length_nil]; omega, H.sel [0, 1, 0, 0] rfl⟩ ?_
  clear H hR hR1 ha hv3 ha2 hv2
  rintro ⟨Rc, n, B, c, l, ⟨k9, o9, n9, nm9, cb9, B9, c9, l9⟩, s⟩ w5 ⟨hR, ha, hv, hn, H⟩
  simp only at hR ha hv hn H ⊢
  repeat' ((conv => whnf); first | refine ztS ?_ | (refine ztB ?_ ?_ <;> intro _ <;> try (exfalso; omega)) | (refine ztW ?_; clear H; intro _ _ H _) | fail)
  (((conv => whnf); refine Cl.mk (is_r X s_comma s _ (H.base2 HB) (H.atC 3 rfl) (ends_ne ha.ends)) ?_); rintro _ _ ⟨rfl, hx⟩; replace H := H.ext hx; clear hx)
  by_cases hcm : isR s_comma s = true
  · rw [hcm]
    obtain ⟨a, ts, rfl⟩ : ∃ a ts, Rc = .ok a ts := by
      cases Rc with
      | out => exact absurd hR hne
      | err e p => rw [is_err ha (by decide) (by decide)] at hcm; cases hcm
      | ok a ts => exact ⟨a, ts, rfl⟩
    obtain ⟨rfl, hg⟩ := ha.gd
    rw [is_ok ha] at hcm
    have hk : curK ts = s_comma := by simpa using hcm
    have hst := step_at hg.ends hg.ok (by rw [hk]; decide)
    obtain ⟨t0, r0, rfl⟩ : ∃ t0 r0, ts = t0 :: r0 := by
      cases ts with
      | nil => exact absurd rfl (ends_ne ha.ends)
      | cons t0 r0 => exact ⟨t0, r0, rfl⟩
    cases n with
    | zero => exact absurd hR hne
    | succ n =>
    replace hR : R = (((stepP false (t0 :: r0)).and fun _ ts => F.expr 0 d ts).map (fun p => (a.1, a.2 ++ [p.2]))).bind fun q ts => (argsR F d n q.2 ts).bind fun l ts3 => .ok (q.1, l) ts3 := by
      rw [hR, Res.map_bind, Res.and_bind]
      show ((argsR F d (n + 1) a.2 (t0 :: r0)).bind _) = _
      rw [argsR_s, if_pos hk, Res.bind_assoc]
      congr 1
      funext _ ts1
      rw [Res.bind_assoc]
    repeat' ((conv => whnf); first | refine ztS ?_ | (refine ztB ?_ ?_ <;> intro _ <;> try (exfalso; omega)) | (refine ztW ?_; clear H; intro _ _ H _) | fail)
    (obtain ⟨j, hj1, hj2, hb0⟩ := H.atC (c := rq ws A cw pr (⟨t0 :: r0, none⟩)) 3 rfl; have hjl := X.lt hj1 (by first | exact List.cons_ne_nil _ _ | assumption); replace H := Hp.ofQ H hb0; clear hb0)
    repeat' ((conv => whnf); first | refine ztS ?_ | (refine ztB ?_ ?_ <;> intro _ <;> try (exfalso; omega)) | (refine ztW ?_; clear H; intro _ _ H _) | fail)
    (have hwj : IntKind.i64.wrap ((j : Int) + 1) = ((j + 1 : Nat) : Int) := w64 rfl (by omega) (by omega); rw [hwj] at H; replace H := Hp.toQ (pr := pr) (s := ⟨r0, none⟩) (k := j + 1) H (List.tail_drop.symm.trans (congrArg List.tail hj1)) (fun e p h => by cases h); clear hwj hj1 hj2 hjl)
    ((conv => whnf); refine Cl.mk (exprR Y C (stepP false (t0 :: r0)) 0 d ⟨r0, none⟩ _ (by omega) hd (H.base2 HB) (H.atC 3 rfl) hst (Res.map_out (g := fun p => (a.1, a.2 ++ [p.2])) (Res.bind_out (by rw [← hR]; exact hne)))) ?_)
    rintro _ w3 ⟨⟨kd, o, n2, nm, cb, B2, c2, l2⟩, s2, rfl, ha2, hv2, H'⟩
    replace H := H.updn (c := rq ws A cw pr ⟨r0, none⟩) (Hp.swap H') rfl (.inl rfl) (.inl rfl)
    clear H'
    repeat' ((conv => whnf); first | refine ztS ?_ | (refine ztB ?_ ?_ <;> intro _ <;> try (exfalso; omega)) | (refine ztW ?_; clear H; intro _ _ H _) | fail)
    refine Sm.lith (cs := ET.enc (.mk kd o n2 nm cb B2 c2 l2)) H T.ok (fun p5 w4 H _ => ?_)
    refine Sm.ap1 (enc := ET.enc) (.mk kd o n2 nm cb B2 c2 l2) H T.ok ?_ ?_ (fun A' c' w6 H => ?_)
    · show (l.length + 1) * 80 ≤ _; omega
    · omega
    simp only [List.cons_append, List.nil_append] at H
    repeat' ((conv => whnf); first | refine ztS ?_ | (refine ztB ?_ ?_ <;> intro _ <;> try (exfalso; omega)) | (refine ztW ?_; clear H; intro _ _ H _) | fail)
    replace H := Hp.trsS (H.sel [0, 2, 0, 0, 0] rfl)
    clear hst
    have hle : ET.es l = a.2 := hv a _ rfl
    refine ⟨(((stepP false (t0 :: r0)).and fun _ ts => F.expr 0 d ts).map (fun p => (a.1, a.2 ++ [p.2])), n, A', c', l ++ [.mk kd o n2 nm cb B2 c2 l2], .mk kd o n2 nm cb B2 c2 l2, s2), ⟨at_val rfl (by simp), rfl, rfl, rfl, trivial⟩, rfl, ⟨hR, ha2.map _, ?_, ?_, H.sel [1, 1, 0, 0] rfl⟩, Nat.lt_succ_self n⟩
    · refine Vl.map (hv2.mono fun p hp => ?_)
      rw [ET.es_app, hle]
      simp only [ET.es]
      rw [hp]
    · simp only [List.length_append, List.length_cons, List.length_nil]; omega
  · rw [Bool.eq_false_iff.2 hcm]
    replace hR : R = (Rc.and fun _ ts => takeP s_rp ts).map (fun p => p.1) := by
      rw [hR]
      cases Rc with
      | out => exact absurd hR hne
      | err e p => rfl
      | ok a ts =>
        cases n with
        | zero => exact absurd hR hne
        | succ n =>
          rw [is_ok ha] at hcm
          have hk : ¬ curK ts = s_comma := by simpa using hcm
          show ((argsR F d (n + 1) a.2 ts).bind _) = ((takeP s_rp ts).bind _).bind _
          unfold argsR
          rw [if_neg hk]
          cases takeP s_rp ts <;> rfl
    repeat' ((conv => whnf); first | refine ztS ?_ | (refine ztB ?_ ?_ <;> intro _ <;> try (exfalso; omega)) | (refine ztW ?_; clear H; intro _ _ H _) | fail)
    ((conv => whnf); refine Cl.mk (takeRR Y C s_rp Rc s _ (H.base2 HB) (H.atC 3 rfl) ha (by decide) (by decide) (by decide)) ?_)
    rintro _ w3 ⟨k1, p1, x1, e1, s2, rfl, ha2, _, H'⟩
    replace H := H.upd (c := rq ws A cw pr s) H' rfl (.inl rfl)
    clear H'
    repeat' ((conv => whnf); first | refine ztS ?_ | (refine ztB ?_ ?_ <;> intro _ <;> try (exfalso; omega)) | (refine ztW ?_; clear H; intro _ _ H _) | fail)
    refine ⟨B, c, l, s2, rfl, by rw [hR]; exact ha2.map _, by rw [hR]; exact Vl.map (g := fun p : (α × List Ex) × Tk => p.1) (Vl.fst hv), by omega, H.d0⟩
end
end Go.Proofs.YtfnjodpehomgfaaGreatDoor
namespace Go.Proofs.YtfnjodpehomgfaaGreatDoor
open Go Go.Sh Go.Tx
attribute [local irreducible] Blk Ext RdS
theorem kidsP_s (F : PF) (d n m : Nat) (l : List Ex) (ts : List Tk) : kidsP F d n (m + 1) l ts = ((if m + 1 < n then (takeP s_comma ts).bind fun _ ts1 => .ok () ts1 else .ok () ts : Res Unit).bind fun _ ts1 => (F.expr 0 d ts1).bind fun e ts2 => kidsP F d n m (l ++ [e]) ts2) := rfl
section
variable {src : Bs} {ws : List Tk} {A : Option Addr} {cw pr : Nat} {wb : World}
variable (Y : RY src ws A cw pr wb) {F : PF} (C : RCon src ws A cw pr wb F)
include Y C
set_option maxHeartbeats 4000000 in
theorem listed_r {α : Type} (R0 : Res α) (n d : Nat) (s : RS) (w : World) (hn3 : n ≤ 3) (hd : d ≤ 41) (hwb : Ext wb w) (h : RdQ ws A cw pr s w) (ha : AtR R0 s) (hne : (R0.and fun _ ts => kidsP F d n n [] ts) ≠ .out) :
    Cl Tryz.prog 155 #[.pointer (some ⟨pr, 0, none⟩), .int .i64 (n : Int), .int .i64 (d : Int)] w (OkRL ws A cw pr Prod.snd (R0.and fun _ ts => kidsP F d n n [] ts) w) (fun _ _ => False) := by
  have X := Y.x
  have HB := X.ok hwb
  obtain ⟨R, hR⟩ : ∃ R, R = R0.and fun _ ts => kidsP F d n n [] ts := ⟨_, rfl⟩
  rw [← hR] at hne ⊢
  refine calls_ex (args := [.pointer (some ⟨pr, 0, none⟩), .int .i64 (n : Int), .int .i64 (d : Int)]) T.ok Tryz.func155 rfl rfl rfl rfl ?_
  have H := Hp.start (S := (· = pr)) (rq_ok h) (fun k hk => hk)
  clear h
  replace H := Hp.nil (Hp.trs0 H) ET.enc 6 74
  repeat' ((conv => whnf); first | refine ztS ?_ | (refine ztB ?_ ?_ <;> intro _ <;> try (exfalso; omega)) | (refine ztW ?_; clear H; intro _ _ H _) | fail)
  have hR1 : R = (R0.map (fun a => (a, ([] : List Ex)))).bind (fun a ts => (kidsP F d n (n - 0) a.2 ts).bind fun l ts3 => .ok (a.1, l) ts3) := by
    rw [hR, Res.map_bind]; rfl
  refine Lp.g0 T.ok (σ := Res (α × List Ex) × Nat × Option Addr × Nat × List ET × RS) (fun q => [(7, .slice q.2.2.1 q.2.2.2.2.1.length q.2.2.2.1), (8, .int .i64 (q.2.1 : Int)), (0, .pointer (some ⟨pr, 0, none⟩)), (1, .int .i64 (n : Int)), (2, .int .i64 (d : Int))])
    (fun q w' => R = q.1.bind (fun a ts => (kidsP F d n (n - q.2.1) a.2 ts).bind fun l ts3 => .ok (a.1, l) ts3) ∧ AtR q.1 q.2.2.2.2.2 ∧ Vl q.1 (fun a => ET.es q.2.2.2.2.1 = a.2) ∧ q.2.1 ≤ n ∧ q.2.2.2.2.1.length = q.2.1 ∧ Hp (· = pr) w w' [qu ET.enc 6 74 q.2.2.1 q.2.2.2.1 q.2.2.2.2.1, trs q.2.2.2.2.1, rq ws A cw pr q.2.2.2.2.2]) (fun q _ => n - q.2.1)
    (R0.map (fun a => (a, [])), 0, none, 0, [], s) rfl ⟨rfl, rfl, rfl, rfl, rfl, trivial⟩ ⟨hR1, ha.map _, Vl.map (g := fun a => (a, ([] : List Ex))) (fun _ _ _ => rfl), Nat.zero_le _, rfl, H⟩ ?_
  clear H hR hR1 ha
  rintro ⟨Rc, i, B, c, l, s⟩ w5 ⟨hR, ha, hv, hi, hll, H⟩
  simp only at hR ha hv hi hll H ⊢
  by_cases hlt : i < n
  case neg =>
    obtain rfl : i = n := by omega
    rw [Nat.sub_self] at hR
    replace hR : R = (Rc.and fun _ ts => takeP s_rp ts).map (fun p => p.1) := by
      rw [hR]
      cases Rc with
      | out => rfl
      | err e p => rfl
      | ok a ts =>
        show ((takeP s_rp ts).bind _).bind _ = ((takeP s_rp ts).bind _).bind _
        cases takeP s_rp ts <;> rfl
    repeat' ((conv => whnf); first | refine ztS ?_ | (refine ztB ?_ ?_ <;> intro _ <;> try (exfalso; omega)) | (refine ztW ?_; clear H; intro _ _ H _) | fail)
    all_goals first | (exfalso; omega) | skip
    ((conv => whnf); refine Cl.mk (takeRR Y C s_rp Rc s _ (H.base2 HB) (H.atC 2 rfl) ha (by decide) (by decide) (by decide)) ?_)
    rintro _ w3 ⟨k1, p1, x1, e1, s2, rfl, ha2, _, H'⟩
    replace H := H.upd (c := rq ws A cw pr s) H' rfl (.inl rfl)
    clear H'
    repeat' ((conv => whnf); first | refine ztS ?_ | (refine ztB ?_ ?_ <;> intro _ <;> try (exfalso; omega)) | (refine ztW ?_; clear H; intro _ _ H _) | fail)
    exact ⟨B, c, l, s2, rfl, by rw [hR]; exact ha2.map _, by rw [hR]; exact Vl.map (g := fun p : (α × List Ex) × Tk => p.1) (Vl.fst hv), by omega, H⟩
  rw [show n - i = (n - i - 1) + 1 by omega] at hR
  have hKF : ∀ (β : Type) (R1 : Res β) (g : β → α × List Ex) (s1 : RS), R = (R1.map g).bind (fun a ts => (F.expr 0 d ts).bind fun e ts2 => (kidsP F d n (n - i - 1) (a.2 ++ [e]) ts2).bind fun l ts3 => .ok (a.1, l) ts3) → (R1.and fun _ ts => F.expr 0 d ts) ≠ .out ∧ R = ((R1.and fun _ ts => F.expr 0 d ts).map (fun p => ((g p.1).1, (g p.1).2 ++ [p.2]))).bind (fun a ts => (kidsP F d n (n - (i + 1)) a.2 ts).bind fun l ts3 => .ok (a.1, l) ts3) := fun β R1 g s1 h => by
    have h2 : R = ((R1.and fun _ ts => F.expr 0 d ts).map (fun p => ((g p.1).1, (g p.1).2 ++ [p.2]))).bind (fun a ts => (kidsP F d n (n - (i + 1)) a.2 ts).bind fun l ts3 => .ok (a.1, l) ts3) := by
      rw [h, Res.map_bind, Res.map_bind, Res.and_bind, show n - (i + 1) = n - i - 1 by omega]
    exact ⟨Res.map_out (g := fun p => ((g p.1).1, (g p.1).2 ++ [p.2])) (Res.bind_out (by rw [← h2]; exact hne)), h2⟩
  by_cases hi0 : i = 0
  · obtain ⟨hx1, hx2⟩ := hKF _ Rc id s (by
      rw [hR]
      cases Rc with
      | out => rfl
      | err e p => rfl
      | ok a ts =>
        show ((kidsP F d n (n - i - 1 + 1) a.2 ts).bind _) = (F.expr 0 d ts).bind _
        rw [kidsP_s, if_neg (by omega)]
        show ((F.expr 0 d ts).bind _).bind _ = _
        rw [Res.bind_assoc]; rfl)
    repeat' ((conv => whnf); first | refine ztS ?_ | (refine ztB ?_ ?_ <;> intro _ <;> try (exfalso; omega)) | (refine ztW ?_; clear H; intro _ _ H _) | fail)
    all_goals first | (exfalso; omega) | skip
    ((conv => whnf); refine Cl.mk (exprR Y C Rc 0 d s _ (by omega) hd (H.base2 HB) (H.atC 2 rfl) ha hx1) ?_)
    rintro _ w3 ⟨⟨kd, o, n2, nm, cb, B2, c2, l2⟩, s2, rfl, ha2, hv2, H'⟩
    replace H := H.updn (c := rq ws A cw pr s) (Hp.swap H') rfl (.inl rfl) (.inl rfl)
    clear H'
    ((conv => whnf); refine Al.hp H ?_; clear H; intro p9 _ H _)
    repeat' ((conv => whnf); first | refine ztS ?_ | (refine ztB ?_ ?_ <;> intro _ <;> try (exfalso; omega)) | (refine ztW ?_; clear H; intro _ _ H _) | fail)
    (refine Sm.lith (cs := ET.enc (.mk kd o n2 nm cb B2 c2 l2)) H T.ok (fun p5 w4 H _ => ?_); refine Sm.ap1 (enc := ET.enc) (.mk kd o n2 nm cb B2 c2 l2) H T.ok ?_ ?_ (fun A' c' w6 H => ?_); (focus (show (l.length + 1) * 80 ≤ _; omega)); (focus omega); simp only [List.cons_append, List.nil_append] at H; (repeat' ((conv => whnf); first | refine ztS ?_ | (refine ztB ?_ ?_ <;> intro _ <;> try (exfalso; omega)) | (refine ztW ?_; clear H; intro _ _ H _) | fail)); replace H := Hp.trsS (H.sel [1, 2, 1, 1] rfl); refine ⟨(((Rc.and fun _ ts => F.expr 0 d ts).map (fun p => ((id p.1).1, (id p.1).2 ++ [p.2]))), i + 1, A', c', l ++ [.mk kd o n2 nm cb B2 c2 l2], s2), ⟨at_val rfl (by simp), at_int (m := ((i + 1 : Nat) : Int)) rfl (w64 (by simp) (by omega) (by omega)), rfl, rfl, rfl, trivial⟩, rfl, ⟨hx2, ha2.map _, Vl.map (Vl.mono2 hv2 (Vl.fst hv) fun p hp hl => by simp only [ET.es_app, ET.es, id]; rw [hp, hl]; try rfl), (show i + 1 ≤ n by omega), (show (l ++ [(ET.mk kd o n2 nm cb B2 c2 l2)]).length = i + 1 by simp only [List.length_append, List.length_cons, List.length_nil]; omega), Hp.swap H⟩, (show n - (i + 1) < n - i by omega)⟩)
  · have hi1 : n - i - 1 + 1 < n := by omega
    obtain ⟨hx1, hx2⟩ := hKF _ (Rc.and fun _ ts => takeP s_comma ts) (fun p => p.1) s (by
      rw [hR, Res.map_bind, Res.and_bind]
      congr 1
      funext a ts
      rw [kidsP_s, if_pos hi1]
      cases takeP s_comma ts with
      | out => rfl
      | err e p => rfl
      | ok t ts1 =>
        show ((F.expr 0 d ts1).bind _).bind _ = (F.expr 0 d ts1).bind _
        rw [Res.bind_assoc])
    repeat' ((conv => whnf); first | refine ztS ?_ | (refine ztB ?_ ?_ <;> intro _ <;> try (exfalso; omega)) | (refine ztW ?_; clear H; intro _ _ H _) | fail)
    all_goals first | (exfalso; omega) | skip
    ((conv => whnf); refine Cl.mk (takeRR Y C s_comma Rc s _ (H.base2 HB) (H.atC 2 rfl) ha (by decide) (by decide) (by decide)) ?_)
    rintro _ w3 ⟨k1, p1, x1, e1, s1, rfl, ha1, _, H'⟩
    replace H := H.upd (c := rq ws A cw pr s) H' rfl (.inl rfl)
    clear H'
    repeat' ((conv => whnf); first | refine ztS ?_ | (refine ztB ?_ ?_ <;> intro _ <;> try (exfalso; omega)) | (refine ztW ?_; clear H; intro _ _ H _) | fail)
    ((conv => whnf); refine Cl.mk (exprR Y C (Rc.and fun _ ts => takeP s_comma ts) 0 d s1 _ (by omega) hd (H.base2 HB) (H.atC 2 rfl) ha1 hx1) ?_)
    rintro _ w3 ⟨⟨kd, o, n2, nm, cb, B2, c2, l2⟩, s2, rfl, ha2, hv2, H'⟩
    replace H := H.updn (c := rq ws A cw pr s1) (Hp.swap H') rfl (.inl rfl) (.inl rfl)
    clear H'
    replace hv : Vl (Rc.and fun _ ts => takeP s_comma ts) (fun a => ET.es l = a.1.2) := Vl.fst hv
    ((conv => whnf); refine Al.hp H ?_; clear H; intro p9 _ H _)
    repeat' ((conv => whnf); first | refine ztS ?_ | (refine ztB ?_ ?_ <;> intro _ <;> try (exfalso; omega)) | (refine ztW ?_; clear H; intro _ _ H _) | fail)
    (refine Sm.lith (cs := ET.enc (.mk kd o n2 nm cb B2 c2 l2)) H T.ok (fun p5 w4 H _ => ?_); refine Sm.ap1 (enc := ET.enc) (.mk kd o n2 nm cb B2 c2 l2) H T.ok ?_ ?_ (fun A' c' w6 H => ?_); (focus (show (l.length + 1) * 80 ≤ _; omega)); (focus omega); simp only [List.cons_append, List.nil_append] at H; (repeat' ((conv => whnf); first | refine ztS ?_ | (refine ztB ?_ ?_ <;> intro _ <;> try (exfalso; omega)) | (refine ztW ?_; clear H; intro _ _ H _) | fail)); replace H := Hp.trsS (H.sel [1, 2, 1, 1] rfl); refine ⟨((((Rc.and fun _ ts => takeP s_comma ts).and fun _ ts => F.expr 0 d ts).map (fun p => (p.1.1.1, p.1.1.2 ++ [p.2]))), i + 1, A', c', l ++ [.mk kd o n2 nm cb B2 c2 l2], s2), ⟨at_val rfl (by simp), at_int (m := ((i + 1 : Nat) : Int)) rfl (w64 (by simp) (by omega) (by omega)), rfl, rfl, rfl, trivial⟩, rfl, ⟨hx2, ha2.map _, Vl.map (Vl.mono2 hv2 (Vl.fst hv) fun p hp hl => by simp only [ET.es_app, ET.es, id]; rw [hp, hl]; try rfl), (show i + 1 ≤ n by omega), (show (l ++ [(ET.mk kd o n2 nm cb B2 c2 l2)]).length = i + 1 by simp only [List.length_append, List.length_cons, List.length_nil]; omega), Hp.swap H⟩, (show n - (i + 1) < n - i by omega)⟩)
end
end Go.Proofs.YtfnjodpehomgfaaGreatDoor
namespace Go.Proofs.YtfnjodpehomgfaaGreatDoor
open Go Go.Sh Go.Tx
attribute [local irreducible] Blk Ext RdS
section
variable {src : Bs} {ws : List Tk} {A : Option Addr} {cw pr : Nat} {wb : World}
variable (Y : RY src ws A cw pr wb) {F : PF} (C : RCon src ws A cw pr wb F)
include Y C
set_option maxHeartbeats 4000000 in
theorem special_r (d : Nat) (t0 : Tk) (r0 : List Tk) (w : World) (hd : d ≤ 41) (hwb : Ext wb w) (h : RdQ ws A cw pr ⟨t0 :: r0, none⟩ w) (hg : Gdw (t0 :: r0)) (hk : t0.kind = k_min ∨ t0.kind = k_max ∨ t0.kind = k_reduce ∨ t0.kind = k_each)
    (hne : ((deepP (d + 1) (t0 :: r0)).bind fun _ ts => (stepP false ts).bind fun _ ts1 => (takeP s_lp ts1).bind fun _ ts2 => formP F (curK ts) (d + 1) ts2) ≠ .out) :
    Cl Tryz.prog 149 #[.pointer (some ⟨pr, 0, none⟩), .int .i64 (d : Int)] w (OkRE ws A cw pr id ((deepP (d + 1) (t0 :: r0)).bind fun _ ts => (stepP false ts).bind fun _ ts1 => (takeP s_lp ts1).bind fun _ ts2 => formP F (curK ts) (d + 1) ts2) w) (fun _ _ => False) := by
  have X := Y.x
  have HB := X.ok hwb
  have hpl := h.pls X
  have hwd : IntKind.i64.wrap ((d : Int) + 1) = ((d + 1 : Nat) : Int) := w64 rfl (by omega) (by omega)
  obtain ⟨R, hR⟩ : ∃ R, R = (deepP (d + 1) (t0 :: r0)).bind fun _ ts => (stepP false ts).bind fun _ ts1 => (takeP s_lp ts1).bind fun _ ts2 => formP F (curK ts) (d + 1) ts2 := ⟨_, rfl⟩
  rw [← hR] at hne ⊢
  obtain ⟨hd1, hd2⟩ := deep_at Y C (d := d) hg hpl
  have hend : curK (t0 :: r0) ≠ k_end := by show t0.kind ≠ k_end; rcases hk with h | h | h | h <;> rw [h] <;> decide
  have hst := step_at hg.ends hg.ok hend
  have hrk : rKind t0 = t0.kind := (chk_ok hg.ok).1
  refine calls_ex (args := [.pointer (some ⟨pr, 0, none⟩), .int .i64 (d : Int)]) T.ok Tryz.func149 rfl rfl rfl rfl ?_
  have H := Hp.start (S := (· = pr)) (rq_ok h) (fun k hk => hk)
  clear h
  refine Sq.mk ?_
  ((conv => whnf); refine Al.hp H ?_; clear H; intro p4 _ H _)
  repeat' ((conv => whnf); first | refine ztS ?_ | (refine ztB ?_ ?_ <;> intro _ <;> try (exfalso; omega)) | (refine ztW ?_; clear H; intro _ _ H _) | fail)
  (((conv => whnf); refine Cl.mk (deeper_r X d ⟨t0 :: r0, none⟩ _ (by omega) (H.base2 HB) (H.atC 1 rfl) (List.cons_ne_nil _ _)) ?_); rintro _ w3 ⟨rfl, H'⟩)
  by_cases h40 : d + 1 ≤ 40
  case neg =>
    obtain ⟨h1, h2⟩ := hd2 h40
    rw [h1] at hR
    replace hR : R = .err 144 (curT (t0 :: r0)).at_ := hR
    rw [if_neg h40, h2] at H'
    rw [decide_eq_false h40]
    replace H := H.upd (c := rq ws A cw pr ⟨t0 :: r0, none⟩) H' rfl (.inl rfl)
    clear H'
    repeat' ((conv => whnf); first | refine ztS ?_ | (refine ztB ?_ ?_ <;> intro _ <;> try (exfalso; omega)) | (refine ztW ?_; clear H; intro _ _ H _) | fail)
    refine ⟨.mk 0 0 0 [] [] none 0 [], _, rfl, ?_, by rw [hR]; exact Vl.err, Hp.trsZ 0 0 0 [] [] H.d0⟩
    rw [hR]; exact ⟨hg.ends, .inl rfl⟩
  rw [hd1 h40] at hR
  replace hR : R = ((stepP false (t0 :: r0)).and fun _ ts => takeP s_lp ts).bind fun _ ts2 => formP F t0.kind (d + 1) ts2 := by rw [hR, Res.and_bind]; rfl
  rw [if_pos h40] at H'
  rw [decide_eq_true h40]
  replace H := H.upd (c := rq ws A cw pr ⟨t0 :: r0, none⟩) H' rfl (.inl rfl)
  clear H'
  repeat' ((conv => whnf); first | refine ztS ?_ | (refine ztB ?_ ?_ <;> intro _ <;> try (exfalso; omega)) | (refine ztW ?_; clear H; intro _ _ H _) | fail)
  (((conv => whnf); refine Cl.mk (next_r X ⟨t0 :: r0, none⟩ _ (H.base2 HB) (H.atC 1 rfl) (List.cons_ne_nil _ _)) ?_); rintro _ _ ⟨rfl, hx⟩; replace H := H.ext hx; clear hx)
  ((conv => whnf); refine Al.hp H ?_; clear H; intro p6 _ H _)
  repeat' ((conv => whnf); first | refine ztS ?_ | (refine ztB ?_ ?_ <;> intro _ <;> try (exfalso; omega)) | (refine ztW ?_; clear H; intro _ _ H _) | fail)
  (obtain ⟨j, hj1, hj2, hb0⟩ := H.atC (c := rq ws A cw pr (⟨t0 :: r0, none⟩)) 2 rfl; have hjl := X.lt hj1 (by first | exact List.cons_ne_nil _ _ | assumption); replace H := Hp.ofQ H hb0; clear hb0)
  repeat' ((conv => whnf); first | refine ztS ?_ | (refine ztB ?_ ?_ <;> intro _ <;> try (exfalso; omega)) | (refine ztW ?_; clear H; intro _ _ H _) | fail)
  (have hwj : IntKind.i64.wrap ((j : Int) + 1) = ((j + 1 : Nat) : Int) := w64 rfl (by omega) (by omega); rw [hwj] at H; replace H := Hp.toQ (pr := pr) (s := ⟨r0, none⟩) (k := j + 1) H (List.tail_drop.symm.trans (congrArg List.tail hj1)) (fun e p h => by cases h); clear hwj hj1 hj2 hjl)
  (((conv => whnf); refine Cl.mk (takeRR Y C s_lp (stepP false (t0 :: r0)) ⟨r0, none⟩ _ (H.base2 HB) (H.atC 2 rfl) hst (by decide) (by decide) (by decide)) ?_); rintro _ w3 ⟨kd_, pp_, tx0, ee_, s1, rfl, ha1, hv1, H'⟩; replace H := H.upd (c := rq ws A cw pr ⟨r0, none⟩) H' rfl (.inl rfl); clear H')
  by_cases hrd : t0.kind = k_reduce
  · have hrd2 : rKind (curT (⟨t0 :: r0, none⟩ : RS).ts) = k_reduce := hrk.trans hrd
    repeat' ((conv => whnf); first | refine ztT ?_ | (refine ztB ?_ ?_ <;> intro _ <;> try (exfalso; omega)) | (refine ztW ?_; clear H; intro _ _ H _) | fail)
    generalize hR1 : ((stepP false (t0 :: r0)).and fun _ ts => takeP s_lp ts) = R1 at ha1 hv1 hR
    (((conv => whnf); refine Cl.mk (takeRR Y C k_name (R1) s1 _ (H.base2 HB) (H.atC 2 rfl) ha1 (by decide) (by decide) (by decide)) ?_); rintro _ w3 ⟨kd_, pp_, tx1, ee_, s2, rfl, ha2, hv2, H'⟩; replace H := H.upd (c := rq ws A cw pr s1) H' rfl (.inl rfl); clear H')
    ((conv => whnf); refine Al.hp H ?_; clear H; intro p7 _ H _)
    repeat' ((conv => whnf); first | refine ztT ?_ | (refine ztB ?_ ?_ <;> intro _ <;> try (exfalso; omega)) | (refine ztW ?_; clear H; intro _ _ H _) | fail)
    generalize hR2 : (R1.and fun _ ts => takeP k_name ts) = R2 at ha2 hv2
    (((conv => whnf); refine Cl.mk (takeRR Y C s_comma (R2) s2 _ (H.base2 HB) (H.atC 3 rfl) ha2 (by decide) (by decide) (by decide)) ?_); rintro _ w3 ⟨kd_, pp_, tx2, ee_, s3, rfl, ha3, hv3, H'⟩; replace H := H.upd (c := rq ws A cw pr s2) H' rfl (.inl rfl); clear H')
    repeat' ((conv => whnf); first | refine ztT ?_ | (refine ztB ?_ ?_ <;> intro _ <;> try (exfalso; omega)) | (refine ztW ?_; clear H; intro _ _ H _) | fail)
    generalize hR3 : (R2.and fun _ ts => takeP s_comma ts) = R3 at ha3 hv3
    (((conv => whnf); refine Cl.mk (takeRR Y C k_name (R3) s3 _ (H.base2 HB) (H.atC 3 rfl) ha3 (by decide) (by decide) (by decide)) ?_); rintro _ w3 ⟨kd_, pp_, tx4, ee_, s4, rfl, ha4, hv4, H'⟩; replace H := H.upd (c := rq ws A cw pr s3) H' rfl (.inl rfl); clear H')
    ((conv => whnf); refine Al.hp H ?_; clear H; intro p8 _ H _)
    repeat' ((conv => whnf); first | refine ztT ?_ | (refine ztB ?_ ?_ <;> intro _ <;> try (exfalso; omega)) | (refine ztW ?_; clear H; intro _ _ H _) | fail)
    generalize hR4 : (R3.and fun _ ts => takeP k_name ts) = R4 at ha4 hv4
    (((conv => whnf); refine Cl.mk (takeRR Y C s_comma (R4) s4 _ (H.base2 HB) (H.atC 4 rfl) ha4 (by decide) (by decide) (by decide)) ?_); rintro _ w3 ⟨kd_, pp_, tx5, ee_, s5, rfl, ha5, hv5, H'⟩; replace H := H.upd (c := rq ws A cw pr s4) H' rfl (.inl rfl); clear H')
    repeat' ((conv => whnf); first | refine ztT ?_ | (refine ztB ?_ ?_ <;> intro _ <;> try (exfalso; omega)) | (refine ztW ?_; clear H; intro _ _ H _) | fail)
    generalize hR5 : (R4.and fun _ ts => takeP s_comma ts) = R5 at ha5 hv5
    have hls := fun w => listed_r Y C R5 3 (d + 1) s5 w (by omega) (by omega)
    have hRf : R = (R5.and fun _ ts => kidsP F (d + 1) 3 3 [] ts).map (fun p => Ex.mk 6 0 0 p.1.1.1.1.2.text p.1.1.2.text p.2) := by
      rw [hR, ← hR5, ← hR4, ← hR3, ← hR2]
      simp only [Res.map, Res.and_bind, formP, if_pos hrd]
    rw [← hwd] at hls
    ((conv => whnf); refine Cl.mk (hls _ (H.base2 HB) (H.atC 4 rfl) ha5 (Res.map_out (by rw [← hRf]; exact hne))) ?_)
    rintro _ w4 ⟨B, c, l, s6, rfl, ha6, hv6, hlen, H'⟩
    replace H' := Hp.trsN 6 0 0 tx1 tx4 H'
    replace H := H.updn (c := rq ws A cw pr s5) (Hp.swap H') rfl (.inl rfl) (.inl rfl)
    clear H'
    repeat' ((conv => whnf); first | refine ztT ?_ | (refine ztB ?_ ?_ <;> intro _ <;> try (exfalso; omega)) | (refine ztW ?_; clear H; intro _ _ H _) | fail)
    subst hR5 hR4 hR3 hR2
    refine ⟨.mk 6 0 0 tx1 tx4 B c l, s6, rfl, by rw [hRf]; exact ha6.map _, ?_, H.sel [0, 4] rfl⟩
    rw [hRf]
    refine Vl.map (Vl.mono2 (Vl.mono2 hv6 (Vl.fst (Vl.fst (Vl.fst (Vl.fst hv2)))) fun a h1 h2 => And.intro h1 h2) (Vl.fst (Vl.fst hv4)) fun a h1 h2 => ?_)
    simp only [ET.e, id]
    rw [h1.1, h1.2, h2]
  · have hrd2 : ¬ rKind (curT (⟨t0 :: r0, none⟩ : RS).ts) = k_reduce := fun h => hrd (hrk.symm.trans h)
    by_cases hea : t0.kind = k_each
    · have hea2 : rKind (curT (⟨t0 :: r0, none⟩ : RS).ts) = k_each := hrk.trans hea
      repeat' ((conv => whnf); first | refine ztT ?_ | (refine ztB ?_ ?_ <;> intro _ <;> try (exfalso; omega)) | (refine ztW ?_; clear H; intro _ _ H _) | fail)
      generalize hR1 : ((stepP false (t0 :: r0)).and fun _ ts => takeP s_lp ts) = R1 at ha1 hv1 hR
      (((conv => whnf); refine Cl.mk (takeRR Y C k_name (R1) s1 _ (H.base2 HB) (H.atC 2 rfl) ha1 (by decide) (by decide) (by decide)) ?_); rintro _ w3 ⟨kd_, pp_, tx1, ee_, s2, rfl, ha2, hv2, H'⟩; replace H := H.upd (c := rq ws A cw pr s1) H' rfl (.inl rfl); clear H')
      ((conv => whnf); refine Al.hp H ?_; clear H; intro p7 _ H _)
      repeat' ((conv => whnf); first | refine ztT ?_ | (refine ztB ?_ ?_ <;> intro _ <;> try (exfalso; omega)) | (refine ztW ?_; clear H; intro _ _ H _) | fail)
      generalize hR2 : (R1.and fun _ ts => takeP k_name ts) = R2 at ha2 hv2
      (((conv => whnf); refine Cl.mk (takeRR Y C s_comma (R2) s2 _ (H.base2 HB) (H.atC 3 rfl) ha2 (by decide) (by decide) (by decide)) ?_); rintro _ w3 ⟨kd_, pp_, tx2, ee_, s3, rfl, ha3, hv3, H'⟩; replace H := H.upd (c := rq ws A cw pr s2) H' rfl (.inl rfl); clear H')
      repeat' ((conv => whnf); first | refine ztT ?_ | (refine ztB ?_ ?_ <;> intro _ <;> try (exfalso; omega)) | (refine ztW ?_; clear H; intro _ _ H _) | fail)
      generalize hR3 : (R2.and fun _ ts => takeP s_comma ts) = R3 at ha3 hv3
      have hls := fun w => listed_r Y C R3 2 (d + 1) s3 w (by omega) (by omega)
      have hRf : R = (R3.and fun _ ts => kidsP F (d + 1) 2 2 [] ts).map (fun p => Ex.mk 7 0 0 p.1.1.2.text [] p.2) := by
        rw [hR, ← hR3, ← hR2]
        simp only [Res.map, Res.and_bind, formP, if_neg hrd, if_pos hea]
      rw [← hwd] at hls
      ((conv => whnf); refine Cl.mk (hls _ (H.base2 HB) (H.atC 3 rfl) ha3 (Res.map_out (by rw [← hRf]; exact hne))) ?_)
      rintro _ w4 ⟨B, c, l, s6, rfl, ha6, hv6, hlen, H'⟩
      replace H' := Hp.trsN 7 0 0 tx1 [] H'
      replace H := H.updn (c := rq ws A cw pr s3) (Hp.swap H') rfl (.inl rfl) (.inl rfl)
      clear H'
      repeat' ((conv => whnf); first | refine ztT ?_ | (refine ztB ?_ ?_ <;> intro _ <;> try (exfalso; omega)) | (refine ztW ?_; clear H; intro _ _ H _) | fail)
      subst hR3 hR2
      refine ⟨.mk 7 0 0 tx1 [] B c l, s6, rfl, by rw [hRf]; exact ha6.map _, ?_, H.sel [0, 3] rfl⟩
      rw [hRf]
      refine Vl.map (Vl.mono2 hv6 (Vl.fst (Vl.fst hv2)) fun a h1 h2 => ?_)
      simp only [ET.e, id]
      rw [h1, h2]
    · have hea2 : ¬ rKind (curT (⟨t0 :: r0, none⟩ : RS).ts) = k_each := fun h => hea (hrk.symm.trans h)
      repeat' ((conv => whnf); first | refine ztT ?_ | (refine ztB ?_ ?_ <;> intro _ <;> try (exfalso; omega)) | (refine ztW ?_; clear H; intro _ _ H _) | fail)
      generalize hR1 : ((stepP false (t0 :: r0)).and fun _ ts => takeP s_lp ts) = R1 at ha1 hv1 hR
      have hls := fun w => listed_r Y C R1 2 (d + 1) s1 w (by omega) (by omega)
      have hRf : R = (R1.and fun _ ts => kidsP F (d + 1) 2 2 [] ts).map (fun p => Ex.mk 4 (findOp t0.kind) 0 [] [] p.2) := by
        rw [hR]
        simp only [Res.map, Res.and_bind, formP, if_neg hrd, if_neg hea]
      rw [← hwd] at hls
      ((conv => whnf); refine Cl.mk (hls _ (H.base2 HB) (H.atC 2 rfl) ha1 (Res.map_out (by rw [← hRf]; exact hne))) ?_)
      rintro _ w4 ⟨B, c, l, s6, rfl, ha6, hv6, hlen, H'⟩
      have hop : opR t0.kind = findOp t0.kind := op_known (by rcases hk with h | h | h | h; (rw [h]; decide); (rw [h]; decide); exact absurd h hrd; exact absurd h hea)
      replace H' := Hp.trsN 4 (opR t0.kind) 0 [] [] H'
      replace H := H.updn (c := rq ws A cw pr s1) (Hp.swap H') rfl (.inl rfl) (.inl rfl)
      clear H'
      repeat' ((conv => whnf); first | refine ztT ?_ | (refine ztB ?_ ?_ <;> intro _ <;> try (exfalso; omega)) | (refine ztW ?_; clear H; intro _ _ H _) | fail)
      (((conv => whnf); refine Cl.mk (operation_r (rKind t0) _) ?_); rintro _ _ ⟨rfl, hx⟩; replace H := H.ext hx; clear hx)
      rw [hrk]
      repeat' ((conv => whnf); first | refine ztT ?_ | (refine ztB ?_ ?_ <;> intro _ <;> try (exfalso; omega)) | (refine ztW ?_; clear H; intro _ _ H _) | fail)
      refine ⟨.mk 4 (opR t0.kind) 0 [] [] B c l, s6, rfl, by rw [hRf]; exact ha6.map _, ?_, H.sel [0, 2] rfl⟩
      rw [hRf]
      refine Vl.map (hv6.mono fun a h1 => ?_)
      simp only [ET.e, id]
      rw [h1, hop]
set_option maxHeartbeats 8000000 in
theorem primary_r (d : Nat) (ts : List Tk) (w : World) (hd : d ≤ 41) (hwb : Ext wb w) (h : RdQ ws A cw pr ⟨ts, none⟩ w) (hg : Gdw ts) (hne : primaryP F d ts ≠ .out) :
    Cl Tryz.prog 141 #[.pointer (some ⟨pr, 0, none⟩), .int .i64 (d : Int)] w (OkRE ws A cw pr id (primaryP F d ts) w) (fun _ _ => False) := by
  have X := Y.x
  have HB := X.ok hwb
  have hpl := h.pls X
  have hmem := h.mem
  have hwd : IntKind.i64.wrap ((d : Int) + 1) = ((d + 1 : Nat) : Int) := w64 rfl (by omega) (by omega)
  obtain ⟨t0, r0, rfl⟩ : ∃ t0 r0, ts = t0 :: r0 := by
    cases ts with
    | nil => exact absurd rfl (ends_ne hg.ends)
    | cons t0 r0 => exact ⟨t0, r0, rfl⟩
  obtain ⟨R, hR⟩ : ∃ R, R = primaryP F d (t0 :: r0) := ⟨_, rfl⟩
  rw [← hR] at hne ⊢
  unfold primaryP at hR
  rw [show curK (t0 :: r0) = t0.kind from rfl, show curT (t0 :: r0) = t0 from rfl] at hR
  have hrk : rKind (curT (⟨t0 :: r0, none⟩ : RS).ts) = t0.kind := (chk_ok hg.ok).1
  have herr : t0.err = 0 := (chk_ok hg.ok).2.1
  have htx : rText src t0 = t0.text := by unfold rText; rw [if_neg (by rw [herr]; decide)]
  refine calls_ex (args := [.pointer (some ⟨pr, 0, none⟩), .int .i64 (d : Int)]) T.ok Tryz.func141 rfl rfl rfl rfl ?_
  have H := Hp.start (S := (· = pr)) (rq_ok h) (fun k hk => hk)
  have h0 := h
  clear h
  refine Sq.mk ?_
  ((conv => whnf); refine Al.hp H ?_; clear H; intro p4 _ H _)
  repeat' ((conv => whnf); first | refine ztS ?_ | (refine ztB ?_ ?_ <;> intro _ <;> try (exfalso; omega)) | (refine ztW ?_; clear H; intro _ _ H _) | fail)
  (((conv => whnf); refine Cl.mk (fine_r X ⟨t0 :: r0, none⟩ _ (H.atC 1 rfl)) ?_); rintro _ _ ⟨rfl, hx⟩; replace H := H.ext hx; clear hx)
  repeat' ((conv => whnf); first | refine ztS ?_ | (refine ztB ?_ ?_ <;> intro _ <;> try (exfalso; omega)) | (refine ztW ?_; clear H; intro _ _ H _) | fail)
  (((conv => whnf); refine Cl.mk (next_r X ⟨t0 :: r0, none⟩ _ (H.base2 HB) (H.atC 1 rfl) (List.cons_ne_nil _ _)) ?_); rintro _ _ ⟨rfl, hx⟩; replace H := H.ext hx; clear hx)
  ((conv => whnf); refine Al.hp H ?_; clear H; intro p5 _ H _)
  by_cases c1 : t0.kind = k_number
  · have q1 := hrk.trans c1
    rw [if_pos c1] at hR
    have hst := step_at hg.ends hg.ok (by show t0.kind ≠ k_end; rw [c1]; decide)
    obtain ⟨n1, n2, n3, n4⟩ := Y.num t0 (hmem t0 (by simp)) c1 herr
    have hnl : ¬ t0.n = -9223372036854775808 := fun h => (chk_ok hg.ok).2.2 ⟨c1, h⟩
    have hval := fun w => value_r t0.text w n1 n3 n4
    rw [← htx] at hval
    have hK : IntKind.i64.wrap (val (rText src t0) : Int) = negW t0.n := by
      rw [htx]
      unfold negW
      rw [if_neg hnl, n2]
      exact w64 (by omega) (by omega) (by omega)
    replace hR : R = (stepP false (t0 :: r0)).map fun _ => Ex.mk 0 0 (negW t0.n) [] [] [] := hR
    repeat' ((conv => whnf); first | refine ztT ?_ | (refine ztB ?_ ?_ <;> intro _ <;> try (exfalso; omega)) | (refine ztW ?_; clear H; intro _ _ H _) | fail)
    (obtain ⟨j, hj1, hj2, hb0⟩ := H.atC (c := rq ws A cw pr (⟨t0 :: r0, none⟩)) 2 rfl; have hjl := X.lt hj1 (by first | exact List.cons_ne_nil _ _ | assumption); replace H := Hp.ofQ H hb0; clear hb0)
    repeat' ((conv => whnf); first | refine ztT ?_ | (refine ztB ?_ ?_ <;> intro _ <;> try (exfalso; omega)) | (refine ztW ?_; clear H; intro _ _ H _) | fail)
    (have hwj : IntKind.i64.wrap ((j : Int) + 1) = ((j + 1 : Nat) : Int) := w64 rfl (by omega) (by omega); rw [hwj] at H; replace H := Hp.toQ (pr := pr) (s := ⟨r0, none⟩) (k := j + 1) H (List.tail_drop.symm.trans (congrArg List.tail hj1)) (fun e p h => by cases h); clear hwj hj1 hj2 hjl)
    (((conv => whnf); refine Cl.mk (hval _) ?_); rintro _ _ ⟨rfl, hx⟩; replace H := H.ext hx; clear hx)
    rw [hK]
    repeat' ((conv => whnf); first | refine ztT ?_ | (refine ztB ?_ ?_ <;> intro _ <;> try (exfalso; omega)) | (refine ztW ?_; clear H; intro _ _ H _) | fail)
    refine ⟨.mk 0 0 (negW t0.n) [] [] none 0 [], _, rfl, by rw [hR]; exact hst.map _, ?_, Hp.trsZ 0 0 (negW t0.n) [] [] H.d0.d0⟩
    rw [hR]
    exact Vl.map (g := fun _ => Ex.mk 0 0 (negW t0.n) [] [] []) (fun _ _ _ => rfl)
  have q1 : ¬ rKind (curT (⟨t0 :: r0, none⟩ : RS).ts) = k_number := fun h => c1 (hrk.symm.trans h)
  rw [if_neg c1] at hR
  by_cases c2 : t0.kind = k_name
  · have q2 := hrk.trans c2
    rw [if_pos c2] at hR
    have hst := step_at hg.ends hg.ok (by show t0.kind ≠ k_end; rw [c2]; decide)
    repeat' ((conv => whnf); first | refine ztT ?_ | (refine ztB ?_ ?_ <;> intro _ <;> try (exfalso; omega)) | (refine ztW ?_; clear H; intro _ _ H _) | fail)
    (obtain ⟨j, hj1, hj2, hb0⟩ := H.atC (c := rq ws A cw pr (⟨t0 :: r0, none⟩)) 2 rfl; have hjl := X.lt hj1 (by first | exact List.cons_ne_nil _ _ | assumption); replace H := Hp.ofQ H hb0; clear hb0)
    repeat' ((conv => whnf); first | refine ztT ?_ | (refine ztB ?_ ?_ <;> intro _ <;> try (exfalso; omega)) | (refine ztW ?_; clear H; intro _ _ H _) | fail)
    (have hwj : IntKind.i64.wrap ((j : Int) + 1) = ((j + 1 : Nat) : Int) := w64 rfl (by omega) (by omega); rw [hwj] at H; replace H := Hp.toQ (pr := pr) (s := ⟨r0, none⟩) (k := j + 1) H (List.tail_drop.symm.trans (congrArg List.tail hj1)) (fun e p h => by cases h); clear hwj hj1 hj2 hjl)
    have hst2 : AtR (stepP false (t0 :: r0)) ⟨r0, none⟩ := hst
    (((conv => whnf); refine Cl.mk (is_r X s_lp ⟨r0, none⟩ _ (H.base2 HB) (H.atC 2 rfl) (ends_ne hst2.ends)) ?_); rintro _ _ ⟨rfl, hx⟩; replace H := H.ext hx; clear hx)
    by_cases hlp : isR s_lp ⟨r0, none⟩ = true
    case neg =>
      rw [Bool.eq_false_iff.2 hlp]
      replace hR : R = (stepP false (t0 :: r0)).map fun _ => Ex.mk 1 0 0 t0.text [] [] := by
        rw [hR]
        cases hx : stepP false (t0 :: r0) with
        | out => rfl
        | err e p => rfl
        | ok a ts1 =>
          rw [hx] at hst2
          rw [is_ok hst2] at hlp
          have hk : curK ts1 ≠ s_lp := by simpa using hlp
          show (if curK ts1 ≠ s_lp then _ else _) = _
          rw [if_pos hk]; rfl
      repeat' ((conv => whnf); first | refine ztT ?_ | (refine ztB ?_ ?_ <;> intro _ <;> try (exfalso; omega)) | (refine ztW ?_; clear H; intro _ _ H _) | fail)
      refine ⟨.mk 1 0 0 (rText src t0) [] none 0 [], _, rfl, by rw [hR]; exact hst2.map _, ?_, Hp.trsZ 1 0 0 (rText src t0) [] H.d0.d0⟩
      rw [hR]
      refine Vl.map (g := fun _ => Ex.mk 1 0 0 t0.text [] []) (fun _ _ _ => ?_)
      simp only [ET.e, ET.es, id]
      rw [htx]
    rw [hlp]
    obtain ⟨ts1, hx, rfl⟩ : ∃ ts1, stepP false (t0 :: r0) = .ok () ts1 ∧ ts1 = r0 := by
      cases hx : stepP false (t0 :: r0) with
      | out => rw [hx] at hR; exact absurd hR hne
      | err e p => rw [hx] at hst2; rw [is_err hst2 (by decide) (by decide)] at hlp; cases hlp
      | ok a ts1 =>
        rw [hx] at hst2
        have := hst2.gd.1
        simp only [RS.mk.injEq, and_true] at this
        exact ⟨ts1, rfl, this.symm⟩
    rw [hx] at hst2
    obtain ⟨_, hg1⟩ := hst2.gd
    rw [is_ok hst2] at hlp
    have hk1 : curK ts1 = s_lp := by simpa using hlp
    obtain ⟨t1, r1, rfl⟩ : ∃ t1 r1, ts1 = t1 :: r1 := by
      cases ts1 with
      | nil => exact absurd rfl (ends_ne hg1.ends)
      | cons t1 r1 => exact ⟨t1, r1, rfl⟩
    have hpl1 : Pls (t1 :: r1) := fun t ht => hpl t (List.mem_cons_of_mem _ ht)
    obtain ⟨hd1, hd2⟩ := deep_at Y C (d := d) hg1 hpl1
    have hst1 := step_at hg1.ends hg1.ok (by rw [hk1]; decide)
    rw [hx] at hR
    replace hR : R = (deepP (d + 1) (t1 :: r1)).bind fun _ ts1 => (stepP false ts1).bind fun _ ts2 => (argsP F (d + 1) (ts2.length + 1) [] ts2).bind fun l ts3 => .ok (.mk 5 0 0 t0.text [] l) ts3 := by
      rw [hR]
      show (if curK (t1 :: r1) ≠ s_lp then _ else _) = _
      rw [if_neg (fun h => h hk1)]
    repeat' ((conv => whnf); first | refine ztT ?_ | (refine ztB ?_ ?_ <;> intro _ <;> try (exfalso; omega)) | (refine ztW ?_; clear H; intro _ _ H _) | fail)
    (((conv => whnf); refine Cl.mk (deeper_r X d ⟨t1 :: r1, none⟩ _ (by omega) (H.base2 HB) (H.atC 2 rfl) (List.cons_ne_nil _ _)) ?_); rintro _ w3 ⟨rfl, H'⟩)
    by_cases h40 : d + 1 ≤ 40
    case neg =>
      obtain ⟨g1, g2⟩ := hd2 h40
      rw [g1] at hR
      replace hR : R = .err 144 (curT (t1 :: r1)).at_ := hR
      rw [if_neg h40, g2] at H'
      rw [decide_eq_false h40]
      replace H := H.upd (c := rq ws A cw pr ⟨t1 :: r1, none⟩) H' rfl (.inl rfl)
      clear H'
      repeat' ((conv => whnf); first | refine ztT ?_ | (refine ztB ?_ ?_ <;> intro _ <;> try (exfalso; omega)) | (refine ztW ?_; clear H; intro _ _ H _) | fail)
      refine ⟨.mk 0 0 0 [] [] none 0 [], _, rfl, ?_, by rw [hR]; exact Vl.err, Hp.trsZ 0 0 0 [] [] H.d0.d0⟩
      rw [hR]; exact ⟨hg1.ends, .inl rfl⟩
    rw [hd1 h40] at hR
    replace hR : R = ((stepP false (t1 :: r1)).and fun _ ts2 => argsP F (d + 1) (ts2.length + 1) [] ts2).map fun p => .mk 5 0 0 t0.text [] p.2 := by
      rw [hR, Res.map, Res.and_bind]; rfl
    rw [if_pos h40] at H'
    rw [decide_eq_true h40]
    replace H := H.upd (c := rq ws A cw pr ⟨t1 :: r1, none⟩) H' rfl (.inl rfl)
    clear H'
    repeat' ((conv => whnf); first | refine ztT ?_ | (refine ztB ?_ ?_ <;> intro _ <;> try (exfalso; omega)) | (refine ztW ?_; clear H; intro _ _ H _) | fail)
    (obtain ⟨j, hj1, hj2, hb0⟩ := H.atC (c := rq ws A cw pr (⟨t1 :: r1, none⟩)) 2 rfl; have hjl := X.lt hj1 (by first | exact List.cons_ne_nil _ _ | assumption); replace H := Hp.ofQ H hb0; clear hb0)
    repeat' ((conv => whnf); first | refine ztT ?_ | (refine ztB ?_ ?_ <;> intro _ <;> try (exfalso; omega)) | (refine ztW ?_; clear H; intro _ _ H _) | fail)
    (have hwj : IntKind.i64.wrap ((j : Int) + 1) = ((j + 1 : Nat) : Int) := w64 rfl (by omega) (by omega); rw [hwj] at H; replace H := Hp.toQ (pr := pr) (s := ⟨r1, none⟩) (k := j + 1) H (List.tail_drop.symm.trans (congrArg List.tail hj1)) (fun e p h => by cases h); clear hwj hj1 hj2 hjl)
    have harg := fun w => args_r Y C (stepP false (t1 :: r1)) (d + 1) ⟨r1, none⟩ w (by omega)
    rw [← hwd] at harg
    ((conv => whnf); refine Cl.mk (harg _ (H.base2 HB) (H.atC 2 rfl) hst1 (Res.map_out (by rw [← hR]; exact hne))) ?_)
    rintro _ w4 ⟨B, c, l, s6, rfl, ha6, hv6, hlen, H'⟩
    replace H' := Hp.trsN 5 0 0 (rText src t0) [] H'
    replace H := H.updn (c := rq ws A cw pr ⟨r1, none⟩) (Hp.swap H') rfl (.inl rfl) (.inl rfl)
    clear H'
    repeat' ((conv => whnf); first | refine ztT ?_ | (refine ztB ?_ ?_ <;> intro _ <;> try (exfalso; omega)) | (refine ztW ?_; clear H; intro _ _ H _) | fail)
    refine ⟨.mk 5 0 0 (rText src t0) [] B c l, s6, rfl, by rw [hR]; exact ha6.map _, ?_, H.sel [0, 2] rfl⟩
    rw [hR]
    refine Vl.map (hv6.mono fun a h1 => ?_)
    simp only [ET.e, id]
    rw [h1, htx]
  have q2 : ¬ rKind (curT (⟨t0 :: r0, none⟩ : RS).ts) = k_name := fun h => c2 (hrk.symm.trans h)
  rw [if_neg c2] at hR
  by_cases c4 : t0.kind = k_min ∨ t0.kind = k_max ∨ t0.kind = k_reduce ∨ t0.kind = k_each
  · have c3 : ¬ t0.kind = s_lp := by rcases c4 with h | h | h | h <;> rw [h] <;> decide
    rw [if_neg c3, if_pos c4] at hR
    have hsp := fun w => special_r Y C d t0 r0 w hd
    have hsp2 : ∀ w', Ext wb w' → RdQ ws A cw pr ⟨t0 :: r0, none⟩ w' → Cl Tryz.prog 149 #[.pointer (some ⟨pr, 0, none⟩), .int .i64 (d : Int)] w' (OkRE ws A cw pr id R w') (fun _ _ => False) := fun w' e q => by
      rw [hR] at hne ⊢
      exact hsp w' e q hg c4 hne
    rcases c4 with c | c | c | c
    all_goals (have q3 := hrk.trans c; (repeat' ((conv => whnf); first | refine ztT ?_ | (refine ztB ?_ ?_ <;> intro _ <;> try (exfalso; omega)) | (refine ztW ?_; clear H; intro _ _ H _) | fail)); ((conv => whnf); refine Cl.mk (hsp2 _ (H.base2 HB) (H.atC 2 rfl)) ?_); rintro _ w4 ⟨⟨kd, o, n, nm, cb, B, c, l⟩, s', rfl, ha', hv', H'⟩; replace H := H.updn (c := rq ws A cw pr ⟨t0 :: r0, none⟩) (Hp.swap H') rfl (.inl rfl) (.inl rfl); clear H'; (repeat' ((conv => whnf); first | refine ztT ?_ | (refine ztB ?_ ?_ <;> intro _ <;> try (exfalso; omega)) | (refine ztW ?_; clear H; intro _ _ H _) | fail)); exact ⟨.mk kd o n nm cb B c l, s', rfl, ha', hv', H.sel [0, 2] rfl⟩)
  rw [if_neg c4] at hR
  have q4 : ¬ rKind (curT (⟨t0 :: r0, none⟩ : RS).ts) = k_min := fun h => c4 (.inl (hrk.symm.trans h))
  have q5 : ¬ rKind (curT (⟨t0 :: r0, none⟩ : RS).ts) = k_max := fun h => c4 (.inr (.inl (hrk.symm.trans h)))
  have q6 : ¬ rKind (curT (⟨t0 :: r0, none⟩ : RS).ts) = k_reduce := fun h => c4 (.inr (.inr (.inl (hrk.symm.trans h))))
  have q7 : ¬ rKind (curT (⟨t0 :: r0, none⟩ : RS).ts) = k_each := fun h => c4 (.inr (.inr (.inr (hrk.symm.trans h))))
  by_cases c3 : t0.kind = s_lp
  · have q3 := hrk.trans c3
    rw [if_pos c3] at hR
    obtain ⟨hd1, hd2⟩ := deep_at Y C (d := d) hg hpl
    have hst := step_at hg.ends hg.ok (by show t0.kind ≠ k_end; rw [c3]; decide)
    repeat' ((conv => whnf); first | refine ztT ?_ | (refine ztB ?_ ?_ <;> intro _ <;> try (exfalso; omega)) | (refine ztW ?_; clear H; intro _ _ H _) | fail)
    (((conv => whnf); refine Cl.mk (deeper_r X d ⟨t0 :: r0, none⟩ _ (by omega) (H.base2 HB) (H.atC 2 rfl) (List.cons_ne_nil _ _)) ?_); rintro _ w3 ⟨rfl, H'⟩)
    by_cases h40 : d + 1 ≤ 40
    case neg =>
      obtain ⟨g1, g2⟩ := hd2 h40
      rw [g1] at hR
      replace hR : R = .err 144 (curT (t0 :: r0)).at_ := hR
      rw [if_neg h40, g2] at H'
      rw [decide_eq_false h40]
      replace H := H.upd (c := rq ws A cw pr ⟨t0 :: r0, none⟩) H' rfl (.inl rfl)
      clear H'
      repeat' ((conv => whnf); first | refine ztT ?_ | (refine ztB ?_ ?_ <;> intro _ <;> try (exfalso; omega)) | (refine ztW ?_; clear H; intro _ _ H _) | fail)
      refine ⟨.mk 0 0 0 [] [] none 0 [], _, rfl, ?_, by rw [hR]; exact Vl.err, Hp.trsZ 0 0 0 [] [] H.d0.d0⟩
      rw [hR]; exact ⟨hg.ends, .inl rfl⟩
    rw [hd1 h40] at hR
    replace hR : R = (((stepP false (t0 :: r0)).and fun _ ts1 => F.expr 0 (d + 1) ts1).and fun _ ts2 => takeP s_rp ts2).map fun p => p.1.2 := by
      rw [hR]
      simp only [Res.map, Res.and_bind]
      rfl
    rw [if_pos h40] at H'
    rw [decide_eq_true h40]
    replace H := H.upd (c := rq ws A cw pr ⟨t0 :: r0, none⟩) H' rfl (.inl rfl)
    clear H'
    repeat' ((conv => whnf); first | refine ztT ?_ | (refine ztB ?_ ?_ <;> intro _ <;> try (exfalso; omega)) | (refine ztW ?_; clear H; intro _ _ H _) | fail)
    (obtain ⟨j, hj1, hj2, hb0⟩ := H.atC (c := rq ws A cw pr (⟨t0 :: r0, none⟩)) 2 rfl; have hjl := X.lt hj1 (by first | exact List.cons_ne_nil _ _ | assumption); replace H := Hp.ofQ H hb0; clear hb0)
    repeat' ((conv => whnf); first | refine ztT ?_ | (refine ztB ?_ ?_ <;> intro _ <;> try (exfalso; omega)) | (refine ztW ?_; clear H; intro _ _ H _) | fail)
    (have hwj : IntKind.i64.wrap ((j : Int) + 1) = ((j + 1 : Nat) : Int) := w64 rfl (by omega) (by omega); rw [hwj] at H; replace H := Hp.toQ (pr := pr) (s := ⟨r0, none⟩) (k := j + 1) H (List.tail_drop.symm.trans (congrArg List.tail hj1)) (fun e p h => by cases h); clear hwj hj1 hj2 hjl)
    have hex := fun w => exprR Y C (stepP false (t0 :: r0)) 0 (d + 1) ⟨r0, none⟩ w (by omega) (by omega)
    rw [← hwd] at hex
    ((conv => whnf); refine Cl.mk (hex _ (H.base2 HB) (H.atC 2 rfl) hst (Res.and_out (Res.map_out (by rw [← hR]; exact hne)))) ?_)
    rintro _ w4 ⟨⟨kd, o, n, nm, cb, B, c, l⟩, s', rfl, ha', hv', H'⟩
    replace H := H.updn (c := rq ws A cw pr ⟨r0, none⟩) (Hp.swap H') rfl (.inl rfl) (.inl rfl)
    clear H'
    ((conv => whnf); refine Al.hp H ?_; clear H; intro p9 _ H _)
    repeat' ((conv => whnf); first | refine ztT ?_ | (refine ztB ?_ ?_ <;> intro _ <;> try (exfalso; omega)) | (refine ztW ?_; clear H; intro _ _ H _) | fail)
    (((conv => whnf); refine Cl.mk (takeRR Y C s_rp ((stepP false (t0 :: r0)).and fun _ ts1 => F.expr 0 (d + 1) ts1) s' _ (H.base2 HB) (H.atC 4 rfl) ha' (by decide) (by decide) (by decide)) ?_); rintro _ w3 ⟨kd_, pp_, tx1, ee_, s2, rfl, ha2, hv2, H'⟩; replace H := H.upd (c := rq ws A cw pr s') H' rfl (.inl rfl); clear H')
    repeat' ((conv => whnf); first | refine ztT ?_ | (refine ztB ?_ ?_ <;> intro _ <;> try (exfalso; omega)) | (refine ztW ?_; clear H; intro _ _ H _) | fail)
    refine ⟨.mk kd o n nm cb B c l, s2, rfl, by rw [hR]; exact ha2.map _, ?_, H.sel [1, 3] rfl⟩
    rw [hR]
    exact Vl.map (g := fun p : (Unit × Ex) × Tk => p.1.2) (Vl.fst hv')
  have q3 : ¬ rKind (curT (⟨t0 :: r0, none⟩ : RS).ts) = s_lp := fun h => c3 (hrk.symm.trans h)
  rw [if_neg c3] at hR
  have hw : wrongR 141 ⟨t0 :: r0, none⟩ = ⟨t0 :: r0, some (141, t0.at_)⟩ := wrong_good rfl hg.ok hpl.cur.1
  repeat' ((conv => whnf); first | refine ztT ?_ | (refine ztB ?_ ?_ <;> intro _ <;> try (exfalso; omega)) | (refine ztW ?_; clear H; intro _ _ H _) | fail)
  ((conv => whnf); refine Cl.mk (wrong_r X 141 ⟨t0 :: r0, none⟩ _ (by decide) (H.base2 HB) (H.atC 2 rfl) (List.cons_ne_nil _ _)) ?_)
  rintro _ w3 H'
  replace H := H.upd (c := rq ws A cw pr ⟨t0 :: r0, none⟩) H' rfl (.inl rfl)
  clear H'
  rw [hw] at H
  repeat' ((conv => whnf); first | refine ztT ?_ | (refine ztB ?_ ?_ <;> intro _ <;> try (exfalso; omega)) | (refine ztW ?_; clear H; intro _ _ H _) | fail)
  refine ⟨.mk 0 0 0 [] [] none 0 [], _, rfl, ?_, by rw [hR]; exact Vl.err, Hp.trsZ 0 0 0 [] [] H.d0.d0⟩
  rw [hR]; exact ⟨hg.ends, .inl rfl⟩
end
end Go.Proofs.YtfnjodpehomgfaaGreatDoor
namespace Go.Proofs.YtfnjodpehomgfaaGreatDoor
open Go Go.Sh Go.Tx
attribute [local irreducible] Blk Ext RdS
def plainQ (F : PF) (d : Nat) (t0 : Tk) (ts : List Tk) : Res St :=
  if t0.kind = k_sync then .ok (.mk 3 [] .zero [] []) ts
  else if t0.kind = k_break then .ok (.mk 8 [] .zero [] []) ts
  else if t0.kind = k_continue then .ok (.mk 9 [] .zero [] []) ts
  else if t0.kind = k_do then (F.expr 0 d ts).bind fun e ts1 => .ok (.mk 6 [] e [] []) ts1
  else if t0.kind = k_return then (F.expr 0 d ts).bind fun e ts1 => .ok (.mk 7 [] e [] []) ts1
  else if t0.kind = k_spawn then (takeP k_name ts).bind fun n ts1 => (takeP s_asg ts1).bind fun _ ts2 => (takeP k_name ts2).bind fun f ts3 => (takeP s_lp ts3).bind fun _ ts4 => (argsP F d (ts4.length + 1) [] ts4).bind fun l ts5 => .ok (.mk 2 n.text (.mk 5 0 0 f.text [] l) [] []) ts5
  else if t0.kind = k_let then (takeP k_name ts).bind fun n ts1 => (takeP s_asg ts1).bind fun _ ts2 => (F.expr 0 d ts2).bind fun e ts3 => .ok (.mk 0 n.text e [] []) ts3
  else (takeP s_asg ts).bind fun _ ts1 => (F.expr 0 d ts1).bind fun e ts2 => .ok (.mk 1 t0.text e [] []) ts2
theorem plain_Q (F : PF) (d : Nat) (t0 : Tk) (r0 : List Tk) : plainP F d (t0 :: r0) = (stepP false (t0 :: r0)).bind fun _ ts => plainQ F d t0 ts := rfl
section
variable {src : Bs} {ws : List Tk} {A : Option Addr} {cw pr : Nat} {wb : World}
variable (Y : RY src ws A cw pr wb) {F : PF} (C : RCon src ws A cw pr wb F)
include Y C
set_option maxHeartbeats 8000000 in
theorem plain_r (R0 : Res Unit) (d : Nat) (t0 : Tk) (s : RS) (w : World) (hd : d ≤ 41) (hwb : Ext wb w) (h : RdQ ws A cw pr s w) (ha : AtR R0 s) (hrk : rKind t0 = t0.kind) (herr : t0.err = 0) (hbg : beginsB t0.kind = true) (hni : t0.kind ≠ k_if) (hnw : t0.kind ≠ k_while) (hne : (R0.bind fun _ ts => plainQ F d t0 ts) ≠ .out) :
    Cl Tryz.prog 107 #[.pointer (some ⟨pr, 0, none⟩), .agg (rwE src t0).toArray, .int .i64 (d : Int)] w (OkRS ws A cw pr id (R0.bind fun _ ts => plainQ F d t0 ts) w) (fun _ _ => False) := by
  have X := Y.x
  have HB := X.ok hwb
  have htx : rText src t0 = t0.text := by unfold rText; rw [if_neg (by rw [herr]; decide)]
  obtain ⟨R, hR⟩ : ∃ R, R = R0.bind fun _ ts => plainQ F d t0 ts := ⟨_, rfl⟩
  rw [← hR] at hne ⊢
  refine calls_ex (args := [.pointer (some ⟨pr, 0, none⟩), .agg (rwE src t0).toArray, .int .i64 (d : Int)]) T.ok Tryz.func107 rfl rfl rfl rfl ?_
  have H := Hp.start (S := (· = pr)) (rq_ok h) (fun k hk => hk)
  clear h
  refine Sq.mk ?_
  ((conv => whnf); refine Al.hp H ?_; clear H; intro p4 _ H _)
  ((conv => whnf); refine Al.hp H ?_; clear H; intro p6 _ H _)
  by_cases c7 : t0.kind = k_let
  · have q := hrk.trans c7
    replace hR : R = (((R0.and fun _ ts => takeP k_name ts).and fun _ ts => takeP s_asg ts).and fun _ ts => F.expr 0 d ts).map (fun p => .mk 0 p.1.1.2.text p.2 [] []) := by
      rw [hR]
      simp only [Res.map, Res.and_bind, plainQ]
      rw [c7]; rfl
    repeat' ((conv => whnf); first | refine ztT ?_ | (refine ztB ?_ ?_ <;> intro _ <;> try (exfalso; omega)) | (refine ztW ?_; clear H; intro _ _ H _) | fail)
    (((conv => whnf); refine Cl.mk (takeRR Y C k_name (R0) s _ (H.base2 HB) (H.atC 2 rfl) ha (by decide) (by decide) (by decide)) ?_); rintro _ w3 ⟨kd_, pp_, tx1, ee_, s1, rfl, ha1, hv1, H'⟩; replace H := H.upd (c := rq ws A cw pr s) H' rfl (.inl rfl); clear H')
    ((conv => whnf); refine Al.hp H ?_; clear H; intro p7 _ H _)
    repeat' ((conv => whnf); first | refine ztT ?_ | (refine ztB ?_ ?_ <;> intro _ <;> try (exfalso; omega)) | (refine ztW ?_; clear H; intro _ _ H _) | fail)
    (((conv => whnf); refine Cl.mk (takeRR Y C s_asg ((R0.and fun _ ts => takeP k_name ts)) s1 _ (H.base2 HB) (H.atC 3 rfl) ha1 (by decide) (by decide) (by decide)) ?_); rintro _ w3 ⟨kd_, pp_, tx2, ee_, s2, rfl, ha2, hv2, H'⟩; replace H := H.upd (c := rq ws A cw pr s1) H' rfl (.inl rfl); clear H')
    repeat' ((conv => whnf); first | refine ztT ?_ | (refine ztB ?_ ?_ <;> intro _ <;> try (exfalso; omega)) | (refine ztW ?_; clear H; intro _ _ H _) | fail)
    (((conv => whnf); refine Cl.mk (exprR Y C ((R0.and fun _ ts => takeP k_name ts).and fun _ ts => takeP s_asg ts) 0 d s2 _ (by omega) hd (H.base2 HB) (H.atC 3 rfl) ha2 (Res.map_out (g := (fun p => Go.Tx.St.mk 0 p.1.1.2.text p.2 [] [])) (by rw [← hR]; exact hne))) ?_); rintro _ w3 ⟨⟨kd, o, n, nm, cb, B, c, l⟩, s3, rfl, ha3, hv3, H'⟩; replace H := H.updn (c := rq ws A cw pr s2) (Hp.swap H') rfl (.inl rfl) (.inl rfl); clear H')
    ((conv => whnf); refine Al.hp H ?_; clear H; intro p8 _ H _)
    repeat' ((conv => whnf); first | refine ztT ?_ | (refine ztB ?_ ?_ <;> intro _ <;> try (exfalso; omega)) | (refine ztW ?_; clear H; intro _ _ H _) | fail)
    refine ⟨.mk 0 tx1 (.mk kd o n nm cb B c l) none 0 [] none 0 [], s3, sm_v rfl, by rw [hR]; exact ha3.map _, ?_, Hp.stsE 0 tx1 (H.sel [1, 4] rfl)⟩
    rw [hR]
    refine Vl.map (Vl.mono2 hv3 (Vl.fst (Vl.fst hv1)) fun a h1 h2 => ?_)
    simp only [SM.e, SM.es, id]
    rw [h1, h2]
  by_cases c6 : t0.kind = k_spawn
  · have q := hrk.trans c6
    replace hR : R = (((((R0.and fun _ ts => takeP k_name ts).and fun _ ts => takeP s_asg ts).and fun _ ts => takeP k_name ts).and fun _ ts => takeP s_lp ts).and fun _ ts => argsP F d (ts.length + 1) [] ts).map (fun p => .mk 2 p.1.1.1.1.2.text (.mk 5 0 0 p.1.1.2.text [] p.2) [] []) := by
      rw [hR]
      simp only [Res.map, Res.and_bind, plainQ]
      rw [c6]; rfl
    repeat' ((conv => whnf); first | refine ztT ?_ | (refine ztB ?_ ?_ <;> intro _ <;> try (exfalso; omega)) | (refine ztW ?_; clear H; intro _ _ H _) | fail)
    (((conv => whnf); refine Cl.mk (takeRR Y C k_name (R0) s _ (H.base2 HB) (H.atC 2 rfl) ha (by decide) (by decide) (by decide)) ?_); rintro _ w3 ⟨kd_, pp_, tx1, ee_, s1, rfl, ha1, hv1, H'⟩; replace H := H.upd (c := rq ws A cw pr s) H' rfl (.inl rfl); clear H')
    ((conv => whnf); refine Al.hp H ?_; clear H; intro p7 _ H _)
    repeat' ((conv => whnf); first | refine ztT ?_ | (refine ztB ?_ ?_ <;> intro _ <;> try (exfalso; omega)) | (refine ztW ?_; clear H; intro _ _ H _) | fail)
    (((conv => whnf); refine Cl.mk (takeRR Y C s_asg ((R0.and fun _ ts => takeP k_name ts)) s1 _ (H.base2 HB) (H.atC 3 rfl) ha1 (by decide) (by decide) (by decide)) ?_); rintro _ w3 ⟨kd_, pp_, tx2, ee_, s2, rfl, ha2, hv2, H'⟩; replace H := H.upd (c := rq ws A cw pr s1) H' rfl (.inl rfl); clear H')
    repeat' ((conv => whnf); first | refine ztT ?_ | (refine ztB ?_ ?_ <;> intro _ <;> try (exfalso; omega)) | (refine ztW ?_; clear H; intro _ _ H _) | fail)
    (((conv => whnf); refine Cl.mk (takeRR Y C k_name (((R0.and fun _ ts => takeP k_name ts).and fun _ ts => takeP s_asg ts)) s2 _ (H.base2 HB) (H.atC 3 rfl) ha2 (by decide) (by decide) (by decide)) ?_); rintro _ w3 ⟨kd_, pp_, tx3, ee_, s3, rfl, ha3, hv3, H'⟩; replace H := H.upd (c := rq ws A cw pr s2) H' rfl (.inl rfl); clear H')
    ((conv => whnf); refine Al.hp H ?_; clear H; intro p8 _ H _)
    repeat' ((conv => whnf); first | refine ztT ?_ | (refine ztB ?_ ?_ <;> intro _ <;> try (exfalso; omega)) | (refine ztW ?_; clear H; intro _ _ H _) | fail)
    (((conv => whnf); refine Cl.mk (takeRR Y C s_lp ((((R0.and fun _ ts => takeP k_name ts).and fun _ ts => takeP s_asg ts).and fun _ ts => takeP k_name ts)) s3 _ (H.base2 HB) (H.atC 4 rfl) ha3 (by decide) (by decide) (by decide)) ?_); rintro _ w3 ⟨kd_, pp_, tx4, ee_, s4, rfl, ha4, hv4, H'⟩; replace H := H.upd (c := rq ws A cw pr s3) H' rfl (.inl rfl); clear H')
    repeat' ((conv => whnf); first | refine ztT ?_ | (refine ztB ?_ ?_ <;> intro _ <;> try (exfalso; omega)) | (refine ztW ?_; clear H; intro _ _ H _) | fail)
    ((conv => whnf); refine Cl.mk (args_r Y C ((((R0.and fun _ ts => takeP k_name ts).and fun _ ts => takeP s_asg ts).and fun _ ts => takeP k_name ts).and fun _ ts => takeP s_lp ts) d s4 _ hd (H.base2 HB) (H.atC 4 rfl) ha4 (Res.map_out (by rw [← hR]; exact hne))) ?_)
    rintro _ w4 ⟨B, c, l, s6, rfl, ha6, hv6, hlen, H'⟩
    replace H' := Hp.trsN 5 0 0 tx3 [] H'
    replace H := H.updn (c := rq ws A cw pr s4) (Hp.swap H') rfl (.inl rfl) (.inl rfl)
    clear H'
    repeat' ((conv => whnf); first | refine ztT ?_ | (refine ztB ?_ ?_ <;> intro _ <;> try (exfalso; omega)) | (refine ztW ?_; clear H; intro _ _ H _) | fail)
    refine ⟨.mk 2 tx1 (.mk 5 0 0 tx3 [] B c l) none 0 [] none 0 [], s6, sm_v rfl, by rw [hR]; exact ha6.map _, ?_, Hp.stsE 2 tx1 (H.sel [0, 4] rfl)⟩
    rw [hR]
    refine Vl.map (Vl.mono2 (Vl.mono2 hv6 (Vl.fst (Vl.fst (Vl.fst (Vl.fst hv1)))) fun a h1 h2 => And.intro h1 h2) (Vl.fst (Vl.fst hv3)) fun a h1 h2 => ?_)
    simp only [SM.e, SM.es, ET.e, id]
    rw [h1.1, h1.2, h2]
  have n7 : ¬ rKind t0 = k_let := fun h => c7 (hrk.symm.trans h)
  have n6 : ¬ rKind t0 = k_spawn := fun h => c6 (hrk.symm.trans h)
  by_cases c1 : t0.kind = k_sync
  · have q := hrk.trans c1
    replace hR : R = R0.map (fun _ => .mk 3 [] .zero [] []) := by
      rw [hR]
      simp only [Res.map, plainQ]
      rw [c1]; rfl
    repeat' ((conv => whnf); first | refine ztT ?_ | (refine ztB ?_ ?_ <;> intro _ <;> try (exfalso; omega)) | (refine ztW ?_; clear H; intro _ _ H _) | fail)
    refine ⟨.mk 3 [] (.mk 0 0 0 [] [] none 0 []) none 0 [] none 0 [], s, sm_v rfl, by rw [hR]; exact ha.map _, ?_, Hp.stsE 3 [] (Hp.trsZ 0 0 0 [] [] (H.sel [2] rfl))⟩
    rw [hR]
    exact Vl.map (g := fun _ => Go.Tx.St.mk 3 [] .zero [] []) (fun _ _ _ => rfl)
  have n1 : ¬ rKind t0 = k_sync := fun h => c1 (hrk.symm.trans h)
  by_cases c2 : t0.kind = k_break
  · have q := hrk.trans c2
    replace hR : R = R0.map (fun _ => .mk 8 [] .zero [] []) := by
      rw [hR]
      simp only [Res.map, plainQ]
      rw [c2]; rfl
    repeat' ((conv => whnf); first | refine ztT ?_ | (refine ztB ?_ ?_ <;> intro _ <;> try (exfalso; omega)) | (refine ztW ?_; clear H; intro _ _ H _) | fail)
    refine ⟨.mk 8 [] (.mk 0 0 0 [] [] none 0 []) none 0 [] none 0 [], s, sm_v rfl, by rw [hR]; exact ha.map _, ?_, Hp.stsE 8 [] (Hp.trsZ 0 0 0 [] [] (H.sel [2] rfl))⟩
    rw [hR]
    exact Vl.map (g := fun _ => Go.Tx.St.mk 8 [] .zero [] []) (fun _ _ _ => rfl)
  have n2 : ¬ rKind t0 = k_break := fun h => c2 (hrk.symm.trans h)
  by_cases c3 : t0.kind = k_continue
  · have q := hrk.trans c3
    replace hR : R = R0.map (fun _ => .mk 9 [] .zero [] []) := by
      rw [hR]
      simp only [Res.map, plainQ]
      rw [c3]; rfl
    repeat' ((conv => whnf); first | refine ztT ?_ | (refine ztB ?_ ?_ <;> intro _ <;> try (exfalso; omega)) | (refine ztW ?_; clear H; intro _ _ H _) | fail)
    refine ⟨.mk 9 [] (.mk 0 0 0 [] [] none 0 []) none 0 [] none 0 [], s, sm_v rfl, by rw [hR]; exact ha.map _, ?_, Hp.stsE 9 [] (Hp.trsZ 0 0 0 [] [] (H.sel [2] rfl))⟩
    rw [hR]
    exact Vl.map (g := fun _ => Go.Tx.St.mk 9 [] .zero [] []) (fun _ _ _ => rfl)
  have n3 : ¬ rKind t0 = k_continue := fun h => c3 (hrk.symm.trans h)
  by_cases c4 : t0.kind = k_do
  · have q := hrk.trans c4
    replace hR : R = (R0.and fun _ ts => F.expr 0 d ts).map (fun p => .mk 6 [] p.2 [] []) := by
      rw [hR]
      simp only [Res.map, Res.and_bind, plainQ]
      rw [c4]; rfl
    repeat' ((conv => whnf); first | refine ztT ?_ | (refine ztB ?_ ?_ <;> intro _ <;> try (exfalso; omega)) | (refine ztW ?_; clear H; intro _ _ H _) | fail)
    (((conv => whnf); refine Cl.mk (exprR Y C (R0) 0 d s _ (by omega) hd (H.base2 HB) (H.atC 2 rfl) ha (Res.map_out (g := (fun p => Go.Tx.St.mk 6 [] p.2 [] [])) (by rw [← hR]; exact hne))) ?_); rintro _ w3 ⟨⟨kd, o, n, nm, cb, B, c, l⟩, s3, rfl, ha3, hv3, H'⟩; replace H := H.updn (c := rq ws A cw pr s) (Hp.swap H') rfl (.inl rfl) (.inl rfl); clear H')
    ((conv => whnf); refine Al.hp H ?_; clear H; intro p8 _ H _)
    repeat' ((conv => whnf); first | refine ztT ?_ | (refine ztB ?_ ?_ <;> intro _ <;> try (exfalso; omega)) | (refine ztW ?_; clear H; intro _ _ H _) | fail)
    refine ⟨.mk 6 [] (.mk kd o n nm cb B c l) none 0 [] none 0 [], s3, sm_v rfl, by rw [hR]; exact ha3.map _, ?_, Hp.stsE 6 [] (H.sel [1, 3] rfl)⟩
    rw [hR]
    refine Vl.map (hv3.mono fun a h1 => ?_)
    simp only [SM.e, SM.es, id]
    rw [h1]
  have n4 : ¬ rKind t0 = k_do := fun h => c4 (hrk.symm.trans h)
  by_cases c5 : t0.kind = k_return
  · have q := hrk.trans c5
    replace hR : R = (R0.and fun _ ts => F.expr 0 d ts).map (fun p => .mk 7 [] p.2 [] []) := by
      rw [hR]
      simp only [Res.map, Res.and_bind, plainQ]
      rw [c5]; rfl
    repeat' ((conv => whnf); first | refine ztT ?_ | (refine ztB ?_ ?_ <;> intro _ <;> try (exfalso; omega)) | (refine ztW ?_; clear H; intro _ _ H _) | fail)
    (((conv => whnf); refine Cl.mk (exprR Y C (R0) 0 d s _ (by omega) hd (H.base2 HB) (H.atC 2 rfl) ha (Res.map_out (g := (fun p => Go.Tx.St.mk 7 [] p.2 [] [])) (by rw [← hR]; exact hne))) ?_); rintro _ w3 ⟨⟨kd, o, n, nm, cb, B, c, l⟩, s3, rfl, ha3, hv3, H'⟩; replace H := H.updn (c := rq ws A cw pr s) (Hp.swap H') rfl (.inl rfl) (.inl rfl); clear H')
    ((conv => whnf); refine Al.hp H ?_; clear H; intro p8 _ H _)
    repeat' ((conv => whnf); first | refine ztT ?_ | (refine ztB ?_ ?_ <;> intro _ <;> try (exfalso; omega)) | (refine ztW ?_; clear H; intro _ _ H _) | fail)
    refine ⟨.mk 7 [] (.mk kd o n nm cb B c l) none 0 [] none 0 [], s3, sm_v rfl, by rw [hR]; exact ha3.map _, ?_, Hp.stsE 7 [] (H.sel [1, 3] rfl)⟩
    rw [hR]
    refine Vl.map (hv3.mono fun a h1 => ?_)
    simp only [SM.e, SM.es, id]
    rw [h1]
  have n5 : ¬ rKind t0 = k_return := fun h => c5 (hrk.symm.trans h)
  replace hR : R = ((R0.and fun _ ts => takeP s_asg ts).and fun _ ts => F.expr 0 d ts).map (fun p => .mk 1 t0.text p.2 [] []) := by
    rw [hR]
    simp only [Res.map, Res.and_bind, plainQ, if_neg c1, if_neg c2, if_neg c3, if_neg c4, if_neg c5, if_neg c6, if_neg c7]
  repeat' ((conv => whnf); first | refine ztT ?_ | (refine ztB ?_ ?_ <;> intro _ <;> try (exfalso; omega)) | (refine ztW ?_; clear H; intro _ _ H _) | fail)
  (((conv => whnf); refine Cl.mk (takeRR Y C s_asg (R0) s _ (H.base2 HB) (H.atC 2 rfl) ha (by decide) (by decide) (by decide)) ?_); rintro _ w3 ⟨kd_, pp_, tx2, ee_, s2, rfl, ha2, hv2, H'⟩; replace H := H.upd (c := rq ws A cw pr s) H' rfl (.inl rfl); clear H')
  repeat' ((conv => whnf); first | refine ztT ?_ | (refine ztB ?_ ?_ <;> intro _ <;> try (exfalso; omega)) | (refine ztW ?_; clear H; intro _ _ H _) | fail)
  (((conv => whnf); refine Cl.mk (exprR Y C (R0.and fun _ ts => takeP s_asg ts) 0 d s2 _ (by omega) hd (H.base2 HB) (H.atC 2 rfl) ha2 (Res.map_out (g := (fun p => Go.Tx.St.mk 1 t0.text p.2 [] [])) (by rw [← hR]; exact hne))) ?_); rintro _ w3 ⟨⟨kd, o, n, nm, cb, B, c, l⟩, s3, rfl, ha3, hv3, H'⟩; replace H := H.updn (c := rq ws A cw pr s2) (Hp.swap H') rfl (.inl rfl) (.inl rfl); clear H')
  ((conv => whnf); refine Al.hp H ?_; clear H; intro p8 _ H _)
  repeat' ((conv => whnf); first | refine ztT ?_ | (refine ztB ?_ ?_ <;> intro _ <;> try (exfalso; omega)) | (refine ztW ?_; clear H; intro _ _ H _) | fail)
  refine ⟨.mk 1 (rText src t0) (.mk kd o n nm cb B c l) none 0 [] none 0 [], s3, sm_v rfl, by rw [hR]; exact ha3.map _, ?_, Hp.stsE 1 (rText src t0) (H.sel [1, 3] rfl)⟩
  rw [hR]
  refine Vl.map (hv3.mono fun a h1 => ?_)
  simp only [SM.e, SM.es, id]
  rw [h1, htx]
end
end Go.Proofs.YtfnjodpehomgfaaGreatDoor
namespace Go.Proofs.YtfnjodpehomgfaaGreatDoor
open Go Go.Sh Go.Tx
attribute [local irreducible] Blk Ext RdS
set_option maxHeartbeats 4000000 in
theorem begins_r (k : Bs) (w : World) : Cl Tryz.prog 104 #[.string (bs k)] w (fun v w' => v = .bool (beginsB k) ∧ Ext w w') (fun _ _ => False) := by
  refine calls_ex (args := [.string (bs k)]) T.ok Tryz.func104 rfl rfl rfl rfl ?_
  have H := Hp.begin nw w
  by_cases hbg : beginsB k = true
  · rw [hbg]
    simp only [beginsB, Bool.or_eq_true, beq_iff_eq] at hbg
    rcases hbg with ((((((((h | h) | h) | h) | h) | h) | h) | h) | h) | h <;> subst h
    all_goals (repeat' ((conv => whnf); first | refine ztS ?_ | (refine ztB ?_ ?_ <;> intro _ <;> try (exfalso; omega)) | (refine ztA ?_; clear H; intro _ _ H _) | fail))
    all_goals exact ⟨rfl, H.e⟩
  · rw [Bool.eq_false_iff.2 hbg]
    have hno : ∀ x, beginsB x = true → ¬ k = x := fun x hk e => hbg (by rw [e]; exact hk)
    have n1 := hno k_let (by decide)
    have n2 := hno k_spawn (by decide)
    have n3 := hno k_sync (by decide)
    have n4 := hno k_if (by decide)
    have n5 := hno k_while (by decide)
    have n6 := hno k_do (by decide)
    have n7 := hno k_return (by decide)
    have n8 := hno k_break (by decide)
    have n9 := hno k_continue (by decide)
    have n10 := hno k_name (by decide)
    repeat' ((conv => whnf); first | refine ztT ?_ | (refine ztB ?_ ?_ <;> intro _ <;> try (exfalso; omega)) | (refine ztA ?_; clear H; intro _ _ H _) | fail)
    exact ⟨rfl, H.e⟩
theorem takeR_doom {k : Bs} {e : Int} {p : Nat} {s : RS} (ha : Doom e p s) (h1 : k ≠ k_bad) (h2 : k ≠ k_least) : takeR k s = ⟨s.ts, some (e, p)⟩ := by
  unfold takeR
  split
  · rename_i x hx
    rcases ha with h | ⟨h, _⟩
    · obtain ⟨ts, sp⟩ := s; simp only at h; subst h; rfl
    · rw [hx] at h; cases h
  · rename_i hx
    rw [if_neg, wrong_doom ha]
    intro hr
    rcases ha with h | ⟨_, h⟩
    · rw [hx] at h; cases h
    · rcases (chk_err h).1 with g | g
      · exact h1 (hr.symm.trans g)
      · exact h2 (hr.symm.trans g)
def choiceQ (F : PF) (d : Nat) (ts1 : List Tk) : Res St := (F.expr 0 d ts1).bind fun e ts2 => (F.block (d + 1) ts2).bind fun b ts3 =>
  if curK ts3 ≠ k_else then .ok (.mk 4 [] e b []) ts3
  else (stepP false ts3).bind fun _ ts4 =>
    if curK ts4 = k_if then (deepP (d + 1) ts4).bind fun _ ts4 => (F.choice (d + 1) ts4).bind fun x ts5 => .ok (.mk 4 [] e b [x]) ts5
    else (F.block (d + 1) ts4).bind fun c ts5 => .ok (.mk 4 [] e b c) ts5
theorem choice_Q (F : PF) (d : Nat) {ts : List Tk} (h : curK ts = k_if) : choiceP F d ts = (stepP false ts).bind fun _ ts1 => choiceQ F d ts1 := by
  unfold choiceP takeP
  rw [if_neg (fun e => e h)]
  cases stepP false ts <;> rfl
section
variable {src : Bs} {ws : List Tk} {A : Option Addr} {cw pr : Nat} {wb : World}
variable (Y : RY src ws A cw pr wb)
include Y
theorem blockD (d : Nat) (s : RS) (w : World) {e : Int} {p : Nat} (hwb : Ext wb w) (h : RdQ ws A cw pr s w) (ha : AtR (.err e p : Res Unit) s) : Cl Tryz.prog 54 #[.pointer (some ⟨pr, 0, none⟩), .int .i64 (d : Int)] w (fun v w' => ∃ B c l, v = .slice B l.length c ∧ Hp (· = pr) w w' [stl B c l, rq ws A cw pr ⟨s.ts, some (e, p)⟩]) (fun _ _ => False) := by
  have X := Y.x
  have HB := X.ok hwb
  have hts := ends_ne ha.ends
  refine calls_ex (args := [.pointer (some ⟨pr, 0, none⟩), .int .i64 (d : Int)]) T.ok Tryz.func54 rfl rfl rfl rfl ?_
  have H := Hp.start (S := (· = pr)) (rq_ok h) (fun k hk => hk)
  repeat' ((conv => whnf); first | refine ztS ?_ | (refine ztB ?_ ?_ <;> intro _ <;> try (exfalso; omega)) | (refine ztW ?_; clear H; intro _ _ H _) | fail)
  ((conv => whnf); refine Cl.mk (take_r X s_lb s _ (H.base2 HB) (H.atC 0 rfl) hts) ?_)
  rintro _ w3 ⟨rfl, H'⟩
  rw [takeR_doom ha.at_ (by decide) (by decide)] at H'
  replace H := H.upd (c := rq ws A cw pr s) H' rfl (.inl rfl)
  clear H'
  repeat' ((conv => whnf); first | refine ztS ?_ | (refine ztB ?_ ?_ <;> intro _ <;> try (exfalso; omega)) | (refine ztW ?_; clear H; intro _ _ H _) | fail)
  refine Lp.g0 T.ok (σ := Unit) (fun q => [(5, .slice none 0 0), (0, .pointer (some ⟨pr, 0, none⟩))])
    (fun q w' => Hp (· = pr) w w' [rq ws A cw pr ⟨s.ts, some (e, p)⟩]) (fun q _ => 0) () rfl ⟨rfl, rfl, trivial⟩ H ?_
  clear H
  rintro _ w5 H
  repeat' ((conv => whnf); first | refine ztS ?_ | (refine ztB ?_ ?_ <;> intro _ <;> try (exfalso; omega)) | (refine ztW ?_; clear H; intro _ _ H _) | fail)
  (((conv => whnf); refine Cl.mk (fine_r X ⟨s.ts, some (e, p)⟩ _ (H.atC 0 rfl)) ?_); rintro _ _ ⟨rfl, hx⟩; replace H := H.ext hx; clear hx)
  repeat' ((conv => whnf); first | refine ztS ?_ | (refine ztB ?_ ?_ <;> intro _ <;> try (exfalso; omega)) | (refine ztW ?_; clear H; intro _ _ H _) | fail)
  ((conv => whnf); refine Cl.mk (take_r X s_rb ⟨s.ts, some (e, p)⟩ _ (H.base2 HB) (H.atC 0 rfl) hts) ?_)
  rintro _ w3 ⟨rfl, H'⟩
  rw [takeR_doom (.inl rfl) (by decide) (by decide)] at H'
  replace H := H.upd (c := rq ws A cw pr ⟨s.ts, some (e, p)⟩) H' rfl (.inl rfl)
  clear H'
  repeat' ((conv => whnf); first | refine ztS ?_ | (refine ztB ?_ ?_ <;> intro _ <;> try (exfalso; omega)) | (refine ztW ?_; clear H; intro _ _ H _) | fail)
  exact ⟨none, 0, [], rfl, Hp.stl0 H⟩
theorem stmtD (d : Nat) (ts : List Tk) (w : World) {e : Int} {p : Nat} (hwb : Ext wb w) (h : RdQ ws A cw pr ⟨ts, none⟩ w) (ha : AtR (.err e p : Res Unit) ⟨ts, none⟩) : Cl Tryz.prog 83 #[.pointer (some ⟨pr, 0, none⟩), .int .i64 (d : Int)] w (fun v w' => ∃ t, v = SM.v t ∧ Hp (· = pr) w w' [sts [t], rq ws A cw pr ⟨ts, some (e, p)⟩]) (fun _ _ => False) := by
  have X := Y.x
  have HB := X.ok hwb
  have hts := ends_ne ha.ends
  have hck : chk ts = .err e p := by
    rcases ha.at_ with h | ⟨_, h⟩
    · cases h
    · exact h
  have hbg : beginsB (rKind (curT ts)) = false := by rcases (chk_err hck).1 with h | h <;> rw [h] <;> decide
  refine calls_ex (args := [.pointer (some ⟨pr, 0, none⟩), .int .i64 (d : Int)]) T.ok Tryz.func83 rfl rfl rfl rfl ?_
  have H := Hp.start (S := (· = pr)) (rq_ok h) (fun k hk => hk)
  refine Sq.mk ?_
  ((conv => whnf); refine Al.hp H ?_; clear H; intro p4 _ H _)
  repeat' ((conv => whnf); first | refine ztS ?_ | (refine ztB ?_ ?_ <;> intro _ <;> try (exfalso; omega)) | (refine ztW ?_; clear H; intro _ _ H _) | fail)
  (((conv => whnf); refine Cl.mk (next_r X ⟨ts, none⟩ _ (H.base2 HB) (H.atC 1 rfl) hts) ?_); rintro _ _ ⟨rfl, hx⟩; replace H := H.ext hx; clear hx)
  ((conv => whnf); refine Al.hp H ?_; clear H; intro p5 _ H _)
  repeat' ((conv => whnf); first | refine ztS ?_ | (refine ztB ?_ ?_ <;> intro _ <;> try (exfalso; omega)) | (refine ztW ?_; clear H; intro _ _ H _) | fail)
  (((conv => whnf); refine Cl.mk (begins_r (rKind (curT ts)) _) ?_); rintro _ _ ⟨rfl, hx⟩; replace H := H.ext hx; clear hx)
  rw [hbg]
  repeat' ((conv => whnf); first | refine ztS ?_ | (refine ztB ?_ ?_ <;> intro _ <;> try (exfalso; omega)) | (refine ztW ?_; clear H; intro _ _ H _) | fail)
  ((conv => whnf); refine Cl.mk (wrong_r X 141 ⟨ts, none⟩ _ (by decide) (H.base2 HB) (H.atC 2 rfl) hts) ?_)
  rintro _ w3 H'
  rw [wrong_doom ha.at_] at H'
  replace H := H.upd (c := rq ws A cw pr ⟨ts, none⟩) H' rfl (.inl rfl)
  clear H'
  repeat' ((conv => whnf); first | refine ztS ?_ | (refine ztB ?_ ?_ <;> intro _ <;> try (exfalso; omega)) | (refine ztW ?_; clear H; intro _ _ H _) | fail)
  exact ⟨.mk 0 [] (.mk 0 0 0 [] [] none 0 []) none 0 [] none 0 [], sm_v rfl, Hp.stsE 0 [] (Hp.trsZ 0 0 0 [] [] (H.sel [2] rfl))⟩
variable {F : PF} (C : RCon src ws A cw pr wb F)
include C
theorem blockR {α : Type} (R0 : Res α) (d : Nat) (s : RS) (w : World) (hd : d ≤ 41) (hwb : Ext wb w) (h : RdQ ws A cw pr s w) (ha : AtR R0 s) (hne : (R0.and fun _ ts => F.block d ts) ≠ .out) :
    Cl Tryz.prog 54 #[.pointer (some ⟨pr, 0, none⟩), .int .i64 (d : Int)] w (OkRB ws A cw pr Prod.snd (R0.and fun _ ts => F.block d ts) w) (fun _ _ => False) := by
  cases R0 with
  | out => exact absurd rfl hne
  | err e p =>
    refine Cl.mkX (blockD Y d s w hwb h ha.toErr) (fun v w' q => ?_) (fun _ _ h => h)
    obtain ⟨B, c, l, h1, h4⟩ := q
    exact ⟨B, c, l, ⟨s.ts, some (e, p)⟩, h1, ⟨ha.ends, .inl rfl⟩, Vl.err, h4⟩
  | ok a ts =>
    obtain ⟨rfl, hg⟩ := ha.gd
    refine Cl.mkX (C.block d ts w hd hwb h hg (Res.and_ok_out (f := fun _ ts => F.block d ts) hne)) (fun v w' q => ?_) (fun _ _ h => h)
    obtain ⟨B, c, l, s', h1, h2, h3, h4⟩ := q
    exact ⟨B, c, l, s', h1, AtR.ok_and (f := fun _ ts => F.block d ts) h2, Vl.ok_and (f := fun _ ts => F.block d ts) h3, h4⟩
set_option maxHeartbeats 8000000 in
theorem choice_r (R0 : Res Unit) (d : Nat) (s : RS) (w : World) (hd : d ≤ 40) (hwb : Ext wb w) (h : RdQ ws A cw pr s w) (ha : AtR R0 s) (hne : (R0.bind fun _ ts => choiceQ F d ts) ≠ .out) :
    Cl Tryz.prog 105 #[.pointer (some ⟨pr, 0, none⟩), .int .i64 (d : Int)] w (OkRS ws A cw pr id (R0.bind fun _ ts => choiceQ F d ts) w) (fun _ _ => False) := by
  have X := Y.x
  have HB := X.ok hwb
  have hwd : IntKind.i64.wrap ((d : Int) + 1) = ((d + 1 : Nat) : Int) := w64 rfl (by omega) (by omega)
  obtain ⟨R, hR⟩ : ∃ R, R = R0.bind fun _ ts => choiceQ F d ts := ⟨_, rfl⟩
  rw [← hR] at hne ⊢
  refine calls_ex (args := [.pointer (some ⟨pr, 0, none⟩), .int .i64 (d : Int)]) T.ok Tryz.func105 rfl rfl rfl rfl ?_
  have H := Hp.start (S := (· = pr)) (rq_ok h) (fun k hk => hk)
  clear h
  refine Sq.mk ?_
  ((conv => whnf); refine Al.hp H ?_; clear H; intro p4 _ H _)
  repeat' ((conv => whnf); first | refine ztT ?_ | (refine ztB ?_ ?_ <;> intro _ <;> try (exfalso; omega)) | (refine ztW ?_; clear H; intro _ _ H _) | fail)
  replace hR : R = ((R0.and fun _ ts => F.expr 0 d ts).and fun _ ts => F.block (d + 1) ts).bind fun p ts3 => if curK ts3 ≠ k_else then .ok (.mk 4 [] p.1.2 p.2 []) ts3
      else (stepP false ts3).bind fun _ ts4 => if curK ts4 = k_if then (deepP (d + 1) ts4).bind fun _ ts4 => (F.choice (d + 1) ts4).bind fun x ts5 => .ok (.mk 4 [] p.1.2 p.2 [x]) ts5
      else (F.block (d + 1) ts4).bind fun c ts5 => .ok (.mk 4 [] p.1.2 p.2 c) ts5 := by
    rw [hR]
    simp only [Res.and_bind, choiceQ]
  ((conv => whnf); refine Cl.mk (exprR Y C R0 0 d s _ (by omega) (by omega) (H.base2 HB) (H.atC 1 rfl) ha (Res.and_out (Res.bind_out (by rw [← hR]; exact hne)))) ?_)
  rintro _ w3 ⟨⟨kd, o, n, nm, cb, A2, c2, l2⟩, s1, rfl, ha1, hv1, H'⟩
  replace H := H.updn (c := rq ws A cw pr s) (Hp.swap H') rfl (.inl rfl) (.inl rfl)
  clear H'
  ((conv => whnf); refine Al.hp H ?_; clear H; intro p5 _ H _)
  repeat' ((conv => whnf); first | refine ztT ?_ | (refine ztB ?_ ?_ <;> intro _ <;> try (exfalso; omega)) | (refine ztW ?_; clear H; intro _ _ H _) | fail)
  ((conv => whnf); refine Al.hp H ?_; clear H; intro p6 _ H _)
  repeat' ((conv => whnf); first | refine ztT ?_ | (refine ztB ?_ ?_ <;> intro _ <;> try (exfalso; omega)) | (refine ztW ?_; clear H; intro _ _ H _) | fail)
  have hblk := fun w => blockR Y C (R0.and fun _ ts => F.expr 0 d ts) (d + 1) s1 w (by omega)
  rw [← hwd] at hblk
  ((conv => whnf); refine Cl.mk (hblk _ (H.base2 HB) (H.atC 4 rfl) ha1 (Res.bind_out (by rw [← hR]; exact hne))) ?_)
  rintro _ w4 ⟨B, cB, b, s2, rfl, ha2, hv2, H'⟩
  replace H := H.updn (c := rq ws A cw pr s1) (Hp.swap H') rfl (.inl rfl) (.inl rfl)
  clear H'
  repeat' ((conv => whnf); first | refine ztT ?_ | (refine ztB ?_ ?_ <;> intro _ <;> try (exfalso; omega)) | (refine ztW ?_; clear H; intro _ _ H _) | fail)
  have hvv := Vl.mono2 (Vl.fst (f := fun _ ts => F.block (d + 1) ts) hv1) hv2 fun a h1 h2 => And.intro h1 h2
  have hfix : ∀ w', Hp (· = pr) w w' [stl B cB b, bk p6 76 (SM.enc (.mk 4 [] (.mk kd o n nm cb A2 c2 l2) B cB b none 0 [])), bk p5 74 (ET.enc (.mk kd o n nm cb A2 c2 l2)), trs [.mk kd o n nm cb A2 c2 l2], bk p4 76 T.t76.zero.cells.toList, rq ws A cw pr s2] → Hp (· = pr) w w' [stl B cB b, bk p6 76 (SM.enc (.mk 4 [] (.mk kd o n nm cb A2 c2 l2) B cB b none 0 [])), bk p5 74 (ET.enc (.mk kd o n nm cb A2 c2 l2)), trs [.mk kd o n nm cb A2 c2 l2], bk p4 76 T.t76.zero.cells.toList, rq ws A cw pr s2] := fun _ h => h
  replace H := hfix _ H
  clear hfix hv1 hv2 ha1 hblk
  generalize ((R0.and fun _ ts => F.expr 0 d ts).and fun _ ts => F.block (d + 1) ts) = R2 at ha2 hvv hR
  (((conv => whnf); refine Cl.mk (is_r X k_else s2 _ (H.base2 HB) (H.atC 5 rfl) (ends_ne ha2.ends)) ?_); rintro _ _ ⟨rfl, hx⟩; replace H := H.ext hx; clear hx)
  by_cases hel : isR k_else s2 = true
  case neg =>
    rw [Bool.eq_false_iff.2 hel]
    replace hR : R = R2.map (fun p => .mk 4 [] p.1.2 p.2 []) := by
      rw [hR]
      cases R2 with
      | out => rfl
      | err e p => rfl
      | ok a ts3 =>
        rw [is_ok ha2] at hel
        have hk : curK ts3 ≠ k_else := by simpa using hel
        show (if curK ts3 ≠ k_else then _ else _) = _
        rw [if_pos hk]; rfl
    repeat' ((conv => whnf); first | refine ztT ?_ | (refine ztB ?_ ?_ <;> intro _ <;> try (exfalso; omega)) | (refine ztW ?_; clear H; intro _ _ H _) | fail)
    replace H := Hp.stl0 H
    refine ⟨.mk 4 [] (.mk kd o n nm cb A2 c2 l2) B cB b none 0 [], s2, sm_v rfl, by rw [hR]; exact ha2.map _, ?_, Hp.stsN 4 [] (H.sel [4, 1, 0, 3] rfl)⟩
    rw [hR]
    refine Vl.map (hvv.mono fun a h => ?_)
    simp only [SM.e, SM.es, id]
    rw [h.1, h.2]
  rw [hel]
  obtain ⟨a, ts3, rfl⟩ : ∃ a ts, R2 = .ok a ts := by
    cases R2 with
    | out => exact absurd hR hne
    | err e p => rw [is_err ha2 (by decide) (by decide)] at hel; cases hel
    | ok a ts => exact ⟨a, ts, rfl⟩
  obtain ⟨rfl, hg3⟩ := ha2.gd
  rw [is_ok ha2] at hel
  have hk3 : curK ts3 = k_else := by simpa using hel
  have hst3 := step_at hg3.ends hg3.ok (by rw [hk3]; decide)
  obtain ⟨h11, h12⟩ := hvv a ts3 rfl
  obtain ⟨t3, r3, rfl⟩ : ∃ t3 r3, ts3 = t3 :: r3 := by
    cases ts3 with
    | nil => exact absurd rfl (ends_ne hg3.ends)
    | cons t3 r3 => exact ⟨t3, r3, rfl⟩
  replace hR : R = (stepP false (t3 :: r3)).bind fun _ ts4 => if curK ts4 = k_if then (deepP (d + 1) ts4).bind fun _ ts4 => (F.choice (d + 1) ts4).bind fun x ts5 => .ok (.mk 4 [] a.1.2 a.2 [x]) ts5
      else (F.block (d + 1) ts4).bind fun c ts5 => .ok (.mk 4 [] a.1.2 a.2 c) ts5 := by
    rw [hR]
    show (if curK (t3 :: r3) ≠ k_else then _ else _) = _
    rw [if_neg (fun h => h hk3)]
  repeat' ((conv => whnf); first | refine ztT ?_ | (refine ztB ?_ ?_ <;> intro _ <;> try (exfalso; omega)) | (refine ztW ?_; clear H; intro _ _ H _) | fail)
  (obtain ⟨j, hj1, hj2, hb0⟩ := H.atC (c := rq ws A cw pr (⟨t3 :: r3, none⟩)) 5 rfl; have hjl := X.lt hj1 (by first | exact List.cons_ne_nil _ _ | assumption); replace H := Hp.ofQ H hb0; clear hb0)
  repeat' ((conv => whnf); first | refine ztT ?_ | (refine ztB ?_ ?_ <;> intro _ <;> try (exfalso; omega)) | (refine ztW ?_; clear H; intro _ _ H _) | fail)
  (have hwj : IntKind.i64.wrap ((j : Int) + 1) = ((j + 1 : Nat) : Int) := w64 rfl (by omega) (by omega); rw [hwj] at H; replace H := Hp.toQ (pr := pr) (s := ⟨r3, none⟩) (k := j + 1) H (List.tail_drop.symm.trans (congrArg List.tail hj1)) (fun e p h => by cases h); clear hwj hj1 hj2 hjl)
  have hst4 : AtR (stepP false (t3 :: r3)) ⟨r3, none⟩ := hst3
  (((conv => whnf); refine Cl.mk (is_r X k_if ⟨r3, none⟩ _ (H.base2 HB) (H.atC 5 rfl) (ends_ne hst4.ends)) ?_); rintro _ _ ⟨rfl, hx⟩; replace H := H.ext hx; clear hx)
  by_cases hif : isR k_if ⟨r3, none⟩ = true
  case neg =>
    rw [Bool.eq_false_iff.2 hif]
    replace hR : R = ((stepP false (t3 :: r3)).and fun _ ts4 => F.block (d + 1) ts4).map (fun p => .mk 4 [] a.1.2 a.2 p.2) := by
      rw [hR, Res.map, Res.and_bind]
      cases hx : stepP false (t3 :: r3) with
      | out => rfl
      | err e p => rfl
      | ok u ts4 =>
        rw [hx] at hst4
        rw [is_ok hst4] at hif
        have hk : ¬ curK ts4 = k_if := by simpa using hif
        show (if curK ts4 = k_if then _ else _) = _
        rw [if_neg hk]; rfl
    repeat' ((conv => whnf); first | refine ztT ?_ | (refine ztB ?_ ?_ <;> intro _ <;> try (exfalso; omega)) | (refine ztW ?_; clear H; intro _ _ H _) | fail)
    have hblk := fun w => blockR Y C (stepP false (t3 :: r3)) (d + 1) ⟨r3, none⟩ w (by omega)
    rw [← hwd] at hblk
    ((conv => whnf); refine Cl.mk (hblk _ (H.base2 HB) (H.atC 5 rfl) hst4 (Res.map_out (by rw [← hR]; exact hne))) ?_)
    rintro _ w5 ⟨E, cE, el, s5, rfl, ha5, hv5, H'⟩
    replace H := H.updn (c := rq ws A cw pr ⟨r3, none⟩) (Hp.swap H') rfl (.inl rfl) (.inl rfl)
    clear H'
    repeat' ((conv => whnf); first | refine ztT ?_ | (refine ztB ?_ ?_ <;> intro _ <;> try (exfalso; omega)) | (refine ztW ?_; clear H; intro _ _ H _) | fail)
    refine ⟨.mk 4 [] (.mk kd o n nm cb A2 c2 l2) B cB b E cE el, s5, sm_v rfl, by rw [hR]; exact ha5.map _, ?_, Hp.stsN 4 [] (H.sel [4, 1, 0, 3] rfl)⟩
    rw [hR]
    refine Vl.map (hv5.mono fun p h => ?_)
    simp only [SM.e, SM.es, id]
    rw [h11, h12, h]
  rw [hif]
  obtain ⟨ts4, hx, rfl⟩ : ∃ ts4, stepP false (t3 :: r3) = .ok () ts4 ∧ ts4 = r3 := by
    cases hx : stepP false (t3 :: r3) with
    | out => rw [hx] at hR; exact absurd hR hne
    | err e p => rw [hx] at hst4; rw [is_err hst4 (by decide) (by decide)] at hif; cases hif
    | ok u ts4 =>
      rw [hx] at hst4
      have := hst4.gd.1
      simp only [RS.mk.injEq, and_true] at this
      exact ⟨ts4, rfl, this.symm⟩
  rw [hx] at hst4 hR
  obtain ⟨_, hg4⟩ := hst4.gd
  rw [is_ok hst4] at hif
  have hk4 : curK ts4 = k_if := by simpa using hif
  replace hR : R = ((deepP (d + 1) ts4).bind fun _ ts4 => F.choice (d + 1) ts4).map (fun x => .mk 4 [] a.1.2 a.2 [x]) := by
    rw [hR, Res.map]
    show (if curK ts4 = k_if then _ else _) = _
    rw [if_pos hk4, Res.bind_assoc]
  repeat' ((conv => whnf); first | refine ztT ?_ | (refine ztB ?_ ?_ <;> intro _ <;> try (exfalso; omega)) | (refine ztW ?_; clear H; intro _ _ H _) | fail)
  have hcho := fun w => C.choice (d + 1) ts4 w (by omega) hk4
  rw [← hwd] at hcho
  ((conv => whnf); refine Cl.mk (hcho _ (H.base2 HB) (H.atC 5 rfl) hg4 (Res.map_out (by rw [← hR]; exact hne))) ?_)
  rintro _ w5 ⟨⟨kd2, nm2, ⟨k1, o1, n1, a1, b1, A1, c1, l1⟩, B2, cb2, b2, E2, ce2, el2⟩, s5, rfl, ha5, hv5, H'⟩
  replace H := H.updn (c := rq ws A cw pr ⟨ts4, none⟩) (Hp.swap H') rfl (.inl rfl) (.inl rfl)
  clear H'
  ((conv => whnf); refine Al.hp H ?_; clear H; intro p8 _ H _)
  repeat' ((conv => whnf); first | refine ztT ?_ | (refine ztB ?_ ?_ <;> intro _ <;> try (exfalso; omega)) | (refine ztW ?_; clear H; intro _ _ H _) | fail)
  refine Sm.lith (cs := SM.enc (.mk kd2 nm2 (.mk k1 o1 n1 a1 b1 A1 c1 l1) B2 cb2 b2 E2 ce2 el2)) H T.ok (fun p7 w6 H _ => ?_)
  have hfix : ∀ Γ w', Hp (· = pr) w w' (bk p7 76 (SM.enc (.mk kd2 nm2 (.mk k1 o1 n1 a1 b1 A1 c1 l1) B2 cb2 b2 E2 ce2 el2)) :: Γ) → Hp (· = pr) w w' (qu SM.enc 10 76 (some ⟨p7, 0, none⟩) 1 [.mk kd2 nm2 (.mk k1 o1 n1 a1 b1 A1 c1 l1) B2 cb2 b2 E2 ce2 el2] :: Γ) := fun Γ w' h => by
    have h1 : Hp (· = pr) w w' (bk p7 76 ([SM.mk kd2 nm2 (.mk k1 o1 n1 a1 b1 A1 c1 l1) B2 cb2 b2 E2 ce2 el2].flatMap SM.enc) :: Γ) := by simpa using h
    exact Hp.bq (sz := 10) h1 (fun z _ => SM.enc_len z)
  replace H := hfix _ _ H
  repeat' ((conv => whnf); first | refine ztT ?_ | (refine ztB ?_ ?_ <;> intro _ <;> try (exfalso; omega)) | (refine ztW ?_; clear H; intro _ _ H _) | fail)
  replace H := (Hp.stlN (H.sel [0, 1, 1, 3, 4] rfl)).sel [2, 1, 0, 0] rfl
  refine ⟨.mk 4 [] (.mk kd o n nm cb A2 c2 l2) B cB b (some ⟨p7, 0, none⟩) 1 [.mk kd2 nm2 (.mk k1 o1 n1 a1 b1 A1 c1 l1) B2 cb2 b2 E2 ce2 el2], s5, sm_v rfl, by rw [hR]; exact ha5.map _, ?_, Hp.stsN 4 [] H⟩
  rw [hR]
  refine Vl.map (hv5.mono fun p h => ?_)
  rw [SM.e, SM.es, SM.es, h11, h12, h, id]; rfl
end
end Go.Proofs.YtfnjodpehomgfaaGreatDoor
namespace Go.Proofs.YtfnjodpehomgfaaGreatDoor
open Go Go.Sh Go.Tx
attribute [local irreducible] Blk Ext RdS
theorem loopB_s (F : PF) (d n : Nat) (l : List Go.Tx.St) (ts : List Tk) : loopB F d (n + 1) l ts = (if curK ts = s_rb then .ok l ts else (stmtP F d ts).bind fun s ts1 => loopB F d n (l ++ [s]) ts1) := rfl
def blkM {α : Type} (R : Res α) (n : Nat) (sp : Option (Int × Nat)) : Nat := (match R with | .ok _ _ => n + 2 | _ => 0) + (match sp with | none => 1 | _ => 0)
theorem blkM_le {α : Type} (R : Res α) (n : Nat) (sp : Option (Int × Nat)) : blkM R n sp ≤ n + 3 := by
  unfold blkM
  cases R <;> cases sp <;> simp <;> omega
section
variable {src : Bs} {ws : List Tk} {A : Option Addr} {cw pr : Nat} {wb : World}
variable (Y : RY src ws A cw pr wb) {F : PF} (C : RCon src ws A cw pr wb F)
include Y C
set_option maxHeartbeats 8000000 in
theorem stmt_if (d : Nat) (ts : List Tk) (w : World) (hd : d ≤ 41) (hk : curK ts = k_if) (hwb : Ext wb w) (h : RdQ ws A cw pr ⟨ts, none⟩ w) (hg : Gdw ts) (hne : ((deepP d ts).bind fun _ ts => choiceP F d ts) ≠ .out) :
    Cl Tryz.prog 83 #[.pointer (some ⟨pr, 0, none⟩), .int .i64 (d : Int)] w (OkRS ws A cw pr id ((deepP d ts).bind fun _ ts => choiceP F d ts) w) (fun _ _ => False) := by
  have X := Y.x
  have HB := X.ok hwb
  have hpl := h.pls X
  obtain ⟨t0, r0, rfl⟩ : ∃ t0 r0, ts = t0 :: r0 := by
    cases ts with
    | nil => exact absurd rfl (ends_ne hg.ends)
    | cons t0 r0 => exact ⟨t0, r0, rfl⟩
  have hk0 : t0.kind = k_if := hk
  have hrk : rKind (curT (⟨t0 :: r0, none⟩ : RS).ts) = k_if := (chk_ok hg.ok).1.trans hk
  have hst := step_at hg.ends hg.ok (by rw [hk]; decide)
  obtain ⟨R, hR⟩ : ∃ R, R = (deepP d (t0 :: r0)).bind fun _ ts => choiceP F d ts := ⟨_, rfl⟩
  rw [← hR] at hne ⊢
  refine calls_ex (args := [.pointer (some ⟨pr, 0, none⟩), .int .i64 (d : Int)]) T.ok Tryz.func83 rfl rfl rfl rfl ?_
  have H := Hp.start (S := (· = pr)) (rq_ok h) (fun k hk => hk)
  clear h
  refine Sq.mk ?_
  ((conv => whnf); refine Al.hp H ?_; clear H; intro p4 _ H _)
  repeat' ((conv => whnf); first | refine ztS ?_ | (refine ztB ?_ ?_ <;> intro _ <;> try (exfalso; omega)) | (refine ztW ?_; clear H; intro _ _ H _) | fail)
  (((conv => whnf); refine Cl.mk (next_r X ⟨t0 :: r0, none⟩ _ (H.base2 HB) (H.atC 1 rfl) (List.cons_ne_nil _ _)) ?_); rintro _ _ ⟨rfl, hx⟩; replace H := H.ext hx; clear hx)
  ((conv => whnf); refine Al.hp H ?_; clear H; intro p5 _ H _)
  repeat' ((conv => whnf); first | refine ztS ?_ | (refine ztB ?_ ?_ <;> intro _ <;> try (exfalso; omega)) | (refine ztW ?_; clear H; intro _ _ H _) | fail)
  (((conv => whnf); refine Cl.mk (begins_r (rKind (curT (⟨t0 :: r0, none⟩ : RS).ts)) _) ?_); rintro _ _ ⟨rfl, hx⟩; replace H := H.ext hx; clear hx)
  rw [show beginsB (rKind (curT (⟨t0 :: r0, none⟩ : RS).ts)) = true by rw [hrk]; rfl]
  by_cases h40 : d ≤ 40
  case neg =>
    have hdp : deepP d (t0 :: r0) = .err 144 t0.at_ := by unfold deepP; rw [if_pos (by omega)]; rfl
    rw [hdp] at hR
    replace hR : R = .err 144 t0.at_ := hR
    have hw : wrongR 144 ⟨t0 :: r0, none⟩ = ⟨t0 :: r0, some (144, t0.at_)⟩ := wrong_good rfl hg.ok hpl.cur.1
    repeat' ((conv => whnf); first | refine ztS ?_ | (refine ztB ?_ ?_ <;> intro _ <;> try (exfalso; omega)) | (refine ztW ?_; clear H; intro _ _ H _) | fail)
    all_goals first | (exfalso; omega) | skip
    ((conv => whnf); refine Cl.mk (wrong_r X 144 ⟨t0 :: r0, none⟩ _ (by decide) (H.base2 HB) (H.atC 2 rfl) (List.cons_ne_nil _ _)) ?_)
    rintro _ w3 H'
    rw [hw] at H'
    replace H := H.upd (c := rq ws A cw pr ⟨t0 :: r0, none⟩) H' rfl (.inl rfl)
    clear H'
    repeat' ((conv => whnf); first | refine ztS ?_ | (refine ztB ?_ ?_ <;> intro _ <;> try (exfalso; omega)) | (refine ztW ?_; clear H; intro _ _ H _) | fail)
    refine ⟨.mk 0 [] (.mk 0 0 0 [] [] none 0 []) none 0 [] none 0 [], _, sm_v rfl, ?_, by rw [hR]; exact Vl.err, Hp.stsE 0 [] (Hp.trsZ 0 0 0 [] [] (H.sel [2] rfl))⟩
    rw [hR]; exact ⟨hg.ends, .inl rfl⟩
  have hdp : deepP d (t0 :: r0) = .ok () (t0 :: r0) := by unfold deepP; rw [if_neg (by omega)]
  rw [hdp] at hR
  replace hR : R = (stepP false (t0 :: r0)).bind fun _ ts => choiceQ F d ts := by rw [hR]; exact choice_Q F d hk
  repeat' ((conv => whnf); first | refine ztT ?_ | (refine ztB ?_ ?_ <;> intro _ <;> try (exfalso; omega)) | (refine ztW ?_; clear H; intro _ _ H _) | fail)
  all_goals first | (exfalso; omega) | skip
  (obtain ⟨j, hj1, hj2, hb0⟩ := H.atC (c := rq ws A cw pr (⟨t0 :: r0, none⟩)) 2 rfl; have hjl := X.lt hj1 (by first | exact List.cons_ne_nil _ _ | assumption); replace H := Hp.ofQ H hb0; clear hb0)
  repeat' ((conv => whnf); first | refine ztT ?_ | (refine ztB ?_ ?_ <;> intro _ <;> try (exfalso; omega)) | (refine ztW ?_; clear H; intro _ _ H _) | fail)
  (have hwj : IntKind.i64.wrap ((j : Int) + 1) = ((j + 1 : Nat) : Int) := w64 rfl (by omega) (by omega); rw [hwj] at H; replace H := Hp.toQ (pr := pr) (s := ⟨r0, none⟩) (k := j + 1) H (List.tail_drop.symm.trans (congrArg List.tail hj1)) (fun e p h => by cases h); clear hwj hj1 hj2 hjl)
  ((conv => whnf); refine Cl.mk (choice_r Y C (stepP false (t0 :: r0)) d ⟨r0, none⟩ _ h40 (H.base2 HB) (H.atC 2 rfl) hst (by rw [← hR]; exact hne)) ?_)
  rintro _ w5 ⟨⟨kd2, nm2, ⟨k1, o1, n1, a1, b1, A1, c1, l1⟩, B2, cb2, b2, E2, ce2, el2⟩, s5, rfl, ha5, hv5, H'⟩
  replace H := H.updn (c := rq ws A cw pr ⟨r0, none⟩) (Hp.swap H') rfl (.inl rfl) (.inl rfl)
  clear H'
  repeat' ((conv => whnf); first | refine ztT ?_ | (refine ztB ?_ ?_ <;> intro _ <;> try (exfalso; omega)) | (refine ztW ?_; clear H; intro _ _ H _) | fail)
  exact ⟨.mk kd2 nm2 (.mk k1 o1 n1 a1 b1 A1 c1 l1) B2 cb2 b2 E2 ce2 el2, s5, sm_v rfl, by rw [hR]; exact ha5, by rw [hR]; exact hv5, H.sel [0, 2] rfl⟩
set_option maxHeartbeats 8000000 in
theorem stmt_r (d : Nat) (ts : List Tk) (w : World) (hd : d ≤ 41) (hwb : Ext wb w) (h : RdQ ws A cw pr ⟨ts, none⟩ w) (hg : Gdw ts) (hne : stmtP F d ts ≠ .out) :
    Cl Tryz.prog 83 #[.pointer (some ⟨pr, 0, none⟩), .int .i64 (d : Int)] w (OkRS ws A cw pr id (stmtP F d ts) w) (fun _ _ => False) := by
  have X := Y.x
  have HB := X.ok hwb
  have hpl := h.pls X
  have hwd : IntKind.i64.wrap ((d : Int) + 1) = ((d + 1 : Nat) : Int) := w64 rfl (by omega) (by omega)
  by_cases hk : curK ts = k_if
  · have : stmtP F d ts = (deepP d ts).bind fun _ ts => F.choice d ts := by
      unfold stmtP
      rw [if_pos (by rw [hk]; decide)]
      unfold deepP
      split
      · rfl
      · show (if curK ts = k_if then _ else _) = _
        rw [if_pos hk]; rfl
    rw [this] at hne ⊢
    exact C.choice d ts w hd hk hwb h hg hne
  obtain ⟨t0, r0, rfl⟩ : ∃ t0 r0, ts = t0 :: r0 := by
    cases ts with
    | nil => exact absurd rfl (ends_ne hg.ends)
    | cons t0 r0 => exact ⟨t0, r0, rfl⟩
  have hk0 : ¬ t0.kind = k_if := hk
  have hrk : rKind t0 = t0.kind := (chk_ok hg.ok).1
  have herr : t0.err = 0 := (chk_ok hg.ok).2.1
  have hnif : ¬ rKind (curT (⟨t0 :: r0, none⟩ : RS).ts) = k_if := fun h => hk0 (hrk.symm.trans h)
  obtain ⟨R, hR⟩ : ∃ R, R = stmtP F d (t0 :: r0) := ⟨_, rfl⟩
  rw [← hR] at hne ⊢
  unfold stmtP at hR
  rw [show curK (t0 :: r0) = t0.kind from rfl] at hR
  refine calls_ex (args := [.pointer (some ⟨pr, 0, none⟩), .int .i64 (d : Int)]) T.ok Tryz.func83 rfl rfl rfl rfl ?_
  have H := Hp.start (S := (· = pr)) (rq_ok h) (fun k hk => hk)
  clear h
  refine Sq.mk ?_
  ((conv => whnf); refine Al.hp H ?_; clear H; intro p4 _ H _)
  repeat' ((conv => whnf); first | refine ztS ?_ | (refine ztB ?_ ?_ <;> intro _ <;> try (exfalso; omega)) | (refine ztW ?_; clear H; intro _ _ H _) | fail)
  (((conv => whnf); refine Cl.mk (next_r X ⟨t0 :: r0, none⟩ _ (H.base2 HB) (H.atC 1 rfl) (List.cons_ne_nil _ _)) ?_); rintro _ _ ⟨rfl, hx⟩; replace H := H.ext hx; clear hx)
  ((conv => whnf); refine Al.hp H ?_; clear H; intro p5 _ H _)
  repeat' ((conv => whnf); first | refine ztS ?_ | (refine ztB ?_ ?_ <;> intro _ <;> try (exfalso; omega)) | (refine ztW ?_; clear H; intro _ _ H _) | fail)
  (((conv => whnf); refine Cl.mk (begins_r (rKind (curT (⟨t0 :: r0, none⟩ : RS).ts)) _) ?_); rintro _ _ ⟨rfl, hx⟩; replace H := H.ext hx; clear hx)
  by_cases hbg : beginsB t0.kind = true
  case neg =>
    rw [show beginsB (rKind (curT (⟨t0 :: r0, none⟩ : RS).ts)) = false by show beginsB (rKind t0) = false; rw [hrk]; exact Bool.eq_false_iff.2 hbg]
    rw [if_neg hbg] at hR
    replace hR : R = .err 141 t0.at_ := hR
    have hw : wrongR 141 ⟨t0 :: r0, none⟩ = ⟨t0 :: r0, some (141, t0.at_)⟩ := wrong_good rfl hg.ok hpl.cur.1
    repeat' ((conv => whnf); first | refine ztS ?_ | (refine ztB ?_ ?_ <;> intro _ <;> try (exfalso; omega)) | (refine ztW ?_; clear H; intro _ _ H _) | fail)
    ((conv => whnf); refine Cl.mk (wrong_r X 141 ⟨t0 :: r0, none⟩ _ (by decide) (H.base2 HB) (H.atC 2 rfl) (List.cons_ne_nil _ _)) ?_)
    rintro _ w3 H'
    rw [hw] at H'
    replace H := H.upd (c := rq ws A cw pr ⟨t0 :: r0, none⟩) H' rfl (.inl rfl)
    clear H'
    repeat' ((conv => whnf); first | refine ztS ?_ | (refine ztB ?_ ?_ <;> intro _ <;> try (exfalso; omega)) | (refine ztW ?_; clear H; intro _ _ H _) | fail)
    refine ⟨.mk 0 [] (.mk 0 0 0 [] [] none 0 []) none 0 [] none 0 [], _, sm_v rfl, ?_, by rw [hR]; exact Vl.err, Hp.stsE 0 [] (Hp.trsZ 0 0 0 [] [] (H.sel [2] rfl))⟩
    rw [hR]; exact ⟨hg.ends, .inl rfl⟩
  rw [show beginsB (rKind (curT (⟨t0 :: r0, none⟩ : RS).ts)) = true by show beginsB (rKind t0) = true; rw [hrk]; exact hbg]
  rw [if_pos hbg] at hR
  have hend : t0.kind ≠ k_end := begins_ne hbg
  have hst := step_at hg.ends hg.ok hend
  by_cases h40 : d ≤ 40
  case neg =>
    have hdp : deepP d (t0 :: r0) = .err 144 t0.at_ := by unfold deepP; rw [if_pos (by omega)]; rfl
    rw [hdp] at hR
    replace hR : R = .err 144 t0.at_ := hR
    have hw : wrongR 144 ⟨t0 :: r0, none⟩ = ⟨t0 :: r0, some (144, t0.at_)⟩ := wrong_good rfl hg.ok hpl.cur.1
    repeat' ((conv => whnf); first | refine ztS ?_ | (refine ztB ?_ ?_ <;> intro _ <;> try (exfalso; omega)) | (refine ztW ?_; clear H; intro _ _ H _) | fail)
    all_goals first | (exfalso; omega) | skip
    ((conv => whnf); refine Cl.mk (wrong_r X 144 ⟨t0 :: r0, none⟩ _ (by decide) (H.base2 HB) (H.atC 2 rfl) (List.cons_ne_nil _ _)) ?_)
    rintro _ w3 H'
    rw [hw] at H'
    replace H := H.upd (c := rq ws A cw pr ⟨t0 :: r0, none⟩) H' rfl (.inl rfl)
    clear H'
    repeat' ((conv => whnf); first | refine ztS ?_ | (refine ztB ?_ ?_ <;> intro _ <;> try (exfalso; omega)) | (refine ztW ?_; clear H; intro _ _ H _) | fail)
    refine ⟨.mk 0 [] (.mk 0 0 0 [] [] none 0 []) none 0 [] none 0 [], _, sm_v rfl, ?_, by rw [hR]; exact Vl.err, Hp.stsE 0 [] (Hp.trsZ 0 0 0 [] [] (H.sel [2] rfl))⟩
    rw [hR]; exact ⟨hg.ends, .inl rfl⟩
  have hdp : deepP d (t0 :: r0) = .ok () (t0 :: r0) := by unfold deepP; rw [if_neg (by omega)]
  rw [hdp] at hR
  by_cases hwh : t0.kind = k_while
  · have hrw : rKind (curT (⟨t0 :: r0, none⟩ : RS).ts) = k_while := hrk.trans hwh
    replace hR : R = (((stepP false (t0 :: r0)).and fun _ ts => F.expr 0 d ts).and fun _ ts => F.block (d + 1) ts).map (fun p => .mk 5 [] p.1.2 p.2 []) := by
      rw [hR]
      show (if curK (t0 :: r0) = k_if then _ else if curK (t0 :: r0) = k_while then _ else _) = _
      rw [if_neg hk, if_pos (show curK (t0 :: r0) = k_while from hwh)]
      simp only [Res.map, Res.and_bind]
    repeat' ((conv => whnf); first | refine ztT ?_ | (refine ztB ?_ ?_ <;> intro _ <;> try (exfalso; omega)) | (refine ztW ?_; clear H; intro _ _ H _) | fail)
    all_goals first | (exfalso; omega) | skip
    (obtain ⟨j, hj1, hj2, hb0⟩ := H.atC (c := rq ws A cw pr (⟨t0 :: r0, none⟩)) 2 rfl; have hjl := X.lt hj1 (by first | exact List.cons_ne_nil _ _ | assumption); replace H := Hp.ofQ H hb0; clear hb0)
    repeat' ((conv => whnf); first | refine ztT ?_ | (refine ztB ?_ ?_ <;> intro _ <;> try (exfalso; omega)) | (refine ztW ?_; clear H; intro _ _ H _) | fail)
    (have hwj : IntKind.i64.wrap ((j : Int) + 1) = ((j + 1 : Nat) : Int) := w64 rfl (by omega) (by omega); rw [hwj] at H; replace H := Hp.toQ (pr := pr) (s := ⟨r0, none⟩) (k := j + 1) H (List.tail_drop.symm.trans (congrArg List.tail hj1)) (fun e p h => by cases h); clear hwj hj1 hj2 hjl)
    ((conv => whnf); refine Cl.mk (exprR Y C (stepP false (t0 :: r0)) 0 d ⟨r0, none⟩ _ (by omega) (by omega) (H.base2 HB) (H.atC 2 rfl) hst (Res.and_out (Res.map_out (by rw [← hR]; exact hne)))) ?_)
    rintro _ w3 ⟨⟨kd, o, n, nm, cb, A2, c2, l2⟩, s1, rfl, ha1, hv1, H'⟩
    replace H := H.updn (c := rq ws A cw pr ⟨r0, none⟩) (Hp.swap H') rfl (.inl rfl) (.inl rfl)
    clear H'
    ((conv => whnf); refine Al.hp H ?_; clear H; intro p6 _ H _)
    repeat' ((conv => whnf); first | refine ztT ?_ | (refine ztB ?_ ?_ <;> intro _ <;> try (exfalso; omega)) | (refine ztW ?_; clear H; intro _ _ H _) | fail)
    have hblk := fun w => blockR Y C ((stepP false (t0 :: r0)).and fun _ ts => F.expr 0 d ts) (d + 1) s1 w (by omega)
    rw [← hwd] at hblk
    ((conv => whnf); refine Cl.mk (hblk _ (H.base2 HB) (H.atC 4 rfl) ha1 (Res.map_out (by rw [← hR]; exact hne))) ?_)
    rintro _ w4 ⟨B, cB, b, s2, rfl, ha2, hv2, H'⟩
    replace H := H.updn (c := rq ws A cw pr s1) (Hp.swap H') rfl (.inl rfl) (.inl rfl)
    clear H'
    repeat' ((conv => whnf); first | refine ztT ?_ | (refine ztB ?_ ?_ <;> intro _ <;> try (exfalso; omega)) | (refine ztW ?_; clear H; intro _ _ H _) | fail)
    replace H := Hp.stl0 H
    refine ⟨.mk 5 [] (.mk kd o n nm cb A2 c2 l2) B cB b none 0 [], s2, sm_v rfl, by rw [hR]; exact ha2.map _, ?_, Hp.stsN 5 [] (H.sel [3, 1, 0, 3] rfl)⟩
    rw [hR]
    refine Vl.map (Vl.mono2 (Vl.fst hv1) hv2 fun a h1 h2 => ?_)
    simp only [SM.e, SM.es, id]
    rw [h1, h2]
  have hnw : ¬ rKind (curT (⟨t0 :: r0, none⟩ : RS).ts) = k_while := fun h => hwh (hrk.symm.trans h)
  replace hR : R = (((stepP false (t0 :: r0)).bind fun _ ts => plainQ F d t0 ts).and fun _ ts => takeP s_semi ts).map (fun p => p.1) := by
    rw [hR]
    show (if curK (t0 :: r0) = k_if then _ else if curK (t0 :: r0) = k_while then _ else _) = _
    rw [if_neg hk, if_neg (show ¬ curK (t0 :: r0) = k_while from hwh), plain_Q]
    simp only [Res.map, Res.and_bind]
  repeat' ((conv => whnf); first | refine ztT ?_ | (refine ztB ?_ ?_ <;> intro _ <;> try (exfalso; omega)) | (refine ztW ?_; clear H; intro _ _ H _) | fail)
  all_goals first | (exfalso; omega) | skip
  (obtain ⟨j, hj1, hj2, hb0⟩ := H.atC (c := rq ws A cw pr (⟨t0 :: r0, none⟩)) 2 rfl; have hjl := X.lt hj1 (by first | exact List.cons_ne_nil _ _ | assumption); replace H := Hp.ofQ H hb0; clear hb0)
  repeat' ((conv => whnf); first | refine ztT ?_ | (refine ztB ?_ ?_ <;> intro _ <;> try (exfalso; omega)) | (refine ztW ?_; clear H; intro _ _ H _) | fail)
  (have hwj : IntKind.i64.wrap ((j : Int) + 1) = ((j + 1 : Nat) : Int) := w64 rfl (by omega) (by omega); rw [hwj] at H; replace H := Hp.toQ (pr := pr) (s := ⟨r0, none⟩) (k := j + 1) H (List.tail_drop.symm.trans (congrArg List.tail hj1)) (fun e p h => by cases h); clear hwj hj1 hj2 hjl)
  ((conv => whnf); refine Cl.mk (plain_r Y C (stepP false (t0 :: r0)) d t0 ⟨r0, none⟩ _ (by omega) (H.base2 HB) (H.atC 2 rfl) hst hrk herr hbg hk0 hwh (Res.and_out (Res.map_out (by rw [← hR]; exact hne)))) ?_)
  rintro _ w5 ⟨⟨kd2, nm2, ⟨k1, o1, n1, a1, b1, A1, c1, l1⟩, B2, cb2, b2, E2, ce2, el2⟩, s5, rfl, ha5, hv5, H'⟩
  replace H := H.updn (c := rq ws A cw pr ⟨r0, none⟩) (Hp.swap H') rfl (.inl rfl) (.inl rfl)
  clear H'
  ((conv => whnf); refine Al.hp H ?_; clear H; intro p8 _ H _)
  repeat' ((conv => whnf); first | refine ztT ?_ | (refine ztB ?_ ?_ <;> intro _ <;> try (exfalso; omega)) | (refine ztW ?_; clear H; intro _ _ H _) | fail)
  (((conv => whnf); refine Cl.mk (takeRR Y C s_semi ((stepP false (t0 :: r0)).bind fun _ ts => plainQ F d t0 ts) s5 _ (H.base2 HB) (H.atC 4 rfl) ha5 (by decide) (by decide) (by decide)) ?_); rintro _ w3 ⟨kd_, pp_, tx2, ee_, s6, rfl, ha6, hv6, H'⟩; replace H := H.upd (c := rq ws A cw pr s5) H' rfl (.inl rfl); clear H')
  repeat' ((conv => whnf); first | refine ztT ?_ | (refine ztB ?_ ?_ <;> intro _ <;> try (exfalso; omega)) | (refine ztW ?_; clear H; intro _ _ H _) | fail)
  refine ⟨.mk kd2 nm2 (.mk k1 o1 n1 a1 b1 A1 c1 l1) B2 cb2 b2 E2 ce2 el2, s6, sm_v rfl, by rw [hR]; exact ha6.map _, ?_, H.sel [1, 3] rfl⟩
  rw [hR]
  exact Vl.map (g := fun p : Go.Tx.St × Tk => p.1) (Vl.fst hv5)
set_option maxHeartbeats 8000000 in
theorem block_r (d : Nat) (ts : List Tk) (w : World) (hd : d ≤ 41) (hwb : Ext wb w) (h : RdQ ws A cw pr ⟨ts, none⟩ w) (hg : Gdw ts) (hne : blockP F d ts ≠ .out) :
    Cl Tryz.prog 54 #[.pointer (some ⟨pr, 0, none⟩), .int .i64 (d : Int)] w (OkRB ws A cw pr id (blockP F d ts) w) (fun _ _ => False) := by
  have X := Y.x
  have HB := X.ok hwb
  have hsm := h.small X
  obtain ⟨R, hR⟩ : ∃ R, R = blockP F d ts := ⟨_, rfl⟩
  rw [← hR] at hne ⊢
  refine calls_ex (args := [.pointer (some ⟨pr, 0, none⟩), .int .i64 (d : Int)]) T.ok Tryz.func54 rfl rfl rfl rfl ?_
  have H := Hp.start (S := (· = pr)) (rq_ok h) (fun k hk => hk)
  clear h
  repeat' ((conv => whnf); first | refine ztS ?_ | (refine ztB ?_ ?_ <;> intro _ <;> try (exfalso; omega)) | (refine ztW ?_; clear H; intro _ _ H _) | fail)
  have ha0 := hg.at ()
  (((conv => whnf); refine Cl.mk (takeRR Y C s_lb ((.ok () ts : Res Unit)) ⟨ts, none⟩ _ (H.base2 HB) (H.atC 0 rfl) ha0 (by decide) (by decide) (by decide)) ?_); rintro _ w3 ⟨kd_, pp_, tx0, ee_, s1, rfl, ha1, hv1, H'⟩; replace H := H.upd (c := rq ws A cw pr ⟨ts, none⟩) H' rfl (.inl rfl); clear H')
  replace H := Hp.nil (Hp.sts0 H) SM.enc 10 76
  have hsm1 := RdQ.small X (H.atC (c := rq ws A cw pr s1) 2 rfl)
  have hR1 : ∃ n, n ≤ 20001 ∧ R = (((.ok () ts : Res Unit).and fun _ ts => takeP s_lb ts).map (fun _ => ([] : List Go.Tx.St))).bind fun L ts1 => (loopB F d n L ts1).bind fun l ts2 => (takeP s_rb ts2).bind fun _ ts3 => .ok l ts3 := by
    have key : ∀ n, ((((.ok () ts : Res Unit).and fun _ ts => takeP s_lb ts).map (fun _ => ([] : List Go.Tx.St))).bind fun L ts1 => (loopB F d n L ts1).bind fun l ts2 => (takeP s_rb ts2).bind fun _ ts3 => .ok l ts3) = (takeP s_lb ts).bind fun _ ts1 => (loopB F d n [] ts1).bind fun l ts2 => (takeP s_rb ts2).bind fun _ ts3 => .ok l ts3 := fun n => by
      rw [Res.map_bind, Res.and_bind]; rfl
    simp only [key]
    rw [hR]
    unfold blockP
    cases hx : takeP s_lb ts with
    | out => exact ⟨0, by omega, rfl⟩
    | err e p => exact ⟨0, by omega, rfl⟩
    | ok t ts1 =>
      have hts1 : ts1.length ≤ 20000 := by
        have h1 : AtR (.ok ((), t) ts1 : Res (Unit × Tk)) s1 := ha1.same (by show (takeP s_lb ts).bind _ = _; rw [hx]; rfl)
        have := h1.gd.1
        rw [this] at hsm1
        exact hsm1
      exact ⟨ts1.length + 1, by omega, rfl⟩
  obtain ⟨n0, hn0, hR1⟩ := hR1
  repeat' ((conv => whnf); first | refine ztS ?_ | (refine ztB ?_ ?_ <;> intro _ <;> try (exfalso; omega)) | (refine ztW ?_; clear H; intro _ _ H _) | fail)
  refine Lp.g0 T.ok (σ := Res (List Go.Tx.St) × Nat × Option Addr × Nat × List SM × RS) (fun q => [(5, .slice q.2.2.1 q.2.2.2.2.1.length q.2.2.2.1), (0, .pointer (some ⟨pr, 0, none⟩)), (1, .int .i64 (d : Int))])
    (fun q w' => R = q.1.bind (fun L ts1 => (loopB F d q.2.1 L ts1).bind fun l ts2 => (takeP s_rb ts2).bind fun _ ts3 => .ok l ts3) ∧ AtR q.1 q.2.2.2.2.2 ∧ Vl q.1 (fun a => SM.es q.2.2.2.2.1 = a) ∧ (q.2.2.2.2.2.sp = none → q.2.1 + q.2.2.2.2.1.length ≤ 20002) ∧ q.2.2.2.2.1.length ≤ 20003 ∧ Hp (· = pr) w w' [qu SM.enc 10 76 q.2.2.1 q.2.2.2.1 q.2.2.2.2.1, sts q.2.2.2.2.1, rq ws A cw pr q.2.2.2.2.2]) (fun q _ => blkM q.1 q.2.1 q.2.2.2.2.2.sp)
    (((.ok () ts : Res Unit).and fun _ ts => takeP s_lb ts).map (fun _ => []), n0, none, 0, [], s1) rfl ⟨rfl, rfl, rfl, trivial⟩ ⟨hR1, ha1.map _, Vl.map (g := fun _ => ([] : List Go.Tx.St)) (fun _ _ _ => rfl), fun _ => by simp only [List.length_nil]; omega, by simp, H⟩ ?_
  clear H hR hR1 ha1 hv1 ha0 hsm1
  rintro ⟨Rc, n, B, c, l, s⟩ w5 ⟨hR, ha, hv, hn, hl, H⟩
  simp only at hR ha hv hn hl H ⊢
  repeat' ((conv => whnf); first | refine ztS ?_ | (refine ztB ?_ ?_ <;> intro _ <;> try (exfalso; omega)) | (refine ztW ?_; clear H; intro _ _ H _) | fail)
  (((conv => whnf); refine Cl.mk (fine_r X s _ (H.atC 2 rfl)) ?_); rintro _ _ ⟨rfl, hx⟩; replace H := H.ext hx; clear hx)
  obtain ⟨ts, sp⟩ := s
  cases sp with
  | some x =>
    have hexit : R = (Rc.and fun _ ts => takeP s_rb ts).map (fun p => p.1) := by
      rw [hR]
      cases Rc with
      | out => rfl
      | err e p => rfl
      | ok a ts1 =>
        have := ha.gd.1
        cases this
    ((repeat' ((conv => whnf); first | refine ztS ?_ | (refine ztB ?_ ?_ <;> intro _ <;> try (exfalso; omega)) | (refine ztW ?_; clear H; intro _ _ H _) | fail)); (((conv => whnf); refine Cl.mk (takeRR Y C s_rb (Rc) ⟨ts, some x⟩ _ (H.base2 HB) (H.atC 2 rfl) ha (by decide) (by decide) (by decide)) ?_); rintro _ w3 ⟨kd_, pp_, tx2, ee_, s6, rfl, ha6, hv6, H'⟩; replace H := H.upd (c := rq ws A cw pr ⟨ts, some x⟩) H' rfl (.inl rfl); clear H'); (repeat' ((conv => whnf); first | refine ztS ?_ | (refine ztB ?_ ?_ <;> intro _ <;> try (exfalso; omega)) | (refine ztW ?_; clear H; intro _ _ H _) | fail)); exact ⟨B, c, l, s6, rfl, by rw [hexit]; exact ha6.map _, by rw [hexit]; exact Vl.map (g := fun p : List Go.Tx.St × Tk => p.1) (Vl.fst hv), Hp.stlN H⟩)
  | none =>
    repeat' ((conv => whnf); first | refine ztS ?_ | (refine ztB ?_ ?_ <;> intro _ <;> try (exfalso; omega)) | (refine ztW ?_; clear H; intro _ _ H _) | fail)
    (((conv => whnf); refine Cl.mk (is_r X s_rb ⟨ts, none⟩ _ (H.base2 HB) (H.atC 2 rfl) (ends_ne ha.ends)) ?_); rintro _ _ ⟨rfl, hx⟩; replace H := H.ext hx; clear hx)
    by_cases hrb : isR s_rb ⟨ts, none⟩ = true
    · rw [hrb]
      have hexit : R = (Rc.and fun _ ts => takeP s_rb ts).map (fun p => p.1) := by
        rw [hR]
        cases Rc with
        | out => rfl
        | err e p => rfl
        | ok a ts1 =>
          rw [is_ok ha] at hrb
          have hk : curK ts1 = s_rb := by simpa using hrb
          cases n with
          | zero => exact absurd hR hne
          | succ n =>
            show ((loopB F d (n + 1) a ts1).bind _) = ((takeP s_rb ts1).bind _).bind _
            rw [loopB_s, if_pos hk]
            show (takeP s_rb ts1).bind _ = _
            cases takeP s_rb ts1 <;> rfl
      ((repeat' ((conv => whnf); first | refine ztS ?_ | (refine ztB ?_ ?_ <;> intro _ <;> try (exfalso; omega)) | (refine ztW ?_; clear H; intro _ _ H _) | fail)); (((conv => whnf); refine Cl.mk (takeRR Y C s_rb (Rc) ⟨ts, none⟩ _ (H.base2 HB) (H.atC 2 rfl) ha (by decide) (by decide) (by decide)) ?_); rintro _ w3 ⟨kd_, pp_, tx2, ee_, s6, rfl, ha6, hv6, H'⟩; replace H := H.upd (c := rq ws A cw pr ⟨ts, none⟩) H' rfl (.inl rfl); clear H'); (repeat' ((conv => whnf); first | refine ztS ?_ | (refine ztB ?_ ?_ <;> intro _ <;> try (exfalso; omega)) | (refine ztW ?_; clear H; intro _ _ H _) | fail)); exact ⟨B, c, l, s6, rfl, by rw [hexit]; exact ha6.map _, by rw [hexit]; exact Vl.map (g := fun p : List Go.Tx.St × Tk => p.1) (Vl.fst hv), Hp.stlN H⟩)
    rw [Bool.eq_false_iff.2 hrb]
    repeat' ((conv => whnf); first | refine ztS ?_ | (refine ztB ?_ ?_ <;> intro _ <;> try (exfalso; omega)) | (refine ztW ?_; clear H; intro _ _ H _) | fail)
    cases Rc with
    | out => exact absurd hR hne
    | err e p =>
      ((conv => whnf); refine Cl.mk (stmtD Y d ts _ (H.base2 HB) (H.atC 2 rfl) ha.toErr) ?_)
      rintro _ w5 ⟨⟨kd2, nm2, ⟨k1, o1, n1, a1, b1, A1, c1, l1⟩, B2, cb2, b2, E2, ce2, el2⟩, rfl, H'⟩
      replace H := H.updn (c := rq ws A cw pr ⟨ts, none⟩) (Hp.swap H') rfl (.inl rfl) (.inl rfl)
      clear H'
      ((conv => whnf); refine Al.hp H ?_; clear H; intro p6 _ H _)
      repeat' ((conv => whnf); first | refine ztS ?_ | (refine ztB ?_ ?_ <;> intro _ <;> try (exfalso; omega)) | (refine ztW ?_; clear H; intro _ _ H _) | fail)
      refine Sm.lith (cs := SM.enc (.mk kd2 nm2 (.mk k1 o1 n1 a1 b1 A1 c1 l1) B2 cb2 b2 E2 ce2 el2)) H T.ok (fun p5 w4 H _ => ?_)
      refine Sm.ap1 (enc := SM.enc) (.mk kd2 nm2 (.mk k1 o1 n1 a1 b1 A1 c1 l1) B2 cb2 b2 E2 ce2 el2) H T.ok ?_ ?_ (fun A' c' w6 H => ?_)
      · show (l.length + 1) * 152 ≤ _; omega
      · omega
      simp only [List.cons_append, List.nil_append] at H
      repeat' ((conv => whnf); first | refine ztS ?_ | (refine ztB ?_ ?_ <;> intro _ <;> try (exfalso; omega)) | (refine ztW ?_; clear H; intro _ _ H _) | fail)
      have hnn := hn rfl
      refine ⟨(.err e p, 0, A', c', l ++ [.mk kd2 nm2 (.mk k1 o1 n1 a1 b1 A1 c1 l1) B2 cb2 b2 E2 ce2 el2], ⟨ts, some (e, p)⟩), ⟨at_val rfl (by simp), rfl, rfl, trivial⟩, rfl, ⟨hR, ⟨ha.ends, .inl rfl⟩, Vl.err, (fun h => by cases h), ?_, ?_⟩, by simp [blkM]⟩
      · simp only [List.length_append, List.length_cons, List.length_nil]; omega
      · exact Hp.swap (Hp.stsS (H.sel [1, 2, 1, 1] rfl))
    | ok L ts1 =>
      obtain ⟨hs, hg⟩ := ha.gd
      obtain rfl : ts = ts1 := by cases hs; rfl
      rw [is_ok ha] at hrb
      have hk : ¬ curK ts = s_rb := by simpa using hrb
      cases n with
      | zero => exact absurd hR hne
      | succ n =>
      replace hR : R = ((stmtP F d ts).map (fun s => L ++ [s])).bind fun L ts1 => (loopB F d n L ts1).bind fun l ts2 => (takeP s_rb ts2).bind fun _ ts3 => .ok l ts3 := by
        rw [hR, Res.map_bind]
        show ((loopB F d (n + 1) L ts).bind _) = _
        rw [loopB_s, if_neg hk, Res.bind_assoc]
      ((conv => whnf); refine Cl.mk (stmt_r Y C d ts _ hd (H.base2 HB) (H.atC 2 rfl) hg (Res.map_out (Res.bind_out (by rw [← hR]; exact hne)))) ?_)
      rintro _ w5 ⟨⟨kd2, nm2, ⟨k1, o1, n1, a1, b1, A1, c1, l1⟩, B2, cb2, b2, E2, ce2, el2⟩, s5, rfl, ha5, hv5, H'⟩
      replace H := H.updn (c := rq ws A cw pr ⟨ts, none⟩) (Hp.swap H') rfl (.inl rfl) (.inl rfl)
      clear H'
      ((conv => whnf); refine Al.hp H ?_; clear H; intro p6 _ H _)
      repeat' ((conv => whnf); first | refine ztS ?_ | (refine ztB ?_ ?_ <;> intro _ <;> try (exfalso; omega)) | (refine ztW ?_; clear H; intro _ _ H _) | fail)
      refine Sm.lith (cs := SM.enc (.mk kd2 nm2 (.mk k1 o1 n1 a1 b1 A1 c1 l1) B2 cb2 b2 E2 ce2 el2)) H T.ok (fun p5 w4 H _ => ?_)
      refine Sm.ap1 (enc := SM.enc) (.mk kd2 nm2 (.mk k1 o1 n1 a1 b1 A1 c1 l1) B2 cb2 b2 E2 ce2 el2) H T.ok ?_ ?_ (fun A' c' w6 H => ?_)
      · show (l.length + 1) * 152 ≤ _; omega
      · omega
      simp only [List.cons_append, List.nil_append] at H
      repeat' ((conv => whnf); first | refine ztS ?_ | (refine ztB ?_ ?_ <;> intro _ <;> try (exfalso; omega)) | (refine ztW ?_; clear H; intro _ _ H _) | fail)
      have hnn := hn rfl
      have hle : SM.es l = L := hv L _ rfl
      refine ⟨((stmtP F d ts).map (fun s => L ++ [s]), n, A', c', l ++ [.mk kd2 nm2 (.mk k1 o1 n1 a1 b1 A1 c1 l1) B2 cb2 b2 E2 ce2 el2], s5), ⟨at_val rfl (by simp), rfl, rfl, trivial⟩, rfl, ⟨hR, ha5.map _, ?_, fun _ => ?_, ?_, ?_⟩, ?_⟩
      · refine Vl.map (hv5.mono fun a h => ?_)
        rw [SM.es_app, hle]
        simp only [SM.es]
        rw [h]; rfl
      · simp only [List.length_append, List.length_cons, List.length_nil]; omega
      · simp only [List.length_append, List.length_cons, List.length_nil]; omega
      · exact Hp.swap (Hp.stsS (H.sel [1, 2, 1, 1] rfl))
      · exact Nat.lt_of_le_of_lt (blkM_le _ _ _) (by show n + 3 < (n + 1 + 2) + 1; omega)
end
end Go.Proofs.YtfnjodpehomgfaaGreatDoor
