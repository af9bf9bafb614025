/- own work: TqC, TsH, PtF -/
import Derived.Test.YtfnjodpehomgfaaGreatDoorMJ4
import Derived.Test.YtfnjodpehomgfaaGreatDoorMJ5
set_option linter.unusedVariables false
set_option linter.unusedSimpArgs false
set_option linter.unusedSectionVars false
namespace Go.Tx
def isB (c : UInt8) : Bool := decide (c = 32 ∨ c = 9 ∨ c = 10)
inductive Fil : Bs → Bs → Prop
  | nil : Fil [] []
  | gap {c : UInt8} {a b g : Bs} : isB c = true → GapOk g → g ≠ [] → Fil a b → Fil (c :: a) (g ++ b)
  | byte {c : UInt8} {a b : Bs} : isB c = false → Fil a b → Fil (c :: a) (c :: b)
theorem Fil.app {a b a' b' : Bs} (h : Fil a b) (h' : Fil a' b') : Fil (a ++ a') (b ++ b') := by
  induction h with
  | nil => exact h'
  | gap h1 h2 h3 _ ih => rw [List.append_assoc]; exact .gap h1 h2 h3 ih
  | byte h1 _ ih => exact .byte h1 ih
theorem Fil.ofGap : ∀ {g : Bs} {r q : Bs}, Bk g → Fil (g ++ r) q → ∃ g' r', q = g' ++ r' ∧ GapOk g' ∧ (g = [] ↔ g' = []) ∧ Fil r r'
  | [], r, q, _, h => ⟨[], q, rfl, GapOk.nil, Iff.rfl, h⟩
  | c :: g, r, q, hb, h => by
    have hc : isB c = true := by
      unfold isB
      rw [decide_eq_true_eq]
      exact hb c (by simp)
    rw [List.cons_append] at h
    generalize hx : c :: (g ++ r) = x at h
    cases h with
    | nil => cases hx
    | gap h1 h2 h3 h4 =>
      cases hx
      rename_i b g1
      obtain ⟨g2, r', rfl, k1, k2, k3⟩ := Fil.ofGap (fun y hy => hb y (by simp [hy])) h4
      exact ⟨g1 ++ g2, r', (List.append_assoc _ _ _).symm, h2.app k1, ⟨fun h => (by cases h), fun h => absurd (List.append_eq_nil_iff.1 h).1 h3⟩, k3⟩
    | byte h1 h2 =>
      cases hx
      rw [hc] at h1; cases h1
theorem Fil.ofWord : ∀ {w : Bs} {r q : Bs}, (∀ c ∈ w, isB c = false) → Fil (w ++ r) q → ∃ r', q = w ++ r' ∧ Fil r r'
  | [], r, q, _, h => ⟨q, rfl, h⟩
  | c :: w, r, q, hb, h => by
    have hc := hb c (by simp)
    rw [List.cons_append] at h
    generalize hx : c :: (w ++ r) = x at h
    cases h with
    | nil => cases hx
    | gap h1 _ _ _ =>
      cases hx
      rw [hc] at h1; cases h1
    | byte h1 h2 =>
      cases hx
      obtain ⟨r', rfl, k⟩ := Fil.ofWord (fun y hy => hb y (by simp [hy])) h2
      exact ⟨r', rfl, k⟩
theorem ad_nb {w : Bs} {o : Option UInt8} (h : Ad w o) : ∀ c ∈ w, isB c = false := by
  have hal : ∀ c : UInt8, alnum c = true → isB c = false := fun c hc => by
    unfold isB
    rw [decide_eq_false_iff_not]
    rintro (rfl | rfl | rfl) <;> exact absurd hc (by decide)
  rcases h with ⟨h, _⟩ | ⟨⟨m, rfl, _⟩, _⟩ | ⟨h, _⟩
  · obtain ⟨_, _, _, _, h4⟩ := wn_shape h
    exact fun c hc => hal c (h4 c hc)
  · exact fun c hc => hal c (by unfold alnum; rw [dec_dig m c hc, Bool.or_true])
  · have key : ∀ w ∈ signs, w.all (fun c => !isB c) = true := by decide
    intro c hc
    have := List.all_eq_true.1 (key w h) c hc
    simpa using this
theorem Fil.items : ∀ {L : List It} {o : Option UInt8} {t q : Bs}, GBk L → AdjK L o → Fil (rnd L ++ t) q → ∃ L' t', q = rnd L' ++ t' ∧ Shp L L' ∧ GapsOk L' ∧ Fil t t'
  | [], o, t, q, _, _, h => ⟨[], q, rfl, trivial, fun x hx => (by cases hx), h⟩
  | (g, w) :: L, o, t, q, hb, ha, h => by
    rw [rnd_cons, List.append_assoc, List.append_assoc] at h
    obtain ⟨g', q1, rfl, k1, k2, h1⟩ := Fil.ofGap (hb (g, w) (by simp)) h
    obtain ⟨q2, rfl, h2⟩ := Fil.ofWord (ad_nb ha.1) h1
    obtain ⟨L', t', rfl, k3, k4, k5⟩ := Fil.items (fun x hx => hb x (by simp [hx])) ha.2 h2
    refine ⟨(g', w) :: L', t', by rw [rnd_cons, List.append_assoc, List.append_assoc], ⟨rfl, k2, k3⟩, fun x hx => ?_, k5⟩
    rcases List.mem_cons.1 hx with rfl | hx
    · exact k1
    · exact k4 x hx
theorem blanks_law {fs : List Fnc} {q : Bs} {fuel fuel2 : Nat} {ts : List Tk} (h : parseP (whole fs) fuel = .ok fs ts) (hf : Fil (whole fs) q) (ho : parseP q fuel2 ≠ .out) : ∃ ts2, parseP q fuel2 = .ok fs ts2 := by
  obtain ⟨h3, h4, _⟩ := parse_good h
  have hb2 := h3
  simp only [treeB, Bool.and_eq_true, decide_eq_true_eq] at hb2
  have hrg := fun f hf => (h4 f hf).rg
  have hw := itL_rnd fs [] hb2.1 hb2.2
  rw [List.nil_append] at hw
  rw [← hw] at hf
  obtain ⟨L, t, rfl, k1, k2, k3⟩ := Fil.items (gbL fs [] bk0) (adjL fs [] hb2.2 hrg) hf
  have ht : GapOk t := by
    obtain ⟨g', r', rfl, k4, _, k5⟩ := Fil.ofGap (g := [10]) (r := []) bk10 k3
    cases k5
    rw [List.append_nil]; exact k4
  obtain ⟨e, hz⟩ := reads h3 hrg k1 k2 ht fuel2
  rcases hz with hz | hz | ⟨hz, _⟩
  · exact absurd hz ho
  · exact ⟨_, hz⟩
  · exact absurd (fun f hf => (h4 f hf).ns) hz
end Go.Tx
namespace Go.Sh
theorem run_rem {P : Program} {t : Nat} {a b : Int} {xo yo : Operand} (hb : b ≠ 0) (w : World) : (do eqGuard .rem t xo yo (.int .i64 a) (.int .i64 b); binOp .rem t (.int .i64 a) (.int .i64 b) : Sem Value).run P w = .ok (.int .i64 (a.tmod b)) w := by
  have hg : (eqGuard .rem t xo yo (.int .i64 a) (.int .i64 b)).run P w = .ok () w := by unfold eqGuard; simp
  simp [hg, binOp, Op.intDiv, hb]
end Go.Sh
namespace Go.Tx
theorem gap_of {g : Bs} (h : ∀ r p, skp false (g ++ r) p = skp false r (p + g.length)) (h2 : (match g with | c :: _ => blank c | [] => true) = true) : GapOk g :=
  ⟨h, fun c r hg => by subst hg; exact h2⟩
def fill1 : Bs := [10]
def fill2 : Bs := [9, 13, 32, 10]
def fill3 : Bs := [32, 47, 47, 32, 120, 32, 125, 32, 59, 32, 123, 32, 34, 32, 47, 47, 32, 39, 10]
def fill4 : Bs := [32, 47, 47, 10, 47, 47, 10, 32]
def fill5 : Bs := [13]
def fill6 : Bs := [9]
def fill7 : Bs := [32, 47, 47, 102, 110, 255, 0, 10]
def fill8 : Bs := [32]
def IsFill (g : Bs) : Prop := GapOk g ∧ g ≠ [] ∧ g.length ≤ 19
theorem fills_ok : IsFill fill1 ∧ IsFill fill2 ∧ IsFill fill3 ∧ IsFill fill4 ∧ IsFill fill5 ∧ IsFill fill6 ∧ IsFill fill7 ∧ IsFill fill8 :=
  ⟨⟨gap_of (fun r p => rfl) rfl, by decide, by decide⟩, ⟨gap_of (fun r p => rfl) rfl, by decide, by decide⟩, ⟨gap_of (fun r p => rfl) rfl, by decide, by decide⟩, ⟨gap_of (fun r p => rfl) rfl, by decide, by decide⟩,
   ⟨gap_of (fun r p => rfl) rfl, by decide, by decide⟩, ⟨gap_of (fun r p => rfl) rfl, by decide, by decide⟩, ⟨gap_of (fun r p => rfl) rfl, by decide, by decide⟩, ⟨gap_of (fun r p => rfl) rfl, by decide, by decide⟩⟩
end Go.Tx
namespace Go.Proofs.YtfnjodpehomgfaaGreatDoor
open Go Go.Sh Go.Tx
attribute [local irreducible] Blk Ext RdS
def inF (n : Int) : List Value := [.int .i64 n]
theorem fill_c (n : Int) (w : World) : Cl Tryz.prog 24 #[.int .i64 n] w (fun v w' => ∃ g, v = .string (bs g) ∧ IsFill g ∧ Ext w w') (fun _ _ => False) := by
  obtain ⟨f1, f2, f3, f4, f5, f6, f7, f8⟩ := fills_ok
  refine calls_ex (args := [.int .i64 n]) T.ok Tryz.func24 rfl rfl rfl rfl ?_
  have H := Hp.begin nw w
  repeat' ((conv => whnf); first | refine ztS ?_ | (refine ztB ?_ ?_ <;> intro _ <;> try (exfalso; omega)) | (refine ztW ?_; clear H; intro _ _ H _) | fail)
  refine Sm.ran (run_rem (by decide) _) ?_
  generalize n.tmod 8 = k
  repeat' ((conv => whnf); first | refine ztS ?_ | (refine ztB ?_ ?_ <;> intro _ <;> try (exfalso; omega)) | (refine ztW ?_; clear H; intro _ _ H _) | fail)
  all_goals first | exact ⟨fill1, rfl, f1, H.e⟩ | exact ⟨fill2, rfl, f2, H.e⟩ | exact ⟨fill3, rfl, f3, H.e⟩ | exact ⟨fill4, rfl, f4, H.e⟩ | exact ⟨fill5, rfl, f5, H.e⟩ | exact ⟨fill6, rfl, f6, H.e⟩ | exact ⟨fill7, rfl, f7, H.e⟩ | exact ⟨fill8, rfl, f8, H.e⟩
theorem take_snoc {l : Bs} {i : Nat} {c : UInt8} (h : l[i]? = some c) : l.take (i + 1) = l.take i ++ [c] := by
  obtain ⟨h1, h2⟩ := List.getElem?_eq_some_iff.1 h
  rw [List.take_succ_eq_append_getElem h1, h2]
theorem cut_one {l : Bs} {i : Nat} {c : UInt8} (h : l[i]? = some c) : (l.drop i).take (i + 1 - i) = [c] := by
  obtain ⟨h1, h2⟩ := List.getElem?_eq_some_iff.1 h
  rw [List.drop_eq_getElem_cons h1, h2, Nat.add_sub_cancel_left]; rfl
set_option maxHeartbeats 8000000 in
theorem textBlanks_c (m : List FM) (A : Option Addr) (c : Nat) (B : Option Addr) (l : List Int) (cl : Nat) (w : World) (hG : Rp w) (hR : Rdy w A m) (hN : nP (m.map FM.e) ≤ 1048576) (hr : ∀ f ∈ m, rgSs (SM.es f.body)) (hl : RdS inF 1 w B l) (hll : l.length ≤ 9000000) :
    Cl Tryz.prog 8 #[.agg #[.slice A m.length c], .slice B l.length cl] w (fun u w' => u = .bool true ∧ Ext w w') (fun _ _ => False) := by
  refine calls_ex (args := [.agg #[.slice A m.length c], .slice B l.length cl]) T.ok Tryz.func8 rfl rfl rfl rfl ?_
  have H := Hp.begin nw w
  refine Sq.mk ?_
  ((conv => whnf); refine Al.hp H ?_; clear H; intro p1 _ H _)
  repeat' ((conv => whnf); first | refine ztT ?_ | (refine ztB ?_ ?_ <;> intro _ <;> try (exfalso; omega)) | (refine ztW ?_; clear H; intro _ _ H _) | fail)
  ((conv => whnf); refine Cl.mk (beyond_c m A c _ (RdS.from H.e hR.rd) (fun f hf => (hR.all f hf).ext H.e) hR.len (by omega)) ?_)
  rintro _ w1 ⟨b, rfl, ex⟩
  replace H := H.ext ex
  clear ex
  cases b with
  | true =>
    repeat' ((conv => whnf); first | refine ztT ?_ | (refine ztB ?_ ?_ <;> intro _ <;> try (exfalso; omega)) | (refine ztW ?_; clear H; intro _ _ H _) | fail)
    exact ⟨rfl, H.e⟩
  | false =>
  repeat' ((conv => whnf); first | refine ztT ?_ | (refine ztB ?_ ?_ <;> intro _ <;> try (exfalso; omega)) | (refine ztW ?_; clear H; intro _ _ H _) | fail)
  ((conv => whnf); refine Cl.mk (copied_c m A c _ (RdS.from H.e hR.rd) (fun f hf => (hR.all f hf).ext H.e) hR.len) ?_)
  rintro _ w2 ⟨A2, c2, m2, S2, rfl, hm2, H'⟩
  replace H := H.fr0L H' (fun c hc => by simp only [List.mem_cons, List.not_mem_nil, or_false] at hc; rcases hc with rfl | rfl <;> exact .inl rfl)
  have hml := hR.len
  have hl2 := len_map hm2
  have hrdy := rdy_copy H' (by omega) (by rw [hm2]; omega) (rg_map hm2 hr)
  clear H'
  ((conv => whnf); refine Cl.mk (Print_c m2 A2 c2 _ (hG.ext H.e) hrdy.rd hrdy.all hrdy.len hrdy.fit) ?_)
  rw [hm2]
  by_cases h0 : (printP (m.map FM.e)).2 = 0
  rotate_left
  · generalize (printP (m.map FM.e)).2 = E at h0
    generalize (printP (m.map FM.e)).1 = q
    rintro _ w3 ⟨rfl, ex⟩
    replace H := H.ext ex
    clear ex
    repeat' (first | ((conv => whnf); first | refine ztT ?_ | (refine ztB ?_ ?_ <;> intro _ <;> try (exfalso; omega)) | (refine ztW ?_; clear H; intro _ _ H _) | fail) | (((conv => whnf); refine Cl.mk (head_c _ (hG.ext H.e)) ?_); rintro _ _ ⟨rfl, hx⟩; replace H := H.ext hx; clear hx))
    all_goals first | exact ⟨rfl, H.e⟩ | (exfalso; omega) | skip
  obtain ⟨hpr, _, ts, hok⟩ := round_law h0 (fun f hf => by
    obtain ⟨g, hg, rfl⟩ := List.mem_map.1 hf
    exact hr g hg)
  have hwl : (whole (m.map FM.e)).length ≤ 16384 := by
    rcases Nat.lt_or_ge 16384 (whole (m.map FM.e)).length with h | h
    · unfold PR at hok; rw [if_pos h] at hok; cases hok
    · exact h
  rw [hpr]
  rintro _ w3 ⟨rfl, ex⟩
  replace H := H.ext ex
  clear ex
  by_cases hle : l = []
  · subst hle
    have hl0 : ([] : List Int).length = 0 := rfl
    repeat' (first | ((conv => whnf); first | refine ztT ?_ | (refine ztB ?_ ?_ <;> intro _ <;> try (exfalso; omega)) | (refine ztW ?_; clear H; intro _ _ H _) | fail) | (((conv => whnf); refine Cl.mk (head_c _ (hG.ext H.e)) ?_); rintro _ _ ⟨rfl, hx⟩; replace H := H.ext hx; clear hx))
    all_goals first | exact ⟨rfl, H.e⟩ | (exfalso; omega) | skip
  have hlp := List.length_pos_iff.2 hle
  repeat' ((conv => whnf); first | refine ztT ?_ | (refine ztB ?_ ?_ <;> intro _ <;> try (exfalso; omega)) | (refine ztW ?_; clear H; intro _ _ H _) | fail)
  all_goals first | (exfalso; omega) | skip
  generalize hP : whole (m.map FM.e) = P at *
  have hPs := bs_size P
  refine Lp.g0 T.ok (σ := Nat × Nat × Bs) (fun s => [(9, .int .i64 (s.1 : Int)), (8, .int .i64 (s.2.1 : Int)), (7, .string (bs s.2.2)), (5, .string (bs P)), (2, .pointer (some ⟨p1, 0, none⟩)), (1, .slice B l.length cl), (4, .bool false)])
    (fun s w' => s.1 ≤ P.length ∧ s.2.1 ≤ s.1 ∧ s.2.2.length ≤ 19 * s.1 ∧ Fil (P.take s.1) s.2.2 ∧ Hp nw w w' [bk p1 24 [.slice A m.length c]])
    (fun s _ => P.length - s.1) (0, 0, []) rfl ⟨rfl, rfl, rfl, rfl, rfl, rfl, rfl, trivial⟩ ⟨Nat.zero_le _, Nat.zero_le _, Nat.zero_le _, .nil, H.sel [2] rfl⟩ ?_
  clear H hrdy
  rintro ⟨i, k, q⟩ w5 ⟨hi, hk, hq, hF, H⟩
  dsimp only at hi hk hq hF H ⊢
  have hqs := bs_size q
  by_cases hlt : i < P.length
  · obtain ⟨x, hx⟩ : ∃ x, P[i]? = some x := ⟨_, List.getElem?_eq_getElem hlt⟩
    have hts := take_snoc hx
    have hco := cut_one hx
    have hwi : IntKind.i64.wrap ((i : Int) + 1) = ((i + 1 : Nat) : Int) := w64 rfl (by omega) (by omega)
    cases hb : isB x with
    | true =>
      have hkm : ((k : Int).tmod (l.length : Int)) = ((k % l.length : Nat) : Int) := rfl
      have hkl : k % l.length < l.length := Nat.mod_lt _ hlp
      obtain ⟨y, hy⟩ : ∃ y, l[k % l.length]? = some y := ⟨_, List.getElem?_eq_getElem hkl⟩
      have hr1 := RdS.from H.e hl
      have hb2 := hb
      unfold isB at hb2
      rw [decide_eq_true_eq] at hb2
      have hx3 : ((x.toNat : Nat) : Int) = 32 ∨ ((x.toNat : Nat) : Int) = 9 ∨ ((x.toNat : Nat) : Int) = 10 := by
        rcases hb2 with rfl | rfl | rfl
        · exact .inl rfl
        · exact .inr (.inl rfl)
        · exact .inr (.inr rfl)
      repeat' ((conv => whnf); first | refine ztT ?_ | (refine ztB ?_ ?_ <;> intro _ <;> try (exfalso; omega)) | (refine ztW ?_; clear H; intro _ _ H _) | fail)
      all_goals first | (exfalso; omega) | skip
      all_goals
        refine Sm.ran (run_rem (by omega) _) ?_
        rw [hkm]
        repeat' ((conv => whnf); first | refine ztT ?_ | (refine ztB ?_ ?_ <;> intro _ <;> try (exfalso; omega)) | (refine ztW ?_; clear H; intro _ _ H _) | fail)
        ((conv => whnf); refine Cl.mk (fill_c y _) ?_)
        rintro _ w6 ⟨g, rfl, ⟨hg1, hg2, hg3⟩, ex⟩
        replace H := H.ext ex
        clear ex
        repeat' ((conv => whnf); first | refine ztT ?_ | (refine ztB ?_ ?_ <;> intro _ <;> try (exfalso; omega)) | (refine ztW ?_; clear H; intro _ _ H _) | fail)
        refine Sm.cat (by omega) ?_
        repeat' ((conv => whnf); first | refine ztT ?_ | (refine ztB ?_ ?_ <;> intro _ <;> try (exfalso; omega)) | (refine ztW ?_; clear H; intro _ _ H _) | fail)
        refine ⟨(i + 1, k + 1, q ++ g), ⟨at_int (m := ((i + 1 : Nat) : Int)) rfl (w64 (by simp) (by omega) (by omega)), at_int (m := ((k + 1 : Nat) : Int)) rfl (w64 (by simp) (by omega) (by omega)), rfl, rfl, rfl, rfl, rfl, trivial⟩, rfl, ⟨hlt, Nat.succ_le_succ hk, ?_, ?_, H⟩, (show P.length - (i + 1) < P.length - i by omega)⟩
        · dsimp only; rw [List.length_append]; omega
        · dsimp only; rw [hts]
          refine Fil.app hF ?_
          have := Fil.gap hb hg1 hg2 Fil.nil
          rwa [List.append_nil] at this
    | false =>
      have hb2 := hb
      unfold isB at hb2
      rw [decide_eq_false_iff_not] at hb2
      have hx3 : ¬ ((x.toNat : Nat) : Int) = 32 ∧ ¬ ((x.toNat : Nat) : Int) = 9 ∧ ¬ ((x.toNat : Nat) : Int) = 10 := by
        refine ⟨fun h => hb2 (.inl ?_), fun h => hb2 (.inr (.inl ?_)), fun h => hb2 (.inr (.inr ?_))⟩
        · exact UInt8.toNat_inj.1 (by show x.toNat = 32; omega)
        · exact UInt8.toNat_inj.1 (by show x.toNat = 9; omega)
        · exact UInt8.toNat_inj.1 (by show x.toNat = 10; omega)
      repeat' ((conv => whnf); first | refine ztT ?_ | (refine ztB ?_ ?_ <;> intro _ <;> try (exfalso; omega)) | (refine ztW ?_; clear H; intro _ _ H _) | fail)
      all_goals first | (exfalso; omega) | skip
      refine Sm.strcut (i := i) (j := i + 1) T.ok (Nat.le_succ i) hlt ?_ rfl rfl rfl hwi
      rw [hco]
      repeat' ((conv => whnf); first | refine ztT ?_ | (refine ztB ?_ ?_ <;> intro _ <;> try (exfalso; omega)) | (refine ztW ?_; clear H; intro _ _ H _) | fail)
      refine Sm.cat (by simp only [List.length_cons, List.length_nil]; omega) ?_
      repeat' ((conv => whnf); first | refine ztT ?_ | (refine ztB ?_ ?_ <;> intro _ <;> try (exfalso; omega)) | (refine ztW ?_; clear H; intro _ _ H _) | fail)
      refine ⟨(i + 1, k, q ++ [x]), ⟨at_int (m := ((i + 1 : Nat) : Int)) rfl (w64 (by simp) (by omega) (by omega)), rfl, rfl, rfl, rfl, rfl, rfl, trivial⟩, rfl, ⟨hlt, Nat.le_succ_of_le hk, ?_, ?_, H⟩, (show P.length - (i + 1) < P.length - i by omega)⟩
      · dsimp only; rw [List.length_append]; simp only [List.length_cons, List.length_nil]; omega
      · dsimp only; rw [hts]
        exact Fil.app hF (.byte hb .nil)
  · rw [List.take_of_length_le (by omega)] at hF
    repeat' (first | ((conv => whnf); first | refine ztT ?_ | (refine ztB ?_ ?_ <;> intro _ <;> try (exfalso; omega)) | (refine ztW ?_; clear H; intro _ _ H _) | fail) | (((conv => whnf); refine Cl.mk (head_c _ (hG.ext H.e)) ?_); rintro _ _ ⟨rfl, hx⟩; replace H := H.ext hx; clear hx))
    all_goals first | exact ⟨rfl, H.e⟩ | (exfalso; omega) | skip
    have hq2 : q.length ≤ 16384 := by omega
    have hok2 : ∃ ts2, PR q = .ok (m.map FM.e) ts2 := by
      rw [← hP] at hok hF
      have hpp : parseP (whole (m.map FM.e)) (fuelOf (whole (m.map FM.e))) = .ok (m.map FM.e) ts := by
        unfold PR at hok
        split at hok
        · cases hok
        · exact hok
      have hno : parseP q (fuelOf q) ≠ .out := fun h => by
        have := parse_fin q
        rw [h] at this
        exact this
      obtain ⟨ts2, h2⟩ := blanks_law hpp hF hno
      exact ⟨ts2, by unfold PR; rw [if_neg (by omega)]; exact h2⟩
    obtain ⟨ts2, hok2⟩ := hok2
    ((conv => whnf); refine Cl.mk (Parse_c q _ (hG.rg.ext H.e)) ?_)
    rintro _ w4 (⟨m3, ts3, A3, c3, hp3, rfl, hlm3, H'⟩ | ⟨e, q', hp3, rfl, ex⟩)
    rotate_left
    · rw [hok2] at hp3; cases hp3
    replace H := H.fr0L H' (fun c hc => by simp only [List.mem_cons, List.not_mem_nil, or_false] at hc; rcases hc with rfl | rfl <;> exact .inl rfl)
    clear H'
    have hmm : m3.map FM.e = m.map FM.e := by rw [hok2] at hp3; simp only [Res.ok.injEq] at hp3; exact hp3.1.symm
    repeat' ((conv => whnf); first | refine ztT ?_ | (refine ztB ?_ ?_ <;> intro _ <;> try (exfalso; omega)) | (refine ztW ?_; clear H; intro _ _ H _) | fail)
    ((conv => whnf); refine Al.hp H ?_; clear H; intro p3 _ H _)
    ((conv => whnf); refine Al.hp H ?_; clear H; intro p4 _ H _)
    repeat' ((conv => whnf); first | refine ztT ?_ | (refine ztB ?_ ?_ <;> intro _ <;> try (exfalso; omega)) | (refine ztW ?_; clear H; intro _ _ H _) | fail)
    (((conv => whnf); refine Cl.mk (same_l m m3 A A3 c c3 _ (RdS.from H.e hR.rd) (fun f hf => ((hR.all f hf).ext H.e).lo) (H.rdq 2 rfl) (FM.oks_lo (H.atC (c := fns m3) 3 rfl).1) hR.len) ?_); rintro _ _ ⟨rfl, hx⟩; replace H := H.ext hx; clear hx)
    rw [hmm, sameP_refl]
    repeat' ((conv => whnf); first | refine ztT ?_ | (refine ztB ?_ ?_ <;> intro _ <;> try (exfalso; omega)) | (refine ztW ?_; clear H; intro _ _ H _) | fail)
    all_goals first | exact ⟨rfl, H.e⟩ | (exfalso; omega) | skip
end Go.Proofs.YtfnjodpehomgfaaGreatDoor
namespace Go.Proofs.YtfnjodpehomgfaaGreatDoor
open Go Go.Sh Go.Tx
attribute [local irreducible] Blk Ext RdS
theorem u_ints : Tryz.prog.underlying 43 = some (.slice 3) := (T.ok.1.get (t := 43) (i := T.t43) rfl).1
section
variable {H : Type} {enc : TypeId × Value → H} {w : World} {sp : Nat → Bool} {held : Bool}
theorem bulk_len : ∀ es : List (DataW H), es.length ≤ Rows.uptoBulkAll es
  | [] => Nat.zero_le _
  | d :: r => by
    have := bulk_len r
    have := bulk1 d
    simp only [List.length_cons, Rows.uptoBulkAll]; omega
set_option maxRecDepth 100000 in
theorem arg_ints {v : Value} {d : DataW H} {p : List MemPlace} {r : Go.Reach} {b0 : Nat} (hv : Value.okWide Tryz.prog w r b0 43 v) (h : DataW.Trod enc Tryz.prog w 0 sp held 43 v d p) :
    ∃ (A : Option Addr) (l : List Int) (c : Nat), v = .slice A l.length c ∧ RdS inF 1 w A l ∧ l.length ≤ Rows.uptoBulk d := by
  obtain ⟨A0, n0, c0, rfl⟩ := WideShapes.okWide_slice u_ints hv
  obtain ⟨n, hn'⟩ := h
  obtain ⟨A, l, c, h1, _, _, _, h5, h6⟩ := read_sliceB (R := fun _ a cs => cs = inF a) (Q := fun _ _ => True) (sz := 1) u_ints n_int1 (by decide) (fun m cs y _ hy => by
    obtain ⟨n0, q0, _, _⟩ := read_int u_int hy
    exact ⟨n0, by rw [q0]; rfl, q0, trivial⟩) hn'
  have h1 : [Value.slice A0 n0 c0] = [.slice A l.length c] := h1
  simp only [List.cons.injEq, and_true] at h1
  refine ⟨A, l, c, h1, by unfold RdS; exact h5, ?_⟩
  rcases h6 with ⟨rfl, _⟩ | ⟨es, rest, h7, h8, _⟩
  · exact Nat.zero_le _
  · have h7 : d = .slice es rest := h7
    have := bulk_len es
    rw [h7]
    simp only [Rows.uptoBulk]
    omega
end
end Go.Proofs.YtfnjodpehomgfaaGreatDoor
