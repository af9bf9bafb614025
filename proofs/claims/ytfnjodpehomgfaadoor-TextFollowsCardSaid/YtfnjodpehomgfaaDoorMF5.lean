/- own work: TvO, PtA, PtD -/
import Derived.Test.YtfnjodpehomgfaaDoorCards
import Derived.Test.YtfnjodpehomgfaaDoorTie
import Derived.DataShut
import Derived.ProofKit
import Derived.LaidHandle
import Derived.Stop.LaidErr
import Derived.Deep.DeepHandedRow
import Derived.Deep.DeepWitnessRowRef
import Derived.Test.YtfnjodpehomgfaaDoorMF4
set_option linter.unusedVariables false
set_option linter.unusedSimpArgs false
set_option linter.unusedSectionVars false
namespace Go.Proofs.YtfnjodpehomgfaaDoor
open Go Go.Sh Go.Tx
attribute [local irreducible] Blk Ext RdS
set_option maxHeartbeats 4000000 in
theorem textFollows_c (l m : Bs) (w : World) (hG : Rp w) (hl : l.length ≤ 140737488351232) (hm : m.length ≤ 140737488351232) :
    Cl Tryd.prog 5 #[.string (bs l), .string (bs m)] w (fun u w' => u = .bool true ∧ Ext w w') (fun _ _ => False) := by
  refine calls_ex (args := [.string (bs l), .string (bs m)]) T.ok Tryd.func5 rfl rfl rfl rfl ?_
  have H := Hp.begin nw w
  have hsl := bs_size l
  have hsm := bs_size m
  have hw1 : IntKind.i64.wrap (((bs l).size : Int) + 1) = ((l.length + 1 : Nat) : Int) := w64 (by rw [hsl]; rfl) (by omega) (by omega)
  have hw2 : IntKind.i64.wrap (IntKind.i64.wrap (((bs l).size : Int) + 1) + ((bs m).size : Int)) = ((l.length + 1 + m.length : Nat) : Int) := by
    rw [hw1]
    exact w64 (by rw [hsm]; rfl) (by omega) (by omega)
  repeat' ((conv => whnf); first | refine ztT ?_ | (refine ztB ?_ ?_ <;> intro _ <;> try (exfalso; omega)) | (refine ztW ?_; clear H; intro _ _ H _) | fail)
  ((conv => whnf); refine Cl.mk (Parse_c l _ (hG.rg.ext H.e)) ?_)
  intro v2 w2 q2
  obtain ⟨m2, A2, c2, e2, rfl, l2, H'⟩ := okq q2
  clear q2
  replace H := H.fr0L H' (fun c hc => by simp only [List.mem_cons, List.not_mem_nil, or_false] at hc; rcases hc with rfl | rfl <;> exact .inl rfl)
  clear H'
  obtain ⟨R, hR⟩ : ∃ R, R = PR l := ⟨_, rfl⟩
  rw [← hR]
  repeat' ((conv => whnf); first | refine ztT ?_ | (refine ztB ?_ ?_ <;> intro _ <;> try (exfalso; omega)) | (refine ztW ?_; clear H; intro _ _ H _) | fail)
  ((conv => whnf); refine Al.hp H ?_; clear H; intro p1 _ H _)
  ((conv => whnf); refine Al.hp H ?_; clear H; intro p2 _ H _)
  repeat' (first | ((conv => whnf); first | refine ztT ?_ | (refine ztB ?_ ?_ <;> intro _ <;> try (exfalso; omega)) | (refine ztW ?_; clear H; intro _ _ H _) | fail) | (((conv => whnf); refine Cl.mk (head_c _ (hG.ext H.e)) ?_); rintro _ _ ⟨rfl, hx⟩; replace H := H.ext hx; clear hx))
  all_goals first | exact ⟨rfl, H.e⟩ | skip
  have hne : errOf R ≠ 0 := by assumption
  have hpl : ¬ ((plcOf R : Int) ≥ ((bs l).size : Int)) := by assumption
  obtain ⟨e, q, hRe⟩ : ∃ e q, R = .err e q := by
    cases hc : R with
    | out => rw [hc] at hne; exact absurd rfl hne
    | ok a ts => rw [hc] at hne; exact absurd rfl hne
    | err e q => exact ⟨e, q, rfl⟩
  have hp1 : errOf R = e := by rw [hRe]; rfl
  have hp2 : plcOf R = q := by rw [hRe]; rfl
  rw [hp1, hp2] at H
  rw [hp2] at hpl
  have hql : q < l.length := by omega
  have hlm : l.length + 1 + m.length ≤ 16384 := by omega
  have hll : (l ++ 10 :: m).length ≤ 16384 := by rw [List.length_append, List.length_cons]; omega
  have hF : PR (l ++ 10 :: m) = .err e q := by
    rw [hRe] at hR
    rw [pr_lit (by omega)] at hR
    rw [pr_lit hll]
    exact parse_follows hR.symm hql
  repeat' ((conv => whnf); first | refine ztT ?_ | (refine ztB ?_ ?_ <;> intro _ <;> try (exfalso; omega)) | (refine ztW ?_; clear H; intro _ _ H _) | fail)
  refine Sm.cat (l := l) (m := [10]) (by simp; omega) ?_
  repeat' ((conv => whnf); first | refine ztT ?_ | (refine ztB ?_ ?_ <;> intro _ <;> try (exfalso; omega)) | (refine ztW ?_; clear H; intro _ _ H _) | fail)
  refine Sm.cat (l := l ++ [10]) (m := m) (by simp; omega) ?_
  repeat' ((conv => whnf); first | refine ztT ?_ | (refine ztB ?_ ?_ <;> intro _ <;> try (exfalso; omega)) | (refine ztW ?_; clear H; intro _ _ H _) | fail)
  rw [List.append_assoc, List.cons_append, List.nil_append]
  ((conv => whnf); refine Cl.mk (Parse_c (l ++ 10 :: m) _ (hG.rg.ext H.e)) ?_)
  rintro _ w3 (⟨m3, ts3, A3, c3, hp3, _, _, _⟩ | ⟨e3, q3, hp3, rfl, ex⟩)
  · rw [hF] at hp3; cases hp3
  rw [hF] at hp3
  simp only [Res.err.injEq] at hp3
  obtain ⟨rfl, rfl⟩ := hp3
  replace H := H.ext ex
  repeat' ((conv => whnf); first | refine ztT ?_ | (refine ztB ?_ ?_ <;> intro _ <;> try (exfalso; omega)) | (refine ztW ?_; clear H; intro _ _ H _) | fail)
  ((conv => whnf); refine Al.hp H ?_; clear H; intro p3 _ H _)
  ((conv => whnf); refine Al.hp H ?_; clear H; intro p4 _ H _)
  repeat' ((conv => whnf); first | refine ztT ?_ | (refine ztB ?_ ?_ <;> intro _ <;> try (exfalso; omega)) | (refine ztW ?_; clear H; intro _ _ H _) | fail)
  · exact ⟨rfl, H.e⟩
  · exfalso
    simp_all
end Go.Proofs.YtfnjodpehomgfaaDoor
namespace Go.Proofs.YtfnjodpehomgfaaDoor
open Go Go.Sh Go.Tx
attribute [local irreducible] Blk Ext RdS
theorem kids : Kids Tryd.prog (· < Tryd.prog.types.size) := kids_rows (by kernel_rfl) (by kernel_rfl)
theorem full : ∀ t e, t < Tryd.prog.types.size → Tryd.prog.underlying t = some (.slice e) → 0 < Tryd.prog.cellsOf e := slices_full_of _ (by kernel_rfl)
theorem own : ownKnob Tryd.prog.godebug = none := by kernel_rfl
theorem u_bool : Tryd.prog.underlying 4 = some .bool := (T.ok.1.get (t := 4) (i := T.t4) rfl).1
set_option maxRecDepth 100000 in
theorem arg_string {H : Type} {enc : TypeId × Value → H} {w : World} {sp : Nat → Bool} {held : Bool} {v : Value} {d : DataW H} {p : List MemPlace} {r : Go.Reach} {b0 : Nat} (hv : Value.okWide Tryd.prog w r b0 9 v) (h : DataW.Trod enc Tryd.prog w 0 sp held 9 v d p) :
    ∃ l : Bs, v = .string (bs l) ∧ d = .lit (.string l) ∧ l.length ≤ maxLen := by
  obtain ⟨s, rfl, rfl, _, hs⟩ := ChangeMaps.open_string (P := Tryd.prog) (t := 9) u_string hv h
  exact ⟨s.data.toList, by rw [← bs_of], rfl, Nat.le_trans (Nat.le_of_eq Array.length_toList) hs⟩
abbrev laidData : List (String × DataW Unit) := [("math/bits.deBruijn32tab", Rows.laid_math_bits_deBruijn32tab), ("math/bits.deBruijn64tab", Rows.laid_math_bits_deBruijn64tab), ("internal/strconv.uint64pow10", Rows.laid_internal_strconv_uint64pow10), ("plunder/ops.names", Rows.laid_plunder_ops_names), ("plunder/text.levels", Rows.laid_plunder_text_levels), ("plunder/text.keywords", Rows.laid_plunder_text_keywords), ("plunder/text.signs", Rows.laid_plunder_text_signs)]
theorem rg_laid {W : World} (h : laidMet Tryd.prog laidData W ∧ handlesMet Tryd.prog [("errors.errorType", Rows.laid_errors_errorType)] W) : Rg W ∧ Pow W := by
  have h1 := laidMet.tail (laidMet.tail h.1)
  have hp : Pow W := Lib.tabIs_of_head (zs := Lib.pow10Tab) (g := 2) (t := 134) (e := 102) (n := 20) (by kernel_rfl) (by kernel_rfl) (by kernel_rfl) (by kernel_rfl) (by kernel_rfl) (by kernel_rfl) h1
  have h2 := laidMet.tail h1
  have hn := tab_str (l := opNames) (g := 7) (n := 16) (by kernel_rfl) rfl (by kernel_rfl) rfl (by kernel_rfl) h2
  have h3 := laidMet.tail h2
  have hl := tab_lvl (ls := levels) (g := 6) (n := 8) (by kernel_rfl) rfl (by kernel_rfl) rfl (by kernel_rfl) h3
  have h4 := laidMet.tail h3
  have hk := tab_str (l := keywords) (g := 3) (n := 15) (by kernel_rfl) rfl (by kernel_rfl) rfl (by kernel_rfl) h4
  have h5 := laidMet.tail h4
  have hs := tab_str (l := signs) (g := 1) (n := 24) (by kernel_rfl) rfl (by kernel_rfl) rfl (by kernel_rfl) h5
  exact ⟨rg_of hk hs hn hl hp (eg_of h.2), hp⟩
def litV : DataW Unit → List Value
  | .lit (.int k n) => [.int k n]
  | .lit (.string s) => [.string (bs s)]
  | _ => []
def litVs : DataW Unit → List Value
  | .agg l => l.flatMap litV
  | _ => []
def setG (cs : List Value) : Obj → Obj
  | .cells _ t frozen => .cells cs.toArray t frozen
  | o => o
noncomputable def laidWorld (os : Os) : World :=
  let w0 := World.holding Tryd.prog os ⟨#[], #[], []⟩
  let n := w0.heap.size
  { w0 with heap := ((((((((w0.heap.modify 4 (setG (litVs Rows.laid_math_bits_deBruijn32tab))).modify 5 (setG (litVs Rows.laid_math_bits_deBruijn64tab))).modify 2 (setG (litVs Rows.laid_internal_strconv_uint64pow10))).modify 7 (setG (litVs Rows.laid_plunder_ops_names))).modify 3 (setG (litVs Rows.laid_plunder_text_keywords))).modify 1 (setG (litVs Rows.laid_plunder_text_signs))).modify 0 (setG [.iface 108 (.agg #[.pointer (some ⟨9, 54, none⟩)])])).modify 6 (setG ((List.range 8).map fun i => .slice (some ⟨n + i, 0, none⟩) ((levels.map List.length).getD i 0) ((levels.map List.length).getD i 0)))) ++ (levels.map fun l => Obj.cells (l.map fun b => Value.string (bs b)).toArray 9 (0, 0)).toArray }
end Go.Proofs.YtfnjodpehomgfaaDoor
namespace Go.Proofs.YtfnjodpehomgfaaDoor
open Go Go.Sh Go.Tx
theorem str_small {H : Type} {P : Program} {t : TypeId} {l : Bs} : ∀ {ts : List TypeId} {ds : List (DataW H)} {j : Nat}, (DataW.weightsEach P ts ds).all (· ≤ reachBytes) = true → ts[j]? = some t → ds[j]? = some (.lit (.string l)) → l.length ≤ 140737488351232
  | [], _, _, _, ht, _ => by simp at ht
  | _ :: _, [], _, _, _, hd => by simp at hd
  | t0 :: ts, d0 :: ds, 0, hw, ht, hd => by
    simp only [List.getElem?_cons_zero, Option.some.injEq] at hd
    subst hd
    unfold DataW.weightsEach at hw
    rw [List.all_append, Bool.and_eq_true] at hw
    have h := List.all_eq_true.1 hw.1 l.length (by simp [DataW.weights])
    have h := of_decide_eq_true h
    unfold reachBytes at h
    omega
  | t0 :: ts, d0 :: ds, j + 1, hw, ht, hd => by
    unfold DataW.weightsEach at hw
    rw [List.all_append, Bool.and_eq_true] at hw
    exact str_small hw.2 (by simpa using ht) (by simpa using hd)
end Go.Proofs.YtfnjodpehomgfaaDoor
