/- own work: ShU, ShV, ShX, ShS, ShY, ShT, TxA, TxB, TxC, TyA, TyB, TyC, TyD, ShK, TyE, TyF, TyG -/
import Derived.OrdersHeld
import Derived.Recover
import Derived.Test.YtfnjodpehomgfaaGreatDoorProg
import Derived.Test.YtfnjodpehomgfaaGreatDoorMP1
set_option linter.unusedVariables false
set_option linter.unusedSimpArgs false
set_option linter.unusedSectionVars false
namespace Go.Sh
open Go.RowKit
def pickO (ops : Array Oper) : List Nat → Option (List Oper)
  | [] => some []
  | i :: r => match ops[i]? with
    | some o => match pickO ops r with
      | some l => some (o :: l)
      | none => none
    | none => none
theorem pickO_get {ops : Array Oper} : ∀ {is : List Nat} {l : List Oper}, pickO ops is = some l → ∀ m : Nat, l[m]? = (is[m]?).bind (ops[·]?)
  | [], l, h, m => by simp [pickO] at h; subst h; simp
  | i :: r, l, h, m => by
    unfold pickO at h
    split at h
    · rename_i o ho
      split at h
      · rename_i l' hl'
        simp at h; subst h
        cases m with
        | zero => simp [ho]
        | succ m => simpa using pickO_get hl' m
      · simp at h
    · simp at h
theorem pickO_len {ops : Array Oper} : ∀ {is : List Nat} {l : List Oper}, pickO ops is = some l → l.length = is.length
  | [], l, h => by simp [pickO] at h; subst h; rfl
  | i :: r, l, h => by
    unfold pickO at h
    split at h
    · rename_i o ho
      split at h
      · rename_i l' hl'
        simp at h; subst h
        simp [pickO_len hl']
      · simp at h
    · simp at h
def ChP (ops : Array Oper) (qis cs : List Nat) : Prop :=
  (∀ i ∈ List.range ops.size, ∀ j ∈ afterOf ops i, j < i) ∧
  (∀ i ∈ List.range ops.size, i ∈ qis ∨ i ∈ cs) ∧
  (∀ i ∈ qis, i ∉ cs ∧ i < ops.size) ∧
  (∀ i ∈ cs, i < ops.size) ∧
  qis.Pairwise (· < ·) ∧
  cs.Pairwise (· < ·) ∧
  (∀ a ∈ cs, ∀ b ∈ cs, a < b → a ∈ ancF ops ops.size b) ∧
  (ops.size - 1 ∈ cs) ∧
  (∀ j ∈ List.range (ops.size - 1), j ∈ ancF ops ops.size (ops.size - 1)) ∧
  (∀ i ∈ List.range ops.size, ∀ j ∈ List.range ops.size, i ≠ j → dstOf ops i ≠ none → dstOf ops j ≠ dstOf ops i) ∧
  (∀ i ∈ qis, ∀ j ∈ List.range ops.size, j ≠ i → ∀ t ∈ rdOf ops i, dstOf ops j = some t → j ∈ qis ∧ ((j < i ∧ j ∈ ancF ops ops.size i) ∨ (i < j ∧ i ∈ ancF ops ops.size j))) ∧
  (∀ i ∈ cs, ∀ j ∈ List.range ops.size, j ≠ i → ∀ t ∈ rdOf ops i, dstOf ops j = some t → j ∈ ancF ops ops.size i)
def chB (ops : Array Oper) (qis cs : List Nat) : Bool :=
  decide ((∀ i ∈ List.range ops.size, ∀ j ∈ afterOf ops i, j < i)) &&
  decide ((∀ i ∈ List.range ops.size, i ∈ qis ∨ i ∈ cs)) &&
  decide ((∀ i ∈ qis, i ∉ cs ∧ i < ops.size)) &&
  decide ((∀ i ∈ cs, i < ops.size)) &&
  decide (qis.Pairwise (· < ·)) &&
  decide (cs.Pairwise (· < ·)) &&
  decide ((∀ a ∈ cs, ∀ b ∈ cs, a < b → a ∈ ancF ops ops.size b)) &&
  decide ((ops.size - 1 ∈ cs)) &&
  decide ((∀ j ∈ List.range (ops.size - 1), j ∈ ancF ops ops.size (ops.size - 1))) &&
  decide ((∀ i ∈ List.range ops.size, ∀ j ∈ List.range ops.size, i ≠ j → dstOf ops i ≠ none → dstOf ops j ≠ dstOf ops i)) &&
  decide ((∀ i ∈ qis, ∀ j ∈ List.range ops.size, j ≠ i → ∀ t ∈ rdOf ops i, dstOf ops j = some t → j ∈ qis ∧ ((j < i ∧ j ∈ ancF ops ops.size i) ∨ (i < j ∧ i ∈ ancF ops ops.size j)))) &&
  decide ((∀ i ∈ cs, ∀ j ∈ List.range ops.size, j ≠ i → ∀ t ∈ rdOf ops i, dstOf ops j = some t → j ∈ ancF ops ops.size i))
theorem chB_spec {ops : Array Oper} {qis cs : List Nat} (h : chB ops qis cs = true) : ChP ops qis cs := by
  unfold chB at h
  simp only [Bool.and_eq_true, decide_eq_true_iff] at h
  obtain ⟨⟨⟨⟨⟨⟨⟨⟨⟨⟨⟨h1, h2⟩, h3⟩, h4⟩, h5⟩, h6⟩, h7⟩, h8⟩, h9⟩, h10⟩, h11⟩, h12⟩ := h
  exact ⟨h1, h2, h3, h4, h5, h6, h7, h8, h9, h10, h11, h12⟩
section
variable {P : Program} {T : Tab} {n : Nat} {ops : Array Oper}
def stepCh (P : Program) (T : Tab) (n : Nat) (W : World → Prop) (o : Oper) (_r : List Oper) (ih : Fr → World → (Fr → World → Prop) → Prop) (F : Fr) (w : World) (k : Fr → World → Prop) : Prop :=
  W w ∧ match dstOk n o.dst with
    | false => False
    | true => match o.guard with
      | some _ => False
      | none => exOp P T (evR o F) o w (fun v w' => ih (F.put o.dst v) w' k) (fun _ _ => False)
def chOps (P : Program) (T : Tab) (n : Nat) (W : World → Prop) (l : List Oper) : Fr → World → (Fr → World → Prop) → Prop :=
  List.rec (motive := fun _ => Fr → World → (Fr → World → Prop) → Prop) (fun F w k => k F w) (stepCh P T n W) l
theorem PhiF_cases {F : Fr} {l : List Oper} {vals : Nat → Value} {t : Nat} {u : Value} : ∀ m, PhiF F l vals m t = some u → (∃ j, j < m ∧ (l[j]?).bind (·.dst) = some t ∧ u = vals j) ∨ ((∀ j, j < m → (l[j]?).bind (·.dst) ≠ some t) ∧ look F.env t = some u)
  | 0, h => .inr ⟨by simp, h⟩
  | m + 1, h => by
    rw [PhiF] at h
    split at h
    · rename_i hd
      simp at h
      exact .inl ⟨m, by omega, hd, h.symm⟩
    · rename_i hd
      rcases PhiF_cases m h with ⟨j, h1, h2, h3⟩ | ⟨h1, h2⟩
      · exact .inl ⟨j, by omega, h2, h3⟩
      · exact .inr ⟨fun j hj => by
          by_cases e : j = m
          · subst e; exact hd
          · exact h1 j (by omega), h2⟩
theorem act_put_ne {a : Act} {d : Option Nat} {v : Value} {t : Nat} (h : d ≠ some t) : (a.put d v).tmps[t]? = a.tmps[t]? := by
  cases d with
  | none => rfl
  | some d' =>
    simp only [Act.put]
    exact Array.getElem?_setIfInBounds_ne (fun e => h (by rw [e]))
theorem act_put_eq {a : Act} {t : Nat} {v : Value} (h : dstOk a.tmps.size (some t) = true) : (a.put (some t) v).tmps[t]? = some v := by
  simp only [Act.put]
  exact Array.getElem?_setIfInBounds_self_of_lt (by simpa [dstOk] using h)
theorem act_put_size {a : Act} {d : Option Nat} {v : Value} : (a.put d v).tmps.size = a.tmps.size := by cases d <;> simp [Act.put]
theorem act_put_defers {a : Act} {d : Option Nat} {v : Value} : (a.put d v).defers = a.defers := by cases d <;> simp [Act.put]
theorem look_put_eq {F : Fr} {d : Nat} {v : Value} : look (F.put (some d) v).env d = some v := by simp [Fr.put, look]
theorem look_put_ne {F : Fr} {d : Option Nat} {v : Value} {t : Nat} (h : d ≠ some t) : look (F.put d v).env t = look F.env t := by
  cases d with
  | none => rfl
  | some d =>
    simp only [Fr.put, look]
    split
    · rename_i e; exact absurd (by rw [Nat.eq_of_beq_eq_true e]) h
    · rfl
theorem Dr.ch (hT : TabOk P T) (hm : P.follows .mixedOrders = true) (qis cs : List Nat) {id : Nat} {F : Fr} {w : World} {K : Exit → Fr → World → Prop} {ql cl : List Oper}
    (hB : chB ops qis cs = true) (hql : pickO ops qis = some ql) (hcl : pickO ops cs = some cl) (W : World → Prop)
    (h : ∀ w1, Ext w w1 → w1.heap.size = w.heap.size → quOps P T n W (fun a b => b = a) ops.toList ql F (fun F' => chOps P T n W cl F' w1 (fun F w => K .normal F w))) : Dr P n id ops F w K := by
  obtain ⟨hac0, hcov, hqc, hclt, hqs, hcs, hcan, hlc, hlast0, huq0, hrq, hrc⟩ := chB_spec hB
  have hac : ∀ i, i < ops.size → ∀ j ∈ afterOf ops i, j < i := fun i hi => hac0 i (List.mem_range.2 hi)
  have hlast : ∀ j, j < ops.size - 1 → j ∈ ancF ops ops.size (ops.size - 1) := fun j hj => hlast0 j (List.mem_range.2 hj)
  have huq : ∀ i, i < ops.size → ∀ j, j < ops.size → i ≠ j → ∀ t, dstOf ops i = some t → dstOf ops j ≠ some t := fun i hi j hj hne t ht => by
    have := huq0 i (List.mem_range.2 hi) j (List.mem_range.2 hj) hne (by rw [ht]; simp)
    rwa [ht] at this
  have e1 : Ext w { w with drawn := w.drawn + 1 } := ⟨rfl, rfl, rfl, Nat.le_refl _, fun _ _ => rfl⟩
  obtain ⟨vals, F', hY, hlook, hds, hfin⟩ := quOps_trace hT ql F _ (h { w with drawn := w.drawn + 1 } e1 rfl)
  have hN : ops.size - 1 < ops.size := hclt _ hlc
  have hqget : ∀ m : Nat, (ql[m]?).bind (·.dst) = (qis[m]?).bind (dstOf ops) := fun m => by
    rw [pickO_get hql m]
    cases qis[m]? <;> rfl
  have hqpos : ∀ i, i ∈ qis → ∃ m, qis[m]? = some i := fun i hi => List.getElem?_of_mem hi
  have hqlt : ∀ (m m' i i' : Nat), qis[m]? = some i → qis[m']? = some i' → m < m' → i < i' := fun m m' i i' h1 h2 hlt => by
    obtain ⟨a1, a2⟩ := List.getElem?_eq_some_iff.1 h1
    obtain ⟨b1, b2⟩ := List.getElem?_eq_some_iff.1 h2
    have := List.pairwise_iff_getElem.1 hqs m m' a1 b1 hlt
    omega
  have hqinj : ∀ (m m' i : Nat), qis[m]? = some i → qis[m']? = some i → m = m' := fun m m' i h1 h2 => by
    rcases Nat.lt_trichotomy m m' with e | e | e
    · have := hqlt m m' i i h1 h2 e; omega
    · exact e
    · have := hqlt m' m i i h2 h1 e; omega
  refine ⟨fun a0 ha0 => ?_⟩
  refine wp_region_any hm ?_
  have main : ∀ (fuel : Nat) (listed : Array Bool) (a : Act) (w' : World) (j : Nat) (Fj : Fr), listed.size = ops.size → Closed ops listed → cnt listed ops.size ≤ fuel → ¬ Lst listed (ops.size - 1) →
      a.tmps.size = n → a.defers = F.ds → Fj.ds = F.ds → chOps P T n W (cl.drop j) Fj w' (fun F w => K .normal F w) →
      (∀ m i, cs[m]? = some i → (Lst listed i ↔ m < j)) →
      (∀ m i, qis[m]? = some i → Lst listed i → ∀ d, dstOf ops i = some d → a.tmps[d]? = some (vals m)) →
      (∀ t u, look F.env t = some u → (∀ i, i < ops.size → Lst listed i → dstOf ops i ≠ some t) → a.tmps[t]? = some u) →
      (∀ t u, look Fj.env t = some u → (∃ i, i ∈ qis ∧ ¬ Lst listed i ∧ dstOf ops i = some t) ∨ a.tmps[t]? = some u) →
      (∀ t, (∀ i, i ∈ cs → dstOf ops i ≠ some t) → look Fj.env t = look F'.env t) →
      wpAny P .any ops (Lift n K) fuel listed a w' := by
    intro fuel
    induction fuel with
    | zero => intro listed a w' j Fj _ _ hc hnl; exact absurd (cnt_pos listed _ hnl ops.size hN) (by omega)
    | succ fuel ih =>
      intro listed a w' j Fj hs hcl' hc hnl hsz hdf hdj hch hcj hA hB' hG hFj
      refine ⟨fun hr => ?_, fun i hi => ?_⟩
      · exfalso
        have : ∃ i, i < ops.size ∧ ¬ Lst listed i ∧ ∀ j, j < i → Lst listed j := by
          have : ∀ m, m ≤ ops.size - 1 → (∀ j, j < m → Lst listed j) ∨ ∃ i, i < ops.size ∧ ¬ Lst listed i ∧ ∀ j, j < i → Lst listed j := by
            intro m
            induction m with
            | zero => intro _; exact .inl fun j hj => by omega
            | succ m ihm =>
              intro hm
              rcases ihm (by omega) with h1 | h1
              · by_cases hl : Lst listed m
                · exact .inl fun j hj => (Nat.lt_or_ge j m).elim (h1 j) fun h2 => (show j = m by omega) ▸ hl
                · exact .inr ⟨m, by omega, hl, h1⟩
              · exact .inr h1
          rcases this (ops.size - 1) (Nat.le_refl _) with h1 | h1
          · exact ⟨ops.size - 1, hN, hnl, h1⟩
          · exact h1
        obtain ⟨i, h1, h2, h3⟩ := this
        have := (mem_ready hs hac).2 ⟨h1, h2, fun j hj => h3 j (hac i h1 j hj)⟩
        rw [hr] at this
        exact absurd this (by simp)
      · obtain ⟨hi1, hi2, hi3⟩ := (mem_ready hs hac).1 hi
        have hs' : (listed.setIfInBounds i true).size = ops.size := by simpa using hs
        have hLs : ∀ j, Lst (listed.setIfInBounds i true) j ↔ j = i ∨ Lst listed j := fun j => by
          unfold Lst; rw [getD_set _ _ _ (by omega)]; by_cases e : j = i <;> simp [e]
        have hcl'' : Closed ops (listed.setIfInBounds i true) := fun m hm hl j hj => by
          rw [hLs] at hl ⊢
          rcases hl with rfl | hl
          · exact .inr (hi3 j hj)
          · exact .inr (hcl' m hm hl j hj)
        have hc' : cnt (listed.setIfInBounds i true) ops.size ≤ fuel := by
          have := cnt_set listed i (by omega) hi2 ops.size
          rw [if_pos hi1] at this; omega
        have hanc : ∀ j, j ∈ ancF ops ops.size i → Lst listed j := fun j hj => by
          have := closed_anc hcl'' hac ops.size i j hi1 ((hLs i).2 (.inl rfl)) hj
          rcases (hLs j).1 this with rfl | h1
          · exfalso
            have lt : ∀ (f m j : Nat), m < ops.size → j ∈ ancF ops f m → j < m := by
              intro f
              induction f with
              | zero => intro m j _ h; simp [ancF] at h
              | succ f ihf =>
                intro m j hm h
                simp only [ancF, List.mem_flatMap, List.mem_cons] at h
                obtain ⟨q, hq, h⟩ := h
                have hqm := hac m hm q hq
                rcases h with rfl | h
                · exact hqm
                · have := ihf q j (by omega) h; omega
            have := lt _ _ _ hi1 hj; omega
          · exact h1
        obtain ⟨o, ho⟩ : ∃ o, ops[i]? = some o := ⟨ops[i], Array.getElem?_eq_getElem hi1⟩
        have hdi : dstOf ops i = o.dst := by simp [dstOf, ho]
        have hrdi : rdOf ops i = tmpsOf o ++ gdOf ops o := by unfold rdOf; simp only [ho]
        have hjlt : j < cs.length := by
          obtain ⟨m, hm⟩ := List.getElem?_of_mem hlc
          have h1 := (List.getElem?_eq_some_iff.1 hm).1
          have h2 := hcj m _ hm
          exact Nat.lt_of_not_le fun h3 => hnl (h2.2 (by omega))
        obtain ⟨ci, hci⟩ : ∃ c, cs[j]? = some c := ⟨cs[j], List.getElem?_eq_getElem hjlt⟩
        obtain ⟨oc, hoc⟩ : ∃ o, ops[ci]? = some o := ⟨_, Array.getElem?_eq_getElem (hclt ci (List.mem_of_getElem? hci))⟩
        have hclj : cl[j]? = some oc := by rw [pickO_get hcl j, hci]; exact hoc
        have hdrop : cl.drop j = oc :: cl.drop (j + 1) := by
          obtain ⟨h1, h2⟩ := List.getElem?_eq_some_iff.1 hclj
          rw [List.drop_eq_getElem_cons h1, h2]
        rw [hdrop] at hch
        have hch' : stepCh P T n W oc (cl.drop (j + 1)) (chOps P T n W (cl.drop (j + 1))) Fj w' (fun F w => K .normal F w) := hch
        obtain ⟨hWw, hrest⟩ := hch'
        unfold wpOp
        simp only [ho]
        by_cases hic : i ∈ cs
        · -- the chain's next
          have hii : i = ci := by
            obtain ⟨m, hm⟩ := List.getElem?_of_mem hic
            have hmj : ¬ m < j := fun e => hi2 ((hcj m i hm).2 e)
            rcases Nat.lt_or_ge j m with e | e
            · exfalso
              have h1 := (List.getElem?_eq_some_iff.1 hm)
              have h2 := (List.getElem?_eq_some_iff.1 hci)
              obtain ⟨h1a, h1b⟩ := h1
              obtain ⟨h2a, h2b⟩ := h2
              have hlt := List.pairwise_iff_getElem.1 hcs j m h2a h1a e
              rw [h1b, h2b] at hlt
              have := hanc ci (hcan ci (List.mem_of_getElem? hci) i hic hlt)
              have := (hcj j ci hci).1 this
              omega
            · have : m = j := by omega
              subst this
              rw [hci] at hm; simpa using hm.symm
          subst hii
          rw [ho] at hoc
          obtain rfl : o = oc := by simpa using hoc
          split at hrest
          · exact hrest.elim
          rename_i hdo
          split at hrest
          · exact hrest.elim
          rename_i hgn
          rw [if_pos (wanted_none hgn)]
          refine .inl ?_
          have hev : ∀ x u, evR o Fj x = some u → a.eval x = u := ev_of_phi (Φ := look Fj.env) (fun t => rfl) fun t ht u hu => by
            rcases hG t u hu with ⟨q, hq1, hq2, hq3⟩ | hu'
            · exfalso
              have hqi : q ≠ i := fun e => (hqc q hq1).1 (e ▸ hic)
              exact hq2 (hanc q (hrc i hic q (List.mem_range.2 (hqc q hq1).2) hqi t (by rw [hrdi]; exact List.mem_append_left _ ht) hq3))
            · exact hu'
          refine exOp_sound hT hev hrest (fun v w2 hnx => ?_) (fun ch w2 q => q.elim)
          have hG2 : ∀ t u, look (Fj.put o.dst v).env t = some u → (∃ q, q ∈ qis ∧ ¬ Lst (listed.setIfInBounds i true) q ∧ dstOf ops q = some t) ∨ (a.put o.dst v).tmps[t]? = some u := fun t u ht => by
            by_cases hd : o.dst = some t
            · rw [hd] at ht hdo ⊢
              rw [look_put_eq] at ht
              simp at ht; subst ht
              exact .inr (act_put_eq (by rw [hsz]; exact hdo))
            · rw [act_put_ne hd]
              have ht' : look Fj.env t = some u := by rw [look_put_ne hd] at ht; exact ht
              rcases hG t u ht' with ⟨q, hq1, hq2, hq3⟩ | hu
              · refine .inl ⟨q, hq1, fun e => ?_, hq3⟩
                rcases (hLs q).1 e with e | e
                · exact (hqc q hq1).1 (e ▸ hic)
                · exact hq2 e
              · exact .inr hu
          have hds2 : (Fj.put o.dst v).ds = F.ds := by cases o.dst <;> exact hdj
          by_cases hl' : i = ops.size - 1
          · -- the last
            have hall : ∀ q, q < ops.size → Lst (listed.setIfInBounds i true) q := fun q hq => by
              rw [hLs]
              by_cases e : q = i
              · exact .inl e
              · exact .inr (hanc q (by rw [hl']; exact hlast q (by omega)))
            have hready : Region.ready .any ops (listed.setIfInBounds i true) = [] := by
              rw [List.eq_nil_iff_forall_not_mem]
              intro q hq
              obtain ⟨h1, h2, _⟩ := (mem_ready hs' hac).1 hq
              exact h2 (hall q h1)
            have hagr : Agr n (Fj.put o.dst v) (a.put o.dst v) := ⟨by rw [act_put_size, hsz], by rw [act_put_defers, hds2, hdf], fun t u ht => by
              rcases hG2 t u ht with ⟨q, hq1, hq2, hq3⟩ | hu
              · exact absurd (hall q (hqc q hq1).2) hq2
              · exact hu⟩
            have hend : cl.drop (j + 1) = [] := by
              refine List.drop_eq_nil_of_le ?_
              rw [pickO_len hcl]
              refine Nat.le_of_not_lt fun hlt => ?_
              obtain ⟨c2, hc2⟩ : ∃ c, cs[j + 1]? = some c := ⟨cs[j + 1], List.getElem?_eq_getElem hlt⟩
              obtain ⟨h1a, h1b⟩ := List.getElem?_eq_some_iff.1 hc2
              obtain ⟨h2a, h2b⟩ := List.getElem?_eq_some_iff.1 hci
              have h3 := List.pairwise_iff_getElem.1 hcs j (j + 1) h2a h1a (by omega)
              rw [h1b, h2b] at h3
              have := hclt c2 (List.mem_of_getElem? hc2)
              omega
            rw [hend] at hnx
            have q : Lift n K .normal (a.put o.dst v) w2 := ⟨_, hagr, hnx⟩
            cases fuel with
            | zero => exact ⟨hready, q⟩
            | succ f => exact ⟨fun _ => q, fun j hj => by rw [hready] at hj; exact absurd hj (by simp)⟩
          · refine ih _ _ _ (j + 1) (Fj.put o.dst v) hs' hcl'' hc' (fun e => ?_) (by rw [act_put_size, hsz]) (by rw [act_put_defers, hdf]) hds2 hnx (fun m q hq => ?_) (fun m q hq hl d hd => ?_) (fun t u ht hno => ?_) hG2 (fun t ht => ?_)
            · rcases (hLs _).1 e with e | e
              · exact hl' e.symm
              · exact hnl e
            · rw [hLs, hcj m q hq]
              constructor
              · rintro (e | e)
                · subst e
                  have hmj : m = j := by
                    rcases Nat.lt_trichotomy m j with e | e | e
                    · exact absurd ((hcj m _ hq).2 e) hi2
                    · exact e
                    · obtain ⟨h1a, h1b⟩ := List.getElem?_eq_some_iff.1 hq
                      obtain ⟨h2a, h2b⟩ := List.getElem?_eq_some_iff.1 hci
                      have h3 := List.pairwise_iff_getElem.1 hcs j m h2a h1a e
                      omega
                  omega
                · omega
              · intro e
                by_cases hmj : m = j
                · subst hmj; rw [hci] at hq; simp at hq; exact .inl hq.symm
                · exact .inr (by omega)
            · have hqm := List.mem_of_getElem? hq
              have hqi : q ≠ i := fun e => (hqc q hqm).1 (e ▸ hic)
              rw [act_put_ne (fun e => huq q (hqc q hqm).2 i hi1 hqi d hd (by rw [hdi, e]))]
              exact hA m q hq (((hLs q).1 hl).resolve_left hqi) d hd
            · rw [act_put_ne (fun e => hno i hi1 ((hLs i).2 (.inl rfl)) (by rw [hdi, e]))]
              exact hB' t u ht fun q hq hl => hno q hq ((hLs q).2 (.inr hl))
            · rw [← hFj t ht, look_put_ne (fun e => ht i hic (by rw [hdi, e]))]
        · -- a quiet one
          have hiq : i ∈ qis := (hcov i (List.mem_range.2 hi1)).resolve_right hic
          obtain ⟨m, hmi⟩ := hqpos i hiq
          obtain ⟨hdo, hy⟩ := hY m o (by rw [pickO_get hql m, hmi]; exact ho)
          have hreads : ∀ t ∈ tmpsOf o ++ gdOf ops o, ∀ u, PhiF F ql vals m t = some u → a.tmps[t]? = some u := by
            intro t ht u hu
            rw [← hrdi] at ht
            rcases PhiF_cases m hu with ⟨k, hk, hkd, rfl⟩ | ⟨hno, hu'⟩
            · rw [hqget] at hkd
              cases hqk : qis[k]? with
              | none => rw [hqk] at hkd; simp at hkd
              | some q =>
                rw [hqk] at hkd
                have hqlt' := hqlt k m q i hqk hmi hk
                have hqm := List.mem_of_getElem? hqk
                rcases (hrq i hiq q (List.mem_range.2 (hqc q hqm).2) (by omega) t ht hkd).2 with ⟨_, h2⟩ | ⟨h2, _⟩
                · exact hA k q hqk (hanc q h2) t hkd
                · omega
            · refine hB' t u hu' fun q hq hl hd => ?_
              by_cases hqi : q = i
              · subst hqi; exact hi2 hl
              obtain ⟨h1, h2⟩ := hrq i hiq q (List.mem_range.2 hq) hqi t ht hd
              obtain ⟨k, hk⟩ := hqpos q h1
              rcases h2 with ⟨h2, h3⟩ | ⟨h2, h3⟩
              · have hkm : k < m := by
                  rcases Nat.lt_trichotomy k m with e | e | e
                  · exact e
                  · subst e; rw [hmi] at hk; simp at hk; omega
                  · have := hqlt m k i q hmi hk e; omega
                exact hno k hkm (by rw [hqget, hk]; exact hd)
              · exact hi2 (closed_anc hcl' hac ops.size q i hq hl h3)
          have hnext : wpAny P .any ops (Lift n K) fuel (listed.setIfInBounds i true) (a.put o.dst (vals m)) w' := by
            refine ih _ _ _ j Fj hs' hcl'' hc' (fun e => ?_) (by rw [act_put_size, hsz]) (by rw [act_put_defers, hdf]) hdj (by rw [hdrop]; exact hch) (fun k q hq => ?_) (fun k q hq hl d hd => ?_) (fun t u ht hno => ?_) (fun t u ht => ?_) hFj
            · rcases (hLs _).1 e with e | e
              · exact hic (e ▸ hlc)
              · exact hnl e
            · rw [hLs, ← hcj k q hq]
              exact ⟨fun e => e.resolve_left (fun e => hic (e ▸ List.mem_of_getElem? hq)), .inr⟩
            · by_cases e : q = i
              · subst e
                have := hqinj k m q hq hmi
                subst this
                rw [hdi] at hd
                rw [hd] at hdo ⊢
                exact act_put_eq (by rw [hsz]; exact hdo)
              · have hqm := List.mem_of_getElem? hq
                rw [act_put_ne (fun e' => huq q (hqc q hqm).2 i hi1 e d hd (by rw [hdi, e']))]
                exact hA k q hq (((hLs q).1 hl).resolve_left e) d hd
            · rw [act_put_ne (fun e => hno i hi1 ((hLs i).2 (.inl rfl)) (by rw [hdi, e]))]
              exact hB' t u ht fun q hq hl => hno q hq ((hLs q).2 (.inr hl))
            · by_cases hd : o.dst = some t
              · refine .inr ?_
                have hF' : look F'.env t = some u := by
                  rw [← hFj t (fun q hq e => huq i hi1 q (hclt q hq) (fun e' => hic (e' ▸ hq)) t (by rw [hdi, hd]) e)]
                  exact ht
                rw [hlook] at hF'
                rcases PhiF_cases _ hF' with ⟨k, hk, hkd, rfl⟩ | ⟨hno, _⟩
                · rw [hqget] at hkd
                  cases hqk : qis[k]? with
                  | none => rw [hqk] at hkd; simp at hkd
                  | some q =>
                    rw [hqk] at hkd
                    have hqm := List.mem_of_getElem? hqk
                    have hqi : q = i := Classical.byContradiction fun e => huq i hi1 q (hqc q hqm).2 (fun e' => e e'.symm) t (by rw [hdi, hd]) hkd
                    subst hqi
                    have := hqinj k m q hqk hmi
                    subst this
                    rw [hd] at hdo ⊢
                    exact act_put_eq (by rw [hsz]; exact hdo)
                · exact absurd (by rw [hqget, hmi]; show dstOf ops i = some t; rw [hdi, hd]) (hno m (by rw [pickO_len hql]; exact (List.getElem?_eq_some_iff.1 hmi).1))
              · rw [act_put_ne hd]
                rcases hG t u ht with ⟨q, hq1, hq2, hq3⟩ | hu
                · refine .inl ⟨q, hq1, fun e => ?_, hq3⟩
                  rcases (hLs q).1 e with e | e
                  · exact hd (by rw [← hdi, ← e]; exact hq3)
                  · exact hq2 e
                · exact .inr hu
          rcases hy a hreads with ⟨hno, hv⟩ | ⟨hyes, hrun⟩
          · rw [if_neg (by rw [hno]; simp)]
            rw [← hv]
            exact hnext
          · rw [if_pos hyes]
            refine .inl ?_
            unfold Oper.wp
            rcases hrun w' hWw with e | ⟨f, args, e, hcl2⟩
            · exact upon_val e hnext
            · rw [e]
              refine Calls.mono hcl2.out fun en w'' q => ?_
              cases en with
              | returned u => obtain ⟨q1, q2⟩ := q; subst q1; subst q2; exact hnext
              | panicked ch => exact q.elim
              | outgrown => exact q.elim
  have hf : ∀ i, i < ops.size → ¬ Lst (Array.replicate ops.size false) i := fun i hi hl => absurd hl (by unfold Lst; simp [Array.getD_eq_getD_getElem?, hi])
  refine main ops.size _ a0 _ 0 F' (by simp) (fun i hi hl => absurd hl (hf i hi)) ?_ (hf _ hN) ha0.1 ha0.2.1 hds (by rw [List.drop_zero]; exact hfin) (fun m i hi => ⟨fun hl => absurd hl (hf i (hclt i (List.mem_of_getElem? hi))), fun e => by omega⟩)
    (fun m i hi hl => absurd hl (hf i (hqc i (List.mem_of_getElem? hi)).2)) (fun t u ht _ => ha0.2.2 t u ht) (fun t u ht => ?_) (fun _ _ => rfl)
  · have : ∀ m, m ≤ ops.size → cnt (Array.replicate ops.size false) m ≤ m := by
      intro m
      induction m with
      | zero => intro _; simp [cnt]
      | succ m ihm => intro h; have := ihm (by omega); simp only [cnt]; split <;> omega
    exact this _ (Nat.le_refl _)
  · rw [hlook] at ht
    rcases PhiF_cases _ ht with ⟨k, hk, hkd, rfl⟩ | ⟨_, hu⟩
    · rw [hqget] at hkd
      cases hqk : qis[k]? with
      | none => rw [hqk] at hkd; simp at hkd
      | some q =>
        rw [hqk] at hkd
        have hqm := List.mem_of_getElem? hqk
        exact .inl ⟨q, hqm, hf q (hqc q hqm).2, hkd⟩
    · exact .inr (ha0.2.2 t u hu)
end
end Go.Sh
namespace Go.Sh
open Go.RowKit
section
variable (P : Program) (T : Tab) (n : Nat) (W : World → Prop)
def tkOp (ev : Operand → Option Value) (o : Oper) (k : Value → Prop) : Prop :=
  match pu T.ts ev o.op with
  | some v => k v
  | none => match o.op with
    | .pick c a b => obp (ev c) fun vc => obp (ev a) fun va => obp (ev b) fun vb => match vc with | .bool t => Gd t (k va) (k vb) | _ => False
    | .load t a => obp (ev a) fun va => match va with
      | .pointer (some p) => match getT T.ts t with
        | none => False
        | some i => match aggD i.desc with
          | true => QLd W p i.size fun vs => k (.agg vs.toArray)
          | false => QLd1 W p fun v => k v
      | _ => False
    | .indexAddr t x i => obp (ev x) fun vx => obp (ev i) fun vi => match vi with
      | .int _ m => match getT T.ts t with
        | none => False
        | some ti => match ti.desc with
          | .slice e => match getT T.ts e with
            | none => False
            | some ei => match vx with | .slice A len _ => Ix A len m ei.size fun ad => k (.pointer (some ad)) | _ => False
          | .array len e => match getT T.ts e with
            | none => False
            | some ei => match vx with | .pointer (some p) => Ix (some p) len m ei.size fun ad => k (.pointer (some ad)) | _ => False
          | _ => False
      | _ => False
    | .index t x i => obp (ev x) fun vx => obp (ev i) fun vi => QSm P (Instr.index t vx vi) W k
    | .slice t x lo hi mx => obp (ev x) fun vx => obo (optL ev lo) fun a => obo (optL ev hi) fun b => obo (optL ev mx) fun c => QSm P (Instr.sliceAt t vx a b c) W k
    | .binOp b t x y _ => obp (ev x) fun vx => obp (ev y) fun vy => QSm P (do eqGuard b t x y vx vy; binOp b t vx vy) W k
    | .call c => alo (allSome (c.args.toList.map ev)) fun args => match c.callee with
      | .builtin b => match b with
        | .len => QSm P (Builtin.len_ c.argTypes o.type args.toArray) W k
        | .cap => QSm P (Builtin.cap_ c.argTypes o.type args.toArray) W k
        | _ => False
      | _ => False
    | _ => False
variable {P T n W}
def RunT (P : Program) (W : World → Prop) (ev : Operand → Option Value) (o : Oper) (v : Value) : Prop :=
  ∀ a : Act, (∀ x u, ev x = some u → a.eval x = u) → ∀ w, W w → (execOp a.eval o).run P w = Result.ok (.value v) w
theorem runt_val {ev : Operand → Option Value} {o : Oper} {v : Value} {k : Value → Prop} (hr : ∀ a : Act, (∀ x u, ev x = some u → a.eval x = u) → ∀ w, W w → (execOp a.eval o).run P w = Result.ok (.value v) w) (h : k v) : ∃ v, k v ∧ RunT P W ev o v := ⟨v, h, hr⟩
theorem runt_sm {ev : Operand → Option Value} {o : Oper} {s : Sem Value} {k : Value → Prop} (hr : ∀ a : Act, (∀ x u, ev x = some u → a.eval x = u) → execOp a.eval o = (do pure (.value (← s)))) (h : QSm P s W k) : ∃ v, k v ∧ RunT P W ev o v := by
  obtain ⟨v, h1, h2⟩ := h
  exact ⟨v, h2, fun a hev w hw => by rw [hr a hev]; simp [h1 w hw]⟩
theorem tkOp_run (hT : TabOk P T) {ev : Operand → Option Value} {o : Oper} {k : Value → Prop} (h : tkOp P T W ev o k) : ∃ v, k v ∧ RunT P W ev o v := by
  unfold tkOp at h
  split at h
  · rename_i v hv
    exact runt_val (fun a hev w _ => pu_sound hT.1 w hev hv) h
  · rename_i hnone; clear hnone
    split at h
    · -- pick
      rename_i c x y e
      replace h := obp_some h; obtain ⟨vc, hc, h⟩ := h
      replace h := obp_some h; obtain ⟨vx, hx, h⟩ := h
      replace h := obp_some h; obtain ⟨vy, hy, h⟩ := h
      split at h <;> try (exact h.elim)
      rename_i t
      cases t
      · exact runt_val (v := vy) (fun a hev w _ => by unfold execOp; simp [e, hev _ _ hc, hev _ _ hx, hev _ _ hy, asBool]) (h.2 rfl)
      · exact runt_val (v := vx) (fun a hev w _ => by unfold execOp; simp [e, hev _ _ hc, hev _ _ hx, hev _ _ hy, asBool]) (h.1 rfl)
    · -- load
      rename_i t x e
      replace h := obp_some h; obtain ⟨v, hx, h⟩ := h
      split at h <;> try (exact h.elim)
      rename_i p
      split at h <;> try (exact h.elim)
      rename_i i hi
      split at h
      · rename_i hag
        obtain ⟨vs, hc, h⟩ := h
        refine runt_val (v := .agg vs.toArray) (fun a hev w hw => ?_) h
        have := run_loadCells_list (P := P) w p vs (hc w hw).2
        rw [(hc w hw).1] at this
        unfold execOp
        simp [e, hev _ _ hx, Instr.loadAt, Instr.sureAddr, loadVar, run_isAgg hT.1 w hi, hag, run_size hT.1 hi, this]
      · rename_i hag
        obtain ⟨u, hu, h⟩ := h
        refine runt_val (v := u) (fun a hev w hw => ?_) h
        unfold execOp
        simp [e, hev _ _ hx, Instr.loadAt, Instr.sureAddr, loadVar, run_isAgg hT.1 w hi, hag, hu w hw]
    · -- indexAddr
      rename_i t x y e
      replace h := obp_some h; obtain ⟨v, hx, h⟩ := h
      replace h := obp_some h; obtain ⟨u, hy, h⟩ := h
      split at h <;> try (exact h.elim)
      rename_i kk n
      split at h <;> try (exact h.elim)
      rename_i ti hti
      split at h
      · rename_i el hd
        split at h <;> try (exact h.elim)
        rename_i ei hei
        split at h <;> try (exact h.elim)
        rename_i A len cap
        obtain ⟨hn, h0, h1, h⟩ := h
        obtain ⟨ad, rfl⟩ : ∃ ad, A = some ad := Option.ne_none_iff_exists'.1 hn
        simp only [gA] at h
        refine runt_val (v := .pointer (some (ad.add (n.toNat * ei.size)))) (fun a hev w hw => ?_) h
        unfold execOp
        simp [e, hev _ _ hx, hev _ _ hy, Instr.indexAt, asIntOf, run_und hT.1 hti, hd, h0, h1, run_size hT.1 hei]
      · rename_i len el hd
        split at h <;> try (exact h.elim)
        rename_i ei hei
        split at h <;> try (exact h.elim)
        rename_i p
        obtain ⟨_, h0, h1, h⟩ := h
        simp only [gA] at h
        refine runt_val (v := .pointer (some (p.add (n.toNat * ei.size)))) (fun a hev w hw => ?_) h
        unfold execOp
        simp [e, hev _ _ hx, hev _ _ hy, Instr.indexAt, asIntOf, run_und hT.1 hti, hd, h0, h1, run_size hT.1 hei, Instr.sureAddr]
      · exact h.elim
    · rename_i t x y e
      replace h := obp_some h; obtain ⟨v0, h0, h⟩ := h
      replace h := obp_some h; obtain ⟨v1, h1, h⟩ := h
      exact runt_sm (fun a hev => by unfold execOp; simp only [e, hev _ _ h0, hev _ _ h1]) h
    · rename_i t x lo hi mx e
      replace h := obp_some h; obtain ⟨v0, h0, h⟩ := h
      replace h := obo_some h; obtain ⟨v1, h1, h⟩ := h
      replace h := obo_some h; obtain ⟨v2, h2, h⟩ := h
      replace h := obo_some h; obtain ⟨v3, h3, h⟩ := h
      exact runt_sm (fun a hev => by unfold execOp; simp only [e, hev _ _ h0, optL_ev hev h1, optL_ev hev h2, optL_ev hev h3]) h
    · rename_i b t x y yt e
      replace h := obp_some h; obtain ⟨v0, h0, h⟩ := h
      replace h := obp_some h; obtain ⟨v1, h1, h⟩ := h
      exact runt_sm (fun a hev => by unfold execOp; simp only [e, hev _ _ h0, hev _ _ h1]) h
    · -- call
      rename_i c e
      replace h := alo_some h; obtain ⟨args, hargs, h⟩ := h
      split at h
      · rename_i b hc
        split at h
        · exact runt_sm (fun a hev => by unfold execOp; simp only [e, resolve, hc, map_ev hev hargs, pure_bind, invoke, builtin]) h
        · exact runt_sm (fun a hev => by unfold execOp; simp only [e, resolve, hc, map_ev hev hargs, pure_bind, invoke, builtin]) h
        · exact h.elim
      · exact h.elim
    · exact h.elim
section
end
def Qn (n : Nat) (K : Fr → World → Prop) : Exit → Act → World → Prop := fun e a w => e = .normal ∧ ∃ F, Agr n F a ∧ K F w
theorem wpOp_monoQ {P : Program} {ops : Array Oper} {Q Q' : Exit → Act → World → Prop} (hp : ∀ c a w, Q (.panic c) a w → Q' (.panic c) a w) (ho : ∀ a w, Q .outgrown a w → Q' .outgrown a w) {i : Nat} {a : Act} {w : World} {K : Act → World → Prop} (h : wpOp P ops Q i K a w) : wpOp P ops Q' i K a w := by
  unfold wpOp at *
  split
  · simpa [*] using h
  · rename_i o hoi
    simp only [hoi] at h
    split
    · rename_i hw
      simp only [hw, if_true] at h
      rcases h with h | ⟨h1, a', w', h2⟩
      · refine .inl ?_
        unfold Oper.wp at *
        generalize (execOp a.eval o).run P w = r at *
        cases r with
        | ok n w' =>
          cases n <;> simp only [Oper.upon] at h ⊢ <;>
            first
              | exact h
              | exact Calls.mono h (fun e w'' he => by cases e <;> first | exact he | exact hp _ _ _ he | exact (fun ⟨a', w', h'⟩ => ⟨a', w', ho _ _ h'⟩ : LetsOut Q → LetsOut Q') he)
              | exact Rows.mono h (fun _ _ he => he)
        | halt x w' => cases x <;> simp only [Oper.upon] at h ⊢ <;> first | exact hp _ _ _ h | exact h
      · exact .inr ⟨h1, a', w', ho _ _ h2⟩
    · rename_i hw
      simp only [hw] at h
      exact h
theorem wpAny_monoQ {P : Program} {md : Region.Mode} {ops : Array Oper} {Q Q' : Exit → Act → World → Prop} (hn : ∀ a w, Q .normal a w → Q' .normal a w) (hp : ∀ c a w, Q (.panic c) a w → Q' (.panic c) a w) (ho : ∀ a w, Q .outgrown a w → Q' .outgrown a w) : ∀ (fuel : Nat) (listed : Array Bool) (a : Act) (w : World), wpAny P md ops Q fuel listed a w → wpAny P md ops Q' fuel listed a w
  | 0, _, _, _, h => ⟨h.1, hn _ _ h.2⟩
  | f + 1, listed, a, w, h => ⟨fun e => hn _ _ (h.1 e), fun i hi => wpOp_monoQ hp ho (wpOp_mono (fun a w => wpAny_monoQ hn hp ho f _ a w) (h.2 i hi))⟩
end
end Go.Sh
namespace Go.Sh
open Go.RowKit
def bs (l : List UInt8) : ByteArray := ⟨l.toArray⟩
theorem bs_size (l : List UInt8) : (bs l).size = l.length := by simp [bs, ByteArray.size]
theorem bs_toList (l : List UInt8) : (bs l).data.toList = l := by simp [bs]
theorem bs_of (s : ByteArray) : s = bs s.data.toList := by cases s; simp [bs]
theorem bs_eq (a b : List UInt8) : (bs a == bs b) = decide (a = b) := by
  show ((bs a).data == (bs b).data) = _
  rw [Bool.eq_iff_iff]
  simp [bs]
theorem bs_get {l : List UInt8} {j : Nat} {b : UInt8} (h : l[j]? = some b) : (bs l)[j]? = some b := by
  obtain ⟨h1, h2⟩ := List.getElem?_eq_some_iff.1 h
  have h3 : j < (bs l).size := by rw [bs_size]; exact h1
  rw [getElem?_pos (bs l) j h3]
  congr 1
theorem bs_cut (l : List UInt8) (i j : Nat) : (bs l).extract i j = bs ((l.drop i).take (j - i)) := by
  have h : ((bs l).extract i j).data = (bs ((l.drop i).take (j - i))).data := by
    simp [bs, ByteArray.data_extract]
  cases hx : (bs l).extract i j; cases hy : bs ((l.drop i).take (j - i)); rw [hx, hy] at h; simp only at h; rw [h]
theorem bs_app (a b : List UInt8) : bs a ++ bs b = bs (a ++ b) := by
  have h : (bs a ++ bs b).data = (bs (a ++ b)).data := by
    simp [bs, ByteArray.data_append]
  cases hx : bs a ++ bs b; cases hy : bs (a ++ b); rw [hx, hy] at h; simp only at h; rw [h]
section
variable {P : Program} {T : Tab} {w : World} {k : Value → World → Prop} {Y : List PanicEntry → World → Prop} {t : TypeId} {ti : TI} {l m : List UInt8}
theorem run_strix (hT : TabOk P T) (ht : getT T.ts t = some ti) (hd : ti.desc = .string) {kl : IntKind} {j : Nat} {b : UInt8} (hx : l[j]? = some b) (w : World) : (Instr.index t (.string (bs l)) (.int kl (j : Int))).run P w = .ok (.int .u8 (b.toNat : Int)) w := by
  have hg := bs_get hx
  simp [Instr.index, asIntOf, run_und hT.1 ht, hd, hg]
theorem Sm.strix (hT : TabOk P T) {kl : IntKind} {a : Int} {j : Nat} {b : UInt8} (hk : k (.int .u8 (b.toNat : Int)) w) (ht : getT T.ts t = some ti := by rfl) (hd : ti.desc = .string := by rfl) (ha : a = (j : Int) := by first | with_reducible rfl | assumption) (hx : l[j]? = some b := by assumption) : Sm P (Instr.index t (.string (bs l)) (.int kl a)) w k Y := by
  subst ha
  exact ⟨by rw [run_strix hT ht hd hx]; exact hk⟩
theorem run_strcut (hT : TabOk P T) (ht : getT T.ts t = some ti) (hd : ti.desc = .string) {kl kh : IntKind} {i j : Nat} (hi : i ≤ j) (hj : j ≤ l.length) (w : World) : (Instr.sliceAt t (.string (bs l)) (some (.int kl (i : Int))) (some (.int kh (j : Int))) none).run P w = .ok (.string (bs ((l.drop i).take (j - i)))) w := by
  have hs := bs_size l
  have hbd : (Instr.sliceBounds false (bs l).size (bs l).size (some (.int kl (i : Int))) (some (.int kh (j : Int))) none).run P w = .ok (i, j, (bs l).size) w := by
    simp [Instr.sliceBounds, run_bound hi, run_bound (show j ≤ (bs l).size by omega)]
  simp [Instr.sliceAt, Instr.slice, run_und hT.1 ht, hd, hbd, bs_cut]
theorem Sm.strcut (hT : TabOk P T) {kl kh : IntKind} {a b : Int} {i j : Nat} (hi : i ≤ j) (hj : j ≤ l.length) (hk : k (.string (bs ((l.drop i).take (j - i)))) w) (ht : getT T.ts t = some ti := by rfl) (hd : ti.desc = .string := by rfl) (ha : a = (i : Int) := by first | with_reducible rfl | assumption) (hb : b = (j : Int) := by first | with_reducible rfl | assumption) : Sm P (Instr.sliceAt t (.string (bs l)) (some (.int kl a)) (some (.int kh b)) none) w k Y := by
  subst ha hb
  exact ⟨by rw [run_strcut hT ht hd hi hj]; exact hk⟩
theorem run_cat {x y : Operand} (h : l.length + m.length ≤ 9223372036854775807) (w : World) : (do eqGuard .add t x y (.string (bs l)) (.string (bs m)); binOp .add t (.string (bs l)) (.string (bs m)) : Sem Value).run P w = .ok (.string (bs (l ++ m))) w := by
  have hg : (eqGuard .add t x y (.string (bs l)) (.string (bs m))).run P w = .ok () w := by unfold eqGuard; simp
  have h1 := bs_size l
  have h2 := bs_size m
  have h3 : ¬ (((bs l).size : Int) + ((bs m).size : Int) > IntKind.i64.max) := by
    have : IntKind.i64.max = 9223372036854775807 := by decide
    omega
  simp [hg, binOp, Op.stringOp, bs_app]
  omega
theorem Sm.cat {x y : Operand} (h : l.length + m.length ≤ 9223372036854775807) (hk : k (.string (bs (l ++ m))) w) : Sm P (do eqGuard .add t x y (.string (bs l)) (.string (bs m)); binOp .add t (.string (bs l)) (.string (bs m)) : Sem Value) w k Y := ⟨by rw [run_cat h]; exact hk⟩
end
abbrev si (r : Nat) (l : List UInt8) (p : Nat) : Ck := ⟨(· = r), fun w => w.heap[r]? = some (.stringIter (bs l) p), true, false⟩
theorem si_ok {r : Nat} {l : List UInt8} {p : Nat} {w : World} (h : w.heap[r]? = some (.stringIter (bs l) p)) : (si r l p).Ok w :=
  ⟨h, fun k hk => by subst hk; exact (Array.getElem?_eq_some_iff.1 h).1, fun w' _ hb => (hb r rfl).trans h⟩
section
variable {S : Nat → Prop} {w0 w : World} {Γ L R : List Ck} {P : Program} {T : Tab} {k : Value → World → Prop} {Y : List PanicEntry → World → Prop} {t ty : TypeId} {ti : TI} {l : List UInt8} {r p : Nat}
theorem Sm.srange (H : Hp S w0 w Γ) (hT : TabOk P T) (hk : ∀ r w', Hp S w0 w' (si r l 0 :: Γ) → w0.heap.size ≤ r → k (.pointer (some ⟨r, 0, none⟩)) w') (ht : getT T.ts t = some ti := by rfl) (hd : ti.desc = .string := by rfl) : Sm P (Instr.range t (.string (bs l))) w k Y := by
  have hrun : (Instr.range t (.string (bs l))).run P w = .ok (.pointer (some ⟨w.heap.size, 0, none⟩)) (w.alloc (.stringIter (bs l) 0)) := by
    simp only [Instr.range, Sem.run_bind, run_und hT.1 ht, hd, Result.andThen_ok, newObj, Sem.run_pure]
    simp [Sem.run, Result.andThen]
  refine ⟨?_⟩
  rw [hrun]
  refine hk _ _ (H.fr0 (Hp.one (Tch.of_ext (Ext.alloc w _)) (si_ok ?_) (fun k hk => .inr (by subst hk; exact Nat.le_refl _))) (.inl rfl)) H.size
  show (w.heap.push _)[w.heap.size]? = _
  simp
theorem Sm.snext {b : UInt8} (H : Hp S w0 w Γ) (hb : l[p]? = some b) (h7 : b.toNat < 128) (hk : ∀ w', Hp S w0 w' (L ++ si r l (p + 1) :: R) → k (.tuple #[.bool true, .int .i64 (p : Int), .int .i32 (b.toNat : Int)]) w')
    (u : Sp Γ L (si r l p) R := by (repeat (first | exact Sp.head | apply Sp.tail))) : Sm P (Instr.next (.pointer (some ⟨r, 0, none⟩)) true ty) w k Y := by
  have hr : w.heap[r]? = some (.stringIter (bs l) p) := H.mem (c := si r l p) (by rw [u.eq]; simp)
  have hg := bs_get hb
  have hsz := bs_size l
  have hpl := (List.getElem?_eq_some_iff.1 hb).1
  have hdec : Utf8.decode (bs l) p = (b.toNat, 1) := by
    have h0 : (bs l).get! (p + 0) = b := by
      have : (bs l).data[p]! = b := by simp [bs, hpl, (List.getElem?_eq_some_iff.1 hb).2]
      exact this
    unfold Utf8.decode
    simp only [h0]
    rw [if_pos h7]
  have hrun : (Instr.next (.pointer (some ⟨r, 0, none⟩)) true ty).run P w = .ok (.tuple #[.bool true, .int .i64 (p : Int), .int .i32 (b.toNat : Int)]) (ChangeMaps.setBlock w r (.stringIter (bs l) (p + 1))) := by
    have hlt : p < (bs l).size := by omega
    simp only [Instr.next, getObj, Sem.run_bind, Sem.run, hr, Result.andThen]
    simp [hlt, hdec, setObj, Sem.run, Result.andThen, hr, ChangeMaps.setBlock, goInt]
  refine ⟨?_⟩
  rw [hrun]
  have hupd : Upd r w (ChangeMaps.setBlock w r (.stringIter (bs l) (p + 1))) := by
    refine ⟨rfl, rfl, rfl, by simp [ChangeMaps.setBlock], fun j hj => ?_⟩
    show (w.heap.setIfInBounds r _)[j]? = w.heap[j]?
    rw [Array.getElem?_setIfInBounds, if_neg (fun e : r = j => hj e.symm)]
  refine hk _ (H.putS u (Hp.one ((Tch.refl _ _).upd hupd (.inl rfl)) (si_ok ?_) fun k hk => .inl hk) rfl (.inl rfl))
  show (w.heap.setIfInBounds r _)[r]? = _
  simp [(Array.getElem?_eq_some_iff.1 hr).1]
theorem Sm.send (H : Hp S w0 w Γ) (hp : l.length ≤ p) (hk : k (.tuple #[.bool false]) w) (hm : si r l p ∈ Γ := by (repeat (first | exact List.Mem.head _ | apply List.Mem.tail))) : Sm P (Instr.next (.pointer (some ⟨r, 0, none⟩)) true ty) w k Y := by
  have hr : w.heap[r]? = some (.stringIter (bs l) p) := H.mem hm
  have hsz := bs_size l
  have hlt : ¬ p < (bs l).size := by omega
  have hrun : (Instr.next (.pointer (some ⟨r, 0, none⟩)) true ty).run P w = .ok (.tuple #[.bool false]) w := by
    simp only [Instr.next, getObj, Sem.run_bind, Sem.run, hr, Result.andThen]
    simp [hlt, Sem.run]
  exact ⟨by rw [hrun]; exact hk⟩
end
theorem Gd.sy {a b : List UInt8} {c : ByteArray} {X Y : Prop} (h : a = b) (hx : X) (hc : c = bs b := by rfl) : Gd (bs a == c) X Y := by
  subst h hc
  have hb : (bs a == bs a) = true := by rw [bs_eq]; simp
  exact ⟨fun _ => hx, fun h => absurd (h.symm.trans hb) (by simp)⟩
theorem Gd.sn {a b : List UInt8} {c : ByteArray} {X Y : Prop} (h : a ≠ b) (hy : Y) (hc : c = bs b := by rfl) : Gd (bs a == c) X Y := by
  subst hc
  have hb : (bs a == bs b) = false := by rw [bs_eq]; exact decide_eq_false h
  exact ⟨fun h => absurd (h.symm.trans hb) (by simp), fun _ => hy⟩
theorem Gd.sk {a b : List UInt8} {c : ByteArray} {X Y : Prop} (h : a = b) (hy : Y) (hc : (bs b == c) = false := by rfl) : Gd (bs a == c) X Y := by
  subst h
  exact ⟨fun h => absurd (h.symm.trans hc) (by simp), fun _ => hy⟩
section
variable {P : Program} {T : Tab} {w : World} {k : Value → World → Prop} {Y : List PanicEntry → World → Prop} {t e : TypeId} {ti ei : TI}
theorem run_arrix (hT : TabOk P T) {len i : Nat} {kl : IntKind} {cs : Array Value} {v : Value} (ht : getT T.ts t = some ti) (hd : ti.desc = .array len e) (he : getT T.ts e = some ei) (hag : aggD ei.desc = false) (hsz : ei.size = 1) (hi : i < len) (hv : cs.toList[i]? = some v) (w : World) : (Instr.index t (.agg cs) (.int kl (i : Int))).run P w = .ok v w := by
  have hp : partF T.ts e cs.toList (i * 1) = some v := by
    unfold partF
    rw [he]
    simp only [hag, Nat.mul_one]
    exact hv
  have h1 : ((0 : Int) ≤ (i : Int) ∧ (i : Int) < (len : Int)) := by omega
  simp [Instr.index, asIntOf, run_und hT.1 ht, hd, h1, run_size hT.1 he, hsz]
  rw [if_pos hi]
  exact run_part hT.1 w (by simpa using hp)
theorem Sm.arrix (hT : TabOk P T) {len i : Nat} {kl : IntKind} {cs : Array Value} {v : Value} {a : Int} (hv : cs.toList[i]? = some v) (hi : i < len) (hk : k v w) (ha : a = (i : Int) := by first | with_reducible rfl | assumption) (ht : getT T.ts t = some ti := by rfl) (hd : ti.desc = .array len e := by rfl) (he : getT T.ts e = some ei := by rfl) (hag : aggD ei.desc = false := by rfl) (hsz : ei.size = 1 := by rfl) : Sm P (Instr.index t (.agg cs) (.int kl a)) w k Y := by
  subst ha
  exact ⟨by rw [run_arrix hT ht hd he hag hsz hi hv]; exact hk⟩
theorem Ld.all {α : Type} {g : α → Value} {p : Addr} {l : List α} {m : Nat} {kk : List Value → Prop} (h : RdS (fun x => [g x]) 1 w (some p) l) (hk : kk (l.map g)) (hm : l.length = m := by rfl) : Ld w p m kk := by
  refine ⟨l.map g, by simpa using hm, fun i v hv => ?_, hk⟩
  rw [List.getElem?_map] at hv
  cases hx : l[i]? with
  | none => rw [hx] at hv; simp at hv
  | some x =>
    rw [hx] at hv
    simp only [Option.map_some, Option.some.injEq] at hv
    obtain ⟨vs, h1, h2, h3⟩ := h.at_ i x hx
    unfold Fl at h2
    subst h2
    have := h3 0 (g x) rfl
    subst hv
    simpa [gA] using this
end
theorem Gd.sY {a : List UInt8} {c : ByteArray} {X Y : Prop} (h : a = c.data.toList) (hx : X) : Gd (bs a == c) X Y := Gd.sy h hx (bs_of c)
theorem Gd.sN {a : List UInt8} {c : ByteArray} {X Y : Prop} (h : ¬ a = c.data.toList) (hy : Y) : Gd (bs a == c) X Y := Gd.sn h hy (bs_of c)
end Go.Sh
namespace Go.Sh
structure DCl (P : Program) (f : Nat) (args : Array Value) (u : FrameMode) (w : World) (k : FrameMode → World → Prop) : Prop where
  of ::
  out : CallsD P f args u w fun e u' w' => match e with | .returned _ => k u' w' | _ => False
def retR (T : List (Nat × TI)) (rs : List ResultVar) (R : Value → World → Prop) (F : Fr) (w : World) : Prop :=
  match retV F rs with
  | none => False
  | some l => getR T w l fun vs => R (oneV vs) w
def dfT (fs : List Nat) (d : Deferred) (k : Nat → Array Value → Prop) : Prop :=
  match d.target with
  | .fn fn cap => match fn with
    | .func g => match memN fs g with | true => k g (cat d.args.toList cap.toList).toArray | false => False
    | _ => False
  | _ => False
def retD (P : Program) (T : Tab) (rs : List ResultVar) (R : Value → World → Prop) (X : List PanicEntry → World → Prop) : Exit → Fr → World → Prop := fun e F w =>
  match e with
  | .normal | .ret => match F.ds with
    | [] => retR T.ts rs R F w
    | d :: ds => match ds with
      | [] => dfT T.fs d fun g args => DCl P g args .returning w fun u w' => u = .returning ∧ retR T.ts rs R F w'
      | _ => False
  | .panic ch => match F.ds with
    | [] => X ch w
    | d :: ds => match ds with
      | [] => dfT T.fs d fun g args => DCl P g args (.panicking ch) w fun u w' => match settle u with
        | .returning => retR T.ts rs R F w'
        | .panicking ch' => X ch' w'
        | .run => False
      | _ => False
  | _ => False
section
variable {P : Program} {T : Tab}
theorem dfT_some (hT : TabOk P T) {d : Deferred} {k : Nat → Array Value → Prop} (h : dfT T.fs d k) : ∃ fv cap g args, d.target = .fn fv cap ∧ (∀ w, (invoke d.target d.args).run P w = .ok (.enter g args) w) ∧ k g args := by
  unfold dfT at h
  split at h <;> try (exact h.elim)
  rename_i fn cap ht
  split at h <;> try (exact h.elim)
  rename_i g
  split at h <;> try (exact h.elim)
  rename_i hm
  obtain ⟨fn', hf, hn, hb⟩ := hT.2.get hm
  refine ⟨_, _, _, _, ht, fun w => ?_, h⟩
  rw [ht]
  have e : (cat d.args.toList cap.toList).toArray = d.args ++ cap := by
    unfold cat
    split
    · rename_i hc; simp [Array.toList_eq_nil_iff] at hc; simp [hc]
    · rename_i hc; apply Array.ext'; simp
  rw [e]
  have hn' : ¬ fn'.name = "runtime.NumGoroutine" := by simpa using hn
  have hb' : ¬ fn'.body = none := by
    intro h0; rw [h0] at hb; simp at hb
  simp [invoke, callFunc, hf, hn', hb']
theorem calls_exd (hT : TabOk P T) {f : FuncId} {fn : Func} {c : Code} {args : List Value} {w : World} {R : Value → World → Prop} {X : List PanicEntry → World → Prop} {m : Nat} {rs : List ResultVar}
    (hf : P.funcs[f]? = some fn) (hb : fn.body = some c) (hm : fn.ntmps = m) (hrs : fn.results.toList = rs) (hn : Nat.ble args.length m = true)
    (h : exC P T m c ⟨argsEnv args 0, []⟩ w (retD P T rs R X)) : Cl P f args.toArray w R X := by
  subst hm hrs
  let Q : Ending → World → Prop := fun e w' => match e with | .returned v => R v w' | .panicked ch => X ch w' | .outgrown => False
  refine ⟨calls_of_wp_defers hf hb (wp_mono (exC_sound hT c _ _ w _ (Agr.enter hn) h) fun e a' w' q => ?_)⟩
  obtain ⟨F', ha', q⟩ := q
  have res : ∀ w', retR T.ts fn.results.toList R F' w' → ∃ v, (results fn a'.tmps).run P w' = .ok v w' ∧ Q (.returned v) w' := fun w' q => by
    unfold retR at q
    split at q <;> try (exact q.elim)
    rename_i l hl
    obtain ⟨vs, hr, q⟩ := run_results hT w' ha' hl q
    exact ⟨_, hr, q⟩
  have fin : ∀ w' u', (match settle u' with | .returning => retR T.ts fn.results.toList R F' w' | .panicking ch' => X ch' w' | .run => False) → Leaves P fn a'.tmps Q [] (settle u') w' := fun w' u' q => by
    split at q <;> rename_i hs <;> rw [hs]
    · exact res w' q
    · exact q
    · exact q.elim
  have key : retD P T fn.results.toList R X .ret F' w' → Leaves P fn a'.tmps Q a'.defers .returning w' := fun q => by
    unfold retD at q
    simp only at q
    rw [ha'.2.1]
    split at q
    · rename_i hds; rw [hds]; exact res w' q
    · rename_i d ds hds
      rw [hds]
      split at q <;> try (exact q.elim)
      obtain ⟨fv, cap, g, args, h1, h2, hd⟩ := dfT_some hT q
      refine ⟨by simp, fv, cap, g, args, h1, h2 w', CallsD.mono hd.out fun e u' w'' q => ?_⟩
      cases e with
      | returned v =>
        obtain ⟨rfl, q⟩ := q
        exact fin w'' .returning (by simpa [settle] using q)
      | panicked ch => exact q.elim
      | outgrown => exact q.elim
  cases e with
  | normal => exact key q
  | ret => exact key q
  | panic ch =>
    unfold retD at q
    simp only at q
    show Leaves P fn a'.tmps Q a'.defers (.panicking ch) w'
    rw [ha'.2.1]
    split at q
    · rename_i hds; rw [hds]; exact q
    · rename_i d ds hds
      rw [hds]
      split at q <;> try (exact q.elim)
      obtain ⟨fv, cap, g, args, h1, h2, hd⟩ := dfT_some hT q
      refine ⟨by simp, fv, cap, g, args, h1, h2 w', CallsD.mono hd.out fun e u' w'' q => ?_⟩
      cases e with
      | returned v => exact fin w'' u' q
      | panicked ch => exact q.elim
      | outgrown => exact q.elim
  | _ => exact q.elim
theorem DCl.mono {f : Nat} {args : Array Value} {u : FrameMode} {w : World} {k k' : FrameMode → World → Prop} (h : DCl P f args u w k) (hk : ∀ u' w', k u' w' → k' u' w') : DCl P f args u w k' :=
  ⟨CallsD.mono h.out fun e u' w' q => by
    cases e with
    | returned v => exact hk u' w' q
    | panicked ch => exact q.elim
    | outgrown => exact q.elim⟩
theorem Sm.ran {s : Sem Value} {w w' : World} {v : Value} {k : Value → World → Prop} {X : List PanicEntry → World → Prop} (h : s.run P w = .ok v w') (hk : k v w') : Sm P s w k X := ⟨by rw [h]; exact hk⟩
end
end Go.Sh
namespace Go.Sh
open Go.RowKit
section
variable {S : Nat → Prop} {w0 w w' : World} {Γ L R : List Ck} {α : Type} {enc : α → List Value} {sz c : Nat} {e : TypeId} {A : Option Addr} {l : List α} {x : α} {k : World → Prop} {a b : Ck}
theorem Hp.swap (H : Hp S w0 w (a :: b :: Γ)) : Hp S w0 w (b :: a :: Γ) := H.perm (List.Perm.swap b a Γ)
theorem putL_get {cs vs : List Value} {o j : Nat} (h : o + vs.length ≤ cs.length) : (putL cs o vs)[j]? = if j < o then cs[j]? else if j < o + vs.length then vs[j - o]? else cs[j]? := by
  unfold putL
  rw [List.append_assoc]
  split
  · rw [List.getElem?_append_left (by simp; omega), List.getElem?_take_of_lt (by omega)]
  · rw [List.getElem?_append_right (by simp; omega), List.length_take, Nat.min_eq_left (by omega)]
    split
    · rw [List.getElem?_append_left (by omega)]
    · rw [List.getElem?_append_right (by omega), List.getElem?_drop]
      congr 1; omega
theorem St.elq {i : Nat} (H : Hp S w0 w Γ) (hx : (enc x).length = sz) (hi : i < l.length) (h1 : (enc x).all Value.oneCell' = true)
    (hk : ∀ w', Hp S w0 w' (L ++ qu enc sz e A c (l.set i x) :: R) → k w') (u : Sp Γ L (qu enc sz e A c l) R := by (repeat (first | exact Sp.head | apply Sp.tail))) : St w ((gA A).add (i * sz)) (enc x) k := by
  have hq : Que enc sz e w 0 A c l := H.mem (c := qu enc sz e A c l) (by rw [u.eq]; simp)
  rcases hq.place with ⟨_, hc⟩ | ⟨b, off, cs, rfl, hB, hb, hfit, hat⟩
  · have := hq.le; omega
  have hlen := flat_len hq.sizes
  have h5 : i * sz + sz ≤ l.length * sz := by
    have : (i + 1) * sz ≤ l.length * sz := Nat.mul_le_mul_right sz hi
    rw [Nat.add_mul, Nat.one_mul] at this; exact this
  have h6 : l.length * sz ≤ c * sz := Nat.mul_le_mul_right sz hq.le
  have e1 : (gA (some ⟨b, off, none⟩)).add (i * sz) = ⟨b, off + i * sz, none⟩ := by simp only [gA]; rw [add_lit]
  rw [e1]
  refine St.upd hb (Nat.ble_eq_true_of_le (by rw [hx]; omega)) h1 fun w' up hb' => hk w' (H.putS u (Hp.one ((Tch.refl _ _).upd up (.inl rfl)) (qu_ok (Que.of_blk hb' hB ?_ ?_ ?_ ?_)) fun k hk => .inl hk) rfl (.inl rfl))
  · intro y hy
    rcases List.mem_or_eq_of_mem_set hy with h | h
    · exact hq.sizes y h
    · rw [h]; exact hx
  · rw [List.length_set]; exact hq.le
  · unfold putL; simp only [List.length_append, List.length_take, List.length_drop, hx]; omega
  · intro j v hv
    rw [← putL_el hq.sizes hx hi, putL_get (by rw [hlen, hx]; exact h5)] at hv
    rw [putL_get (by rw [hx]; omega)]
    split at hv
    · rw [if_pos (by omega)]; exact hat j v hv
    · split at hv
      · rw [if_neg (by omega), if_pos (by omega), show off + j - (off + i * sz) = j - i * sz by omega]; exact hv
      · rw [if_neg (by omega), if_neg (by omega)]; exact hat j v hv
end
section
variable {S : Nat → Prop} {w0 w : World} {Γ : List Ck}
theorem Hp.less {e c : Ck} (H : Hp S w0 w (e :: Γ)) (heo : e.own = true) (hfp : ∀ k, c.fp k → e.fp k) (hok : e.Ok w → c.Ok w) : Hp S w0 w (c :: Γ) := by
  have hs := List.pairwise_cons.1 H.sep
  refine ⟨H.tch, fun b hb => ?_, List.pairwise_cons.2 ⟨fun b hb _ k hk => hs.1 b hb (.inl heo) k ⟨hfp k hk.1, hk.2⟩, hs.2⟩, fun b hb hb' k hk => ?_⟩
  · rcases List.mem_cons.1 hb with rfl | hb
    · exact hok (H.ok e (by simp))
    · exact H.ok b (by simp [hb])
  · rcases List.mem_cons.1 hb with rfl | hb
    · exact H.dom e (by simp) (.inl heo) k (hfp k hk)
    · exact H.dom b (by simp [hb]) hb' k hk
end
theorem QLd1.own {W : World → Prop} {b o : Nat} {t : TypeId} {vs : List Value} {v : Value} {k : Value → Prop} (h : ∀ w', W w' → Blk w' b t vs) (hk : k v) (hv : vs[o]? = some v := by rfl) : QLd1 W ⟨b, o, none⟩ k :=
  ⟨v, fun w' hw' => ((h w' hw').cell o).trans hv, hk⟩
theorem QLd1.rsw {α : Type} {enc : α → List Value} {W : World → Prop} {A : Option Addr} {l : List α} {i : Nat} {x : α} {v : Value} {k : Value → Prop} (h : ∀ w', W w' → RdS enc 1 w' A l) (hk : k v) (hx : l[i]? = some x := by assumption) (hv : (enc x)[0]? = some v := by rfl) : QLd1 W ((gA A).add (i * 1)) k := by
  refine ⟨v, fun w' hw' => ?_, hk⟩
  obtain ⟨vs, h1, h2, h3⟩ := (h w' hw').at_ i x hx
  unfold Fl at h2
  subst h2
  simpa using h3 0 v hv
theorem QLd1.rswF {α : Type} {enc : α → List Value} {sz : Nat} {W : World → Prop} {A : Option Addr} {l : List α} {i o : Nat} {x : α} {v : Value} {k : Value → Prop} (h : ∀ w', W w' → RdS enc sz w' A l) (hk : k v) (hx : l[i]? = some x := by assumption) (hv : (enc x)[o]? = some v := by rfl) : QLd1 W (pAdd ((gA A).add (i * sz)) o) k := by
  refine ⟨v, fun w' hw' => ?_, hk⟩
  obtain ⟨vs, h1, h2, h3⟩ := (h w' hw').at_ i x hx
  unfold Fl at h2
  subst h2
  rw [pAdd_add]
  exact h3 o v hv
theorem Hp.bq {S : Nat → Prop} {w0 w : World} {Γ : List Ck} {p sz : Nat} {t : TypeId} {α : Type} {enc : α → List Value} {l : List α} (H : Hp S w0 w (bk p t (l.flatMap enc) :: Γ)) (hm : ∀ x ∈ l, (enc x).length = sz) : Hp S w0 w (qu enc sz t (some ⟨p, 0, none⟩) l.length l :: Γ) := by
  have hs := List.pairwise_cons.1 H.sep
  have hfp : ∀ k, (qu enc sz t (some ⟨p, 0, none⟩) l.length l).fp k → (bk p t (l.flatMap enc)).fp k := fun k hk => by
    have : some p = some k := hk
    simpa using this.symm
  refine ⟨H.tch, fun b hb => ?_, List.pairwise_cons.2 ⟨fun b hb h k hk => hs.1 b hb (.inl rfl) k ⟨hfp k hk.1, hk.2⟩, hs.2⟩, fun b hb hb' k hk => ?_⟩
  · rcases List.mem_cons.1 hb with rfl | hb
    · exact qu_ok (Que.of_full (H.blk 0 rfl) (Nat.zero_le _) hm)
    · exact H.ok b (by simp [hb])
  · rcases List.mem_cons.1 hb with rfl | hb
    · exact H.dom _ (List.mem_cons_self ..) (.inl rfl) k (hfp k hk)
    · exact H.dom b (by simp [hb]) hb' k hk
theorem Gd.tY {a : List UInt8} {c : ByteArray} {X Y : Prop} (h : a = c.data.toList := by assumption) (hx : X) : Gd (bs a == c) X Y := Gd.sY h hx
theorem Gd.tN {a : List UInt8} {c : ByteArray} {X Y : Prop} (h : ¬ a = c.data.toList := by assumption) (hy : Y) : Gd (bs a == c) X Y := Gd.sN h hy
theorem Gd.tk {a b : List UInt8} {c : ByteArray} {X Y : Prop} (h : a = b := by assumption) (hc : (bs b == c) = false := by rfl) (hy : Y) : Gd (bs a == c) X Y := Gd.sk h hy hc
theorem Sm.strix2 {P : Program} {T : Tab} {w : World} {k : Value → World → Prop} {Y : List PanicEntry → World → Prop} {t : TypeId} {ti : TI} {l : List UInt8} (hT : TabOk P T) {kl : IntKind} {a : Int} {j : Nat} {b : UInt8} (ht : getT T.ts t = some ti := by rfl) (hd : ti.desc = .string := by rfl) (ha : a = (j : Int) := by first | with_reducible rfl | assumption) (hx : l[j]? = some b := by assumption) (hk : k (.int .u8 (b.toNat : Int)) w) : Sm P (Instr.index t (.string (bs l)) (.int kl a)) w k Y := Sm.strix hT hk ht hd ha hx
theorem St.h2 {S : Nat → Prop} {w0 w : World} {Γ Γ' : List Ck} {b o : Nat} {t : TypeId} {cs vs : List Value} {k : World → Prop} (H : Hp S w0 w Γ) (u : Upd1 Γ (bk b t cs) (bk b t (putL cs o vs)) Γ' := by (repeat (first | exact Upd1.head | apply Upd1.tail)))
    (hl : Nat.ble (o + vs.length) cs.length = true := by rfl) (h1 : vs.all Value.oneCell' = true := by rfl) (hk : ∀ (_ : Nat) w', Hp S w0 w' Γ' → True → k w') : St w ⟨b, o, none⟩ vs k := St.h H (fun w' h => hk 0 w' h trivial) u hl h1
theorem Gd.isBeq {α : Type} [BEq α] [LawfulBEq α] {a b : α} {X Y Z : Prop} (h : Z → Gd (a == b) X Y) : Z → Gd (a == b) X Y := h
theorem Gd.isBne {α : Type} [BEq α] [LawfulBEq α] {a b : α} {X Y Z : Prop} (h : Z → Gd (a != b) X Y) : Z → Gd (a != b) X Y := h
theorem ztF {Y X : Prop} (f : Y → X := by
  (first
   | ((with_reducible show _ → Gd ..); first
      | with_reducible (first | exact Gd.t | exact Gd.f | exact Gd.not)
      | ((fail_if_success (with_reducible (first | show _ → Gd (@decide _ _) _ _ | ((show _ → Gd (@BEq.beq _ _ _ _) _ _); refine Gd.isBeq ?_) | ((show _ → Gd (@bne _ _ _ _) _ _); refine Gd.isBne ?_)))); first | exact Gd.t | exact Gd.f | fail) | fail)
   | with_reducible exact Sq.mk
   | ((with_reducible show _ → Ld1 ..); first | exact Ld1.h H | exact Ld1.rF | exact Ld1.r | fail)
   | ((with_reducible show _ → Ld ..); first | exact Ld.h H | exact Ld.r | fail)
   | ((with_reducible show _ → Ix ..); first | exact Ix.h | exact Ix.ha | fail) | fail)) : Y → X := f
theorem ztS {Y X : Prop} (y : Y) (f : Y → X := by exact ztF) : X := f y
theorem ztT {Y X : Prop} (y : Y) (f : Y → X := by
  (first
   | ((with_reducible show _ → Gd (bs _ == _) _ _); first | exact Gd.tY | exact Gd.tk | exact Gd.tN | fail)
   | exact ztF
   | exact Sm.strix2 T.ok | fail)) : X := f y
theorem ztB {Y Z X : Prop} (y : Y) (z : Z) (f : Y → Z → X := by
  ((with_reducible show _ → _ → Gd ..); first
   | ((with_reducible show _ → _ → Gd (@decide _ _) _ _); exact Gd.dec)
   | ((with_reducible show _ → _ → Gd (@BEq.beq _ _ _ _) _ _); exact Gd.beq)
   | ((with_reducible show _ → _ → Gd (@bne _ _ _ _) _ _); exact Gd.bne)
   | exact Gd.var | fail)) : X := f y z
theorem ztA {Y X : Prop} (y : Y) (f : Y → X := by (first | ((with_reducible show _ → Al ..); exact Al.hp H) | ((with_reducible show _ → Go.Sh.St ..); exact St.h2 H) | fail)) : X := f y
theorem ztW {Y X : Prop} (y : Y) (f : Y → X := by ((with_reducible show _ → Go.Sh.St ..); exact St.h2 H)) : X := f y
theorem ztQ {Y X : Prop} (y : Y) (f : Y → X := by
  (first
   | exact ztF
   | ((with_reducible show _ → QLd1 ..); first | exact QLd1.h hW H | exact QLd1.h QW.one H | exact QLd1.rF hW | exact QLd1.r hW | fail)
   | ((with_reducible show _ → QLd ..); first | exact QLd.h hW H | exact QLd.h QW.one H | exact QLd.r hW | fail) | fail)) : X := f y
end Go.Sh
namespace Go.Proofs.YtfnjodpehomgfaaGreatDoor
open Go Go.Sh
set_option maxRecDepth 100000
namespace T
def t0 : TI := ⟨.tuple #[], 1, 0, (.tuple #[]), false⟩
def t2 : TI := ⟨.int .i64, 1, 8, (.int .i64 0), false⟩
def t3 : TI := ⟨.int .i64, 1, 8, (.int .i64 0), false⟩
def t4 : TI := ⟨.bool, 1, 1, (.bool false), false⟩
def t5 : TI := ⟨.int .u8, 1, 1, (.int .u8 0), false⟩
def t9 : TI := ⟨.string, 1, 16, (.string ⟨#[]⟩), false⟩
def t12 : TI := ⟨.int .u64, 1, 8, (.int .u64 0), false⟩
def t13 : TI := ⟨.struct #[⟨"msg", 9, 0, false, "", "runtime", 0⟩, ⟨"addr", 12, 1, false, "", "runtime", 16⟩], 2, 24, (.agg #[(.string ⟨#[]⟩), (.int .u64 0)]), false⟩
def t20 : TI := ⟨.interface #[], 1, 16, .nilIface, false⟩
def t21 : TI := ⟨.int .i32, 1, 4, (.int .i32 0), false⟩
def t22 : TI := ⟨.slice 34, 1, 24, (.slice none 0 0), false⟩
def t23 : TI := ⟨.struct #[⟨"Fns", 22, 0, false, "", "", 0⟩], 1, 24, (.agg #[(.slice none 0 0)]), false⟩
def t24 : TI := ⟨.struct #[⟨"Fns", 22, 0, false, "", "", 0⟩], 1, 24, (.agg #[(.slice none 0 0)]), false⟩
def t25 : TI := ⟨.int .i64, 1, 8, (.int .i64 0), false⟩
def t26 : TI := ⟨.struct #[⟨"Err", 25, 0, false, "", "", 0⟩, ⟨"At", 3, 1, false, "", "", 8⟩], 2, 16, (.agg #[(.int .i64 0), (.int .i64 0)]), true⟩
def t27 : TI := ⟨.struct #[⟨"Err", 25, 0, false, "", "", 0⟩, ⟨"At", 3, 1, false, "", "", 8⟩], 2, 16, (.agg #[(.int .i64 0), (.int .i64 0)]), true⟩
def t28 : TI := ⟨.tuple #[24, 27], 1, 0, (.tuple #[(.agg #[(.slice none 0 0)]), (.agg #[(.int .i64 0), (.int .i64 0)])]), false⟩
def t31 : TI := ⟨.slice 9, 1, 24, (.slice none 0 0), false⟩
def t32 : TI := ⟨.slice 76, 1, 24, (.slice none 0 0), false⟩
def t33 : TI := ⟨.struct #[⟨"Name", 9, 0, false, "", "", 0⟩, ⟨"Params", 31, 1, false, "", "", 16⟩, ⟨"Body", 32, 2, false, "", "", 40⟩], 3, 64, (.agg #[(.string ⟨#[]⟩), (.slice none 0 0), (.slice none 0 0)]), false⟩
def t34 : TI := ⟨.struct #[⟨"Name", 9, 0, false, "", "", 0⟩, ⟨"Params", 31, 1, false, "", "", 16⟩, ⟨"Body", 32, 2, false, "", "", 40⟩], 3, 64, (.agg #[(.string ⟨#[]⟩), (.slice none 0 0), (.slice none 0 0)]), false⟩
def t37 : TI := ⟨.tuple #[9, 25], 1, 0, (.tuple #[(.string ⟨#[]⟩), (.int .i64 0)]), false⟩
def t43 : TI := ⟨.slice 3, 1, 24, (.slice none 0 0), false⟩
def t46 : TI := ⟨.tuple #[9, 4], 1, 0, (.tuple #[(.string ⟨#[]⟩), (.bool false)]), false⟩
def t50 : TI := ⟨.slice 99, 1, 24, (.slice none 0 0), false⟩
def t52 : TI := ⟨.pointer 54, 1, 8, (.pointer none), false⟩
def t53 : TI := ⟨.struct #[⟨"Words", 50, 0, false, "", "", 0⟩, ⟨"Taken", 3, 1, false, "", "", 24⟩, ⟨"Spot", 27, 2, false, "", "", 32⟩], 4, 48, (.agg #[(.slice none 0 0), (.int .i64 0), (.int .i64 0), (.int .i64 0)]), false⟩
def t54 : TI := ⟨.struct #[⟨"Words", 50, 0, false, "", "", 0⟩, ⟨"Taken", 3, 1, false, "", "", 24⟩, ⟨"Spot", 27, 2, false, "", "", 32⟩], 4, 48, (.agg #[(.slice none 0 0), (.int .i64 0), (.int .i64 0), (.int .i64 0)]), false⟩
def t56 : TI := ⟨.pointer 63, 1, 8, (.pointer none), false⟩
def t57 : TI := ⟨.interface #[("Error", 96)], 1, 16, .nilIface, false⟩
def t58 : TI := ⟨.interface #[("Error", 96)], 1, 16, .nilIface, false⟩
def t59 : TI := ⟨.tuple #[58, 4], 1, 0, (.tuple #[.nilIface, (.bool false)]), false⟩
def t61 : TI := ⟨.pointer 56, 1, 8, (.pointer none), false⟩
def t62 : TI := ⟨.struct #[⟨"spot", 27, 0, false, "", "plunder/text", 0⟩], 2, 16, (.agg #[(.int .i64 0), (.int .i64 0)]), true⟩
def t63 : TI := ⟨.struct #[⟨"spot", 27, 0, false, "", "plunder/text", 0⟩], 2, 16, (.agg #[(.int .i64 0), (.int .i64 0)]), true⟩
def t64 : TI := ⟨.pointer 68, 1, 8, (.pointer none), false⟩
def t65 : TI := ⟨.struct #[⟨"kind", 9, 0, false, "", "plunder/text", 0⟩, ⟨"text", 9, 1, false, "", "plunder/text", 16⟩, ⟨"at", 3, 2, false, "", "plunder/text", 32⟩, ⟨"n", 2, 3, false, "", "plunder/text", 40⟩, ⟨"err", 25, 4, false, "", "plunder/text", 48⟩], 5, 56, (.agg #[(.string ⟨#[]⟩), (.string ⟨#[]⟩), (.int .i64 0), (.int .i64 0), (.int .i64 0)]), true⟩
def t66 : TI := ⟨.struct #[⟨"kind", 9, 0, false, "", "plunder/text", 0⟩, ⟨"text", 9, 1, false, "", "plunder/text", 16⟩, ⟨"at", 3, 2, false, "", "plunder/text", 32⟩, ⟨"n", 2, 3, false, "", "plunder/text", 40⟩, ⟨"err", 25, 4, false, "", "plunder/text", 48⟩], 5, 56, (.agg #[(.string ⟨#[]⟩), (.string ⟨#[]⟩), (.int .i64 0), (.int .i64 0), (.int .i64 0)]), true⟩
def t67 : TI := ⟨.struct #[⟨"src", 9, 0, false, "", "plunder/text", 0⟩, ⟨"next", 3, 1, false, "", "plunder/text", 16⟩, ⟨"cur", 66, 2, false, "", "plunder/text", 24⟩], 7, 80, (.agg #[(.string ⟨#[]⟩), (.int .i64 0), (.string ⟨#[]⟩), (.string ⟨#[]⟩), (.int .i64 0), (.int .i64 0), (.int .i64 0)]), true⟩
def t68 : TI := ⟨.struct #[⟨"src", 9, 0, false, "", "plunder/text", 0⟩, ⟨"next", 3, 1, false, "", "plunder/text", 16⟩, ⟨"cur", 66, 2, false, "", "plunder/text", 24⟩], 7, 80, (.agg #[(.string ⟨#[]⟩), (.int .i64 0), (.string ⟨#[]⟩), (.string ⟨#[]⟩), (.int .i64 0), (.int .i64 0), (.int .i64 0)]), true⟩
def t72 : TI := ⟨.slice 74, 1, 24, (.slice none 0 0), false⟩
def t73 : TI := ⟨.struct #[⟨"Kind", 3, 0, false, "", "", 0⟩, ⟨"Op", 3, 1, false, "", "", 8⟩, ⟨"K", 2, 2, false, "", "", 16⟩, ⟨"Name", 9, 3, false, "", "", 24⟩, ⟨"Comb", 9, 4, false, "", "", 40⟩, ⟨"Kids", 72, 5, false, "", "", 56⟩], 6, 80, (.agg #[(.int .i64 0), (.int .i64 0), (.int .i64 0), (.string ⟨#[]⟩), (.string ⟨#[]⟩), (.slice none 0 0)]), false⟩
def t74 : TI := ⟨.struct #[⟨"Kind", 3, 0, false, "", "", 0⟩, ⟨"Op", 3, 1, false, "", "", 8⟩, ⟨"K", 2, 2, false, "", "", 16⟩, ⟨"Name", 9, 3, false, "", "", 24⟩, ⟨"Comb", 9, 4, false, "", "", 40⟩, ⟨"Kids", 72, 5, false, "", "", 56⟩], 6, 80, (.agg #[(.int .i64 0), (.int .i64 0), (.int .i64 0), (.string ⟨#[]⟩), (.string ⟨#[]⟩), (.slice none 0 0)]), false⟩
def t75 : TI := ⟨.struct #[⟨"Kind", 3, 0, false, "", "", 0⟩, ⟨"Name", 9, 1, false, "", "", 8⟩, ⟨"E", 74, 2, false, "", "", 24⟩, ⟨"Body", 32, 8, false, "", "", 104⟩, ⟨"Else", 32, 9, false, "", "", 128⟩], 10, 152, (.agg #[(.int .i64 0), (.string ⟨#[]⟩), (.int .i64 0), (.int .i64 0), (.int .i64 0), (.string ⟨#[]⟩), (.string ⟨#[]⟩), (.slice none 0 0), (.slice none 0 0), (.slice none 0 0)]), false⟩
def t76 : TI := ⟨.struct #[⟨"Kind", 3, 0, false, "", "", 0⟩, ⟨"Name", 9, 1, false, "", "", 8⟩, ⟨"E", 74, 2, false, "", "", 24⟩, ⟨"Body", 32, 8, false, "", "", 104⟩, ⟨"Else", 32, 9, false, "", "", 128⟩], 10, 152, (.agg #[(.int .i64 0), (.string ⟨#[]⟩), (.int .i64 0), (.int .i64 0), (.int .i64 0), (.string ⟨#[]⟩), (.string ⟨#[]⟩), (.slice none 0 0), (.slice none 0 0), (.slice none 0 0)]), false⟩
def t77 : TI := ⟨.tuple #[9, 27, 4], 1, 0, (.tuple #[(.string ⟨#[]⟩), (.agg #[(.int .i64 0), (.int .i64 0)]), (.bool false)]), false⟩
def t79 : TI := ⟨.slice 81, 1, 24, (.slice none 0 0), false⟩
def t80 : TI := ⟨.struct #[⟨"Kids", 72, 0, false, "", "", 0⟩, ⟨"List", 32, 1, false, "", "", 24⟩, ⟨"At", 3, 2, false, "", "", 48⟩, ⟨"Deep", 3, 3, false, "", "", 56⟩], 4, 64, (.agg #[(.slice none 0 0), (.slice none 0 0), (.int .i64 0), (.int .i64 0)]), false⟩
def t81 : TI := ⟨.struct #[⟨"Kids", 72, 0, false, "", "", 0⟩, ⟨"List", 32, 1, false, "", "", 24⟩, ⟨"At", 3, 2, false, "", "", 48⟩, ⟨"Deep", 3, 3, false, "", "", 56⟩], 4, 64, (.agg #[(.slice none 0 0), (.slice none 0 0), (.int .i64 0), (.int .i64 0)]), false⟩
def t86 : TI := ⟨.pointer 92, 1, 8, (.pointer none), false⟩
def t87 : TI := ⟨.pointer 90, 1, 8, (.pointer none), false⟩
def t88 : TI := ⟨.slice 5, 1, 24, (.slice none 0 0), false⟩
def t89 : TI := ⟨.struct #[⟨"addr", 87, 0, false, "", "strings", 0⟩, ⟨"buf", 88, 1, false, "", "strings", 8⟩], 2, 32, (.agg #[(.pointer none), (.slice none 0 0)]), false⟩
def t90 : TI := ⟨.struct #[⟨"addr", 87, 0, false, "", "strings", 0⟩, ⟨"buf", 88, 1, false, "", "strings", 8⟩], 2, 32, (.agg #[(.pointer none), (.slice none 0 0)]), false⟩
def t91 : TI := ⟨.struct #[⟨"b", 90, 0, false, "", "plunder/text", 0⟩], 2, 32, (.agg #[(.pointer none), (.slice none 0 0)]), false⟩
def t92 : TI := ⟨.struct #[⟨"b", 90, 0, false, "", "plunder/text", 0⟩], 2, 32, (.agg #[(.pointer none), (.slice none 0 0)]), false⟩
def t98 : TI := ⟨.struct #[⟨"Kind", 9, 0, false, "", "", 0⟩, ⟨"At", 3, 1, false, "", "", 16⟩, ⟨"Text", 9, 2, false, "", "", 24⟩, ⟨"Err", 25, 3, false, "", "", 40⟩], 4, 48, (.agg #[(.string ⟨#[]⟩), (.int .i64 0), (.string ⟨#[]⟩), (.int .i64 0)]), true⟩
def t99 : TI := ⟨.struct #[⟨"Kind", 9, 0, false, "", "", 0⟩, ⟨"At", 3, 1, false, "", "", 16⟩, ⟨"Text", 9, 2, false, "", "", 24⟩, ⟨"Err", 25, 3, false, "", "", 40⟩], 4, 48, (.agg #[(.string ⟨#[]⟩), (.int .i64 0), (.string ⟨#[]⟩), (.int .i64 0)]), true⟩
def t116 : TI := ⟨.tuple #[66, 3], 1, 0, (.tuple #[(.agg #[(.string ⟨#[]⟩), (.string ⟨#[]⟩), (.int .i64 0), (.int .i64 0), (.int .i64 0)]), (.int .i64 0)]), false⟩
def t121 : TI := ⟨.array 10 9, 10, 160, (.agg #[(.string ⟨#[]⟩), (.string ⟨#[]⟩), (.string ⟨#[]⟩), (.string ⟨#[]⟩), (.string ⟨#[]⟩), (.string ⟨#[]⟩), (.string ⟨#[]⟩), (.string ⟨#[]⟩), (.string ⟨#[]⟩), (.string ⟨#[]⟩)]), false⟩
def t126 : TI := ⟨.tuple #[3, 58], 1, 0, (.tuple #[(.int .i64 0), .nilIface]), false⟩
def t131 : TI := ⟨.pointer 5, 1, 8, (.pointer none), false⟩
def t142 : TI := ⟨.interface #[("As", 144)], 1, 16, .nilIface, false⟩
def t143 : TI := ⟨.tuple #[142, 4], 1, 0, (.tuple #[.nilIface, (.bool false)]), false⟩
def t145 : TI := ⟨.interface #[("Unwrap", 146)], 1, 16, .nilIface, false⟩
def t147 : TI := ⟨.interface #[("Unwrap", 149)], 1, 16, .nilIface, false⟩
def t148 : TI := ⟨.slice 58, 1, 24, (.slice none 0 0), false⟩
def t151 : TI := ⟨.array 24 9, 24, 384, (.agg #[(.string ⟨#[]⟩), (.string ⟨#[]⟩), (.string ⟨#[]⟩), (.string ⟨#[]⟩), (.string ⟨#[]⟩), (.string ⟨#[]⟩), (.string ⟨#[]⟩), (.string ⟨#[]⟩), (.string ⟨#[]⟩), (.string ⟨#[]⟩), (.string ⟨#[]⟩), (.string ⟨#[]⟩), (.string ⟨#[]⟩), (.string ⟨#[]⟩), (.string ⟨#[]⟩), (.string ⟨#[]⟩), (.string ⟨#[]⟩), (.string ⟨#[]⟩), (.string ⟨#[]⟩), (.string ⟨#[]⟩), (.string ⟨#[]⟩), (.string ⟨#[]⟩), (.string ⟨#[]⟩), (.string ⟨#[]⟩)]), false⟩
def t153 : TI := ⟨.array 15 9, 15, 240, (.agg #[(.string ⟨#[]⟩), (.string ⟨#[]⟩), (.string ⟨#[]⟩), (.string ⟨#[]⟩), (.string ⟨#[]⟩), (.string ⟨#[]⟩), (.string ⟨#[]⟩), (.string ⟨#[]⟩), (.string ⟨#[]⟩), (.string ⟨#[]⟩), (.string ⟨#[]⟩), (.string ⟨#[]⟩), (.string ⟨#[]⟩), (.string ⟨#[]⟩), (.string ⟨#[]⟩)]), false⟩
def t154 : TI := ⟨.int .u64, 1, 8, (.int .u64 0), false⟩
def t155 : TI := ⟨.tuple #[154, 154], 1, 0, (.tuple #[(.int .u64 0), (.int .u64 0)]), false⟩
def t163 : TI := ⟨.tuple #[2, 25], 1, 0, (.tuple #[(.int .i64 0), (.int .i64 0)]), false⟩
def t167 : TI := ⟨.int .u32, 1, 4, (.int .u32 0), false⟩
def t168 : TI := ⟨.tuple #[167, 167], 1, 0, (.tuple #[(.int .u32 0), (.int .u32 0)]), false⟩
def t170 : TI := ⟨.int .u64, 1, 8, (.int .u64 0), false⟩
def t171 : TI := ⟨.tuple #[170, 170], 1, 0, (.tuple #[(.int .u64 0), (.int .u64 0)]), false⟩
def t187 : TI := ⟨.array 16 9, 16, 256, (.agg #[(.string ⟨#[]⟩), (.string ⟨#[]⟩), (.string ⟨#[]⟩), (.string ⟨#[]⟩), (.string ⟨#[]⟩), (.string ⟨#[]⟩), (.string ⟨#[]⟩), (.string ⟨#[]⟩), (.string ⟨#[]⟩), (.string ⟨#[]⟩), (.string ⟨#[]⟩), (.string ⟨#[]⟩), (.string ⟨#[]⟩), (.string ⟨#[]⟩), (.string ⟨#[]⟩), (.string ⟨#[]⟩)]), false⟩
def t188 : TI := ⟨.array 8 31, 8, 192, (.agg #[(.slice none 0 0), (.slice none 0 0), (.slice none 0 0), (.slice none 0 0), (.slice none 0 0), (.slice none 0 0), (.slice none 0 0), (.slice none 0 0)]), false⟩
def t191 : TI := ⟨.array 24 5, 24, 24, (.agg #[(.int .u8 0), (.int .u8 0), (.int .u8 0), (.int .u8 0), (.int .u8 0), (.int .u8 0), (.int .u8 0), (.int .u8 0), (.int .u8 0), (.int .u8 0), (.int .u8 0), (.int .u8 0), (.int .u8 0), (.int .u8 0), (.int .u8 0), (.int .u8 0), (.int .u8 0), (.int .u8 0), (.int .u8 0), (.int .u8 0), (.int .u8 0), (.int .u8 0), (.int .u8 0), (.int .u8 0)]), false⟩
def t198 : TI := ⟨.array 20 170, 20, 160, (.agg #[(.int .u64 0), (.int .u64 0), (.int .u64 0), (.int .u64 0), (.int .u64 0), (.int .u64 0), (.int .u64 0), (.int .u64 0), (.int .u64 0), (.int .u64 0), (.int .u64 0), (.int .u64 0), (.int .u64 0), (.int .u64 0), (.int .u64 0), (.int .u64 0), (.int .u64 0), (.int .u64 0), (.int .u64 0), (.int .u64 0)]), false⟩
def t202 : TI := ⟨.array 32 5, 32, 32, (.agg #[(.int .u8 0), (.int .u8 0), (.int .u8 0), (.int .u8 0), (.int .u8 0), (.int .u8 0), (.int .u8 0), (.int .u8 0), (.int .u8 0), (.int .u8 0), (.int .u8 0), (.int .u8 0), (.int .u8 0), (.int .u8 0), (.int .u8 0), (.int .u8 0), (.int .u8 0), (.int .u8 0), (.int .u8 0), (.int .u8 0), (.int .u8 0), (.int .u8 0), (.int .u8 0), (.int .u8 0), (.int .u8 0), (.int .u8 0), (.int .u8 0), (.int .u8 0), (.int .u8 0), (.int .u8 0), (.int .u8 0), (.int .u8 0)]), false⟩
abbrev RowT (t : Nat) (i : TI) : Prop := Tryz.prog.underlying t = some i.desc ∧ (Tryz.prog.info? t).map (fun j => (j.zero, j.size, j.bytes)) = some (some i.zero, i.size, i.bytes) ∧ (i.flat = true → FlatOk Tryz.prog t i)
theorem o0 : RowT 0 t0 := ⟨by kernel_rfl, by kernel_rfl, fun h => absurd h (by decide)⟩
theorem o2 : RowT 2 t2 := ⟨by kernel_rfl, by kernel_rfl, fun h => absurd h (by decide)⟩
theorem o3 : RowT 3 t3 := ⟨by kernel_rfl, by kernel_rfl, fun h => absurd h (by decide)⟩
theorem o4 : RowT 4 t4 := ⟨by kernel_rfl, by kernel_rfl, fun h => absurd h (by decide)⟩
theorem o5 : RowT 5 t5 := ⟨by kernel_rfl, by kernel_rfl, fun h => absurd h (by decide)⟩
theorem o9 : RowT 9 t9 := ⟨by kernel_rfl, by kernel_rfl, fun h => absurd h (by decide)⟩
theorem o12 : RowT 12 t12 := ⟨by kernel_rfl, by kernel_rfl, fun h => absurd h (by decide)⟩
theorem o13 : RowT 13 t13 := ⟨by kernel_rfl, by kernel_rfl, fun h => absurd h (by decide)⟩
theorem o20 : RowT 20 t20 := ⟨by kernel_rfl, by kernel_rfl, fun h => absurd h (by decide)⟩
theorem o21 : RowT 21 t21 := ⟨by kernel_rfl, by kernel_rfl, fun h => absurd h (by decide)⟩
theorem o22 : RowT 22 t22 := ⟨by kernel_rfl, by kernel_rfl, fun h => absurd h (by decide)⟩
theorem o23 : RowT 23 t23 := ⟨by kernel_rfl, by kernel_rfl, fun h => absurd h (by decide)⟩
theorem o24 : RowT 24 t24 := ⟨by kernel_rfl, by kernel_rfl, fun h => absurd h (by decide)⟩
theorem o25 : RowT 25 t25 := ⟨by kernel_rfl, by kernel_rfl, fun h => absurd h (by decide)⟩
theorem o26 : RowT 26 t26 := ⟨by kernel_rfl, by kernel_rfl, fun _ => ⟨by kernel_rfl, by kernel_rfl, by kernel_rfl⟩⟩
theorem o27 : RowT 27 t27 := ⟨by kernel_rfl, by kernel_rfl, fun _ => ⟨by kernel_rfl, by kernel_rfl, by kernel_rfl⟩⟩
theorem o28 : RowT 28 t28 := ⟨by kernel_rfl, by kernel_rfl, fun h => absurd h (by decide)⟩
theorem o31 : RowT 31 t31 := ⟨by kernel_rfl, by kernel_rfl, fun h => absurd h (by decide)⟩
theorem o32 : RowT 32 t32 := ⟨by kernel_rfl, by kernel_rfl, fun h => absurd h (by decide)⟩
theorem o33 : RowT 33 t33 := ⟨by kernel_rfl, by kernel_rfl, fun h => absurd h (by decide)⟩
theorem o34 : RowT 34 t34 := ⟨by kernel_rfl, by kernel_rfl, fun h => absurd h (by decide)⟩
theorem o37 : RowT 37 t37 := ⟨by kernel_rfl, by kernel_rfl, fun h => absurd h (by decide)⟩
theorem o43 : RowT 43 t43 := ⟨by kernel_rfl, by kernel_rfl, fun h => absurd h (by decide)⟩
theorem o46 : RowT 46 t46 := ⟨by kernel_rfl, by kernel_rfl, fun h => absurd h (by decide)⟩
theorem o50 : RowT 50 t50 := ⟨by kernel_rfl, by kernel_rfl, fun h => absurd h (by decide)⟩
theorem o52 : RowT 52 t52 := ⟨by kernel_rfl, by kernel_rfl, fun h => absurd h (by decide)⟩
theorem o53 : RowT 53 t53 := ⟨by kernel_rfl, by kernel_rfl, fun h => absurd h (by decide)⟩
theorem o54 : RowT 54 t54 := ⟨by kernel_rfl, by kernel_rfl, fun h => absurd h (by decide)⟩
theorem o56 : RowT 56 t56 := ⟨by kernel_rfl, by kernel_rfl, fun h => absurd h (by decide)⟩
theorem o57 : RowT 57 t57 := ⟨by kernel_rfl, by kernel_rfl, fun h => absurd h (by decide)⟩
theorem o58 : RowT 58 t58 := ⟨by kernel_rfl, by kernel_rfl, fun h => absurd h (by decide)⟩
theorem o59 : RowT 59 t59 := ⟨by kernel_rfl, by kernel_rfl, fun h => absurd h (by decide)⟩
theorem o61 : RowT 61 t61 := ⟨by kernel_rfl, by kernel_rfl, fun h => absurd h (by decide)⟩
theorem o62 : RowT 62 t62 := ⟨by kernel_rfl, by kernel_rfl, fun _ => ⟨by kernel_rfl, by kernel_rfl, by kernel_rfl⟩⟩
theorem o63 : RowT 63 t63 := ⟨by kernel_rfl, by kernel_rfl, fun _ => ⟨by kernel_rfl, by kernel_rfl, by kernel_rfl⟩⟩
theorem o64 : RowT 64 t64 := ⟨by kernel_rfl, by kernel_rfl, fun h => absurd h (by decide)⟩
theorem o65 : RowT 65 t65 := ⟨by kernel_rfl, by kernel_rfl, fun _ => ⟨by kernel_rfl, by kernel_rfl, by kernel_rfl⟩⟩
theorem o66 : RowT 66 t66 := ⟨by kernel_rfl, by kernel_rfl, fun _ => ⟨by kernel_rfl, by kernel_rfl, by kernel_rfl⟩⟩
theorem o67 : RowT 67 t67 := ⟨by kernel_rfl, by kernel_rfl, fun _ => ⟨by kernel_rfl, by kernel_rfl, by kernel_rfl⟩⟩
theorem o68 : RowT 68 t68 := ⟨by kernel_rfl, by kernel_rfl, fun _ => ⟨by kernel_rfl, by kernel_rfl, by kernel_rfl⟩⟩
theorem o72 : RowT 72 t72 := ⟨by kernel_rfl, by kernel_rfl, fun h => absurd h (by decide)⟩
theorem o73 : RowT 73 t73 := ⟨by kernel_rfl, by kernel_rfl, fun h => absurd h (by decide)⟩
theorem o74 : RowT 74 t74 := ⟨by kernel_rfl, by kernel_rfl, fun h => absurd h (by decide)⟩
theorem o75 : RowT 75 t75 := ⟨by kernel_rfl, by kernel_rfl, fun h => absurd h (by decide)⟩
theorem o76 : RowT 76 t76 := ⟨by kernel_rfl, by kernel_rfl, fun h => absurd h (by decide)⟩
theorem o77 : RowT 77 t77 := ⟨by kernel_rfl, by kernel_rfl, fun h => absurd h (by decide)⟩
theorem o79 : RowT 79 t79 := ⟨by kernel_rfl, by kernel_rfl, fun h => absurd h (by decide)⟩
theorem o80 : RowT 80 t80 := ⟨by kernel_rfl, by kernel_rfl, fun h => absurd h (by decide)⟩
theorem o81 : RowT 81 t81 := ⟨by kernel_rfl, by kernel_rfl, fun h => absurd h (by decide)⟩
theorem o86 : RowT 86 t86 := ⟨by kernel_rfl, by kernel_rfl, fun h => absurd h (by decide)⟩
theorem o87 : RowT 87 t87 := ⟨by kernel_rfl, by kernel_rfl, fun h => absurd h (by decide)⟩
theorem o88 : RowT 88 t88 := ⟨by kernel_rfl, by kernel_rfl, fun h => absurd h (by decide)⟩
theorem o89 : RowT 89 t89 := ⟨by kernel_rfl, by kernel_rfl, fun h => absurd h (by decide)⟩
theorem o90 : RowT 90 t90 := ⟨by kernel_rfl, by kernel_rfl, fun h => absurd h (by decide)⟩
theorem o91 : RowT 91 t91 := ⟨by kernel_rfl, by kernel_rfl, fun h => absurd h (by decide)⟩
theorem o92 : RowT 92 t92 := ⟨by kernel_rfl, by kernel_rfl, fun h => absurd h (by decide)⟩
theorem o98 : RowT 98 t98 := ⟨by kernel_rfl, by kernel_rfl, fun _ => ⟨by kernel_rfl, by kernel_rfl, by kernel_rfl⟩⟩
theorem o99 : RowT 99 t99 := ⟨by kernel_rfl, by kernel_rfl, fun _ => ⟨by kernel_rfl, by kernel_rfl, by kernel_rfl⟩⟩
theorem o116 : RowT 116 t116 := ⟨by kernel_rfl, by kernel_rfl, fun h => absurd h (by decide)⟩
theorem o121 : RowT 121 t121 := ⟨by kernel_rfl, by kernel_rfl, fun h => absurd h (by decide)⟩
theorem o126 : RowT 126 t126 := ⟨by kernel_rfl, by kernel_rfl, fun h => absurd h (by decide)⟩
theorem o131 : RowT 131 t131 := ⟨by kernel_rfl, by kernel_rfl, fun h => absurd h (by decide)⟩
theorem o142 : RowT 142 t142 := ⟨by kernel_rfl, by kernel_rfl, fun h => absurd h (by decide)⟩
theorem o143 : RowT 143 t143 := ⟨by kernel_rfl, by kernel_rfl, fun h => absurd h (by decide)⟩
theorem o145 : RowT 145 t145 := ⟨by kernel_rfl, by kernel_rfl, fun h => absurd h (by decide)⟩
theorem o147 : RowT 147 t147 := ⟨by kernel_rfl, by kernel_rfl, fun h => absurd h (by decide)⟩
theorem o148 : RowT 148 t148 := ⟨by kernel_rfl, by kernel_rfl, fun h => absurd h (by decide)⟩
theorem o151 : RowT 151 t151 := ⟨by kernel_rfl, by kernel_rfl, fun h => absurd h (by decide)⟩
theorem o153 : RowT 153 t153 := ⟨by kernel_rfl, by kernel_rfl, fun h => absurd h (by decide)⟩
theorem o154 : RowT 154 t154 := ⟨by kernel_rfl, by kernel_rfl, fun h => absurd h (by decide)⟩
theorem o155 : RowT 155 t155 := ⟨by kernel_rfl, by kernel_rfl, fun h => absurd h (by decide)⟩
theorem o163 : RowT 163 t163 := ⟨by kernel_rfl, by kernel_rfl, fun h => absurd h (by decide)⟩
theorem o167 : RowT 167 t167 := ⟨by kernel_rfl, by kernel_rfl, fun h => absurd h (by decide)⟩
theorem o168 : RowT 168 t168 := ⟨by kernel_rfl, by kernel_rfl, fun h => absurd h (by decide)⟩
theorem o170 : RowT 170 t170 := ⟨by kernel_rfl, by kernel_rfl, fun h => absurd h (by decide)⟩
theorem o171 : RowT 171 t171 := ⟨by kernel_rfl, by kernel_rfl, fun h => absurd h (by decide)⟩
theorem o187 : RowT 187 t187 := ⟨by kernel_rfl, by kernel_rfl, fun h => absurd h (by decide)⟩
theorem o188 : RowT 188 t188 := ⟨by kernel_rfl, by kernel_rfl, fun h => absurd h (by decide)⟩
theorem o191 : RowT 191 t191 := ⟨by kernel_rfl, by kernel_rfl, fun h => absurd h (by decide)⟩
theorem o198 : RowT 198 t198 := ⟨by kernel_rfl, by kernel_rfl, fun h => absurd h (by decide)⟩
theorem o202 : RowT 202 t202 := ⟨by kernel_rfl, by kernel_rfl, fun h => absurd h (by decide)⟩
def ts : List (Nat × TI) := [(0, t0), (2, t2), (3, t3), (4, t4), (5, t5), (9, t9), (12, t12), (13, t13), (20, t20), (21, t21), (22, t22), (23, t23), (24, t24), (25, t25), (26, t26), (27, t27), (28, t28), (31, t31), (32, t32), (33, t33), (34, t34), (37, t37), (43, t43), (46, t46), (50, t50), (52, t52), (53, t53), (54, t54), (56, t56), (57, t57), (58, t58), (59, t59), (61, t61), (62, t62), (63, t63), (64, t64), (65, t65), (66, t66), (67, t67), (68, t68), (72, t72), (73, t73), (74, t74), (75, t75), (76, t76), (77, t77), (79, t79), (80, t80), (81, t81), (86, t86), (87, t87), (88, t88), (89, t89), (90, t90), (91, t91), (92, t92), (98, t98), (99, t99), (116, t116), (121, t121), (126, t126), (131, t131), (142, t142), (143, t143), (145, t145), (147, t147), (148, t148), (151, t151), (153, t153), (154, t154), (155, t155), (163, t163), (167, t167), (168, t168), (170, t170), (171, t171), (187, t187), (188, t188), (191, t191), (198, t198), (202, t202)]
theorem ts_ok : TabOkT Tryz.prog ts := by
  refine ⟨o0, o2, o3, o4, o5, o9, o12, o13, o20, o21, o22, o23, o24, o25, o26, o27, o28, o31, o32, o33, o34, o37, o43, o46, o50, o52, o53, o54, o56, o57, o58, o59, o61, o62, o63, o64, o65, o66, o67, o68, o72, o73, o74, o75, o76, o77, o79, o80, o81, o86, o87, o88, o89, o90, o91, o92, o98, o99, o116, o121, o126, o131, o142, o143, o145, o147, o148, o151, o153, o154, o155, o163, o167, o168, o170, o171, o187, o188, o191, o198, o202, trivial⟩
theorem g3 : IsGo Tryz.prog 3 := ⟨Tryz.f3, Tryz.func3, by kernel_rfl, by kernel_rfl⟩
theorem g4 : IsGo Tryz.prog 4 := ⟨Tryz.f4, Tryz.func4, by kernel_rfl, by kernel_rfl⟩
theorem g5 : IsGo Tryz.prog 5 := ⟨Tryz.f5, Tryz.func5, by kernel_rfl, by kernel_rfl⟩
theorem g6 : IsGo Tryz.prog 6 := ⟨Tryz.f6, Tryz.func6, by kernel_rfl, by kernel_rfl⟩
theorem g7 : IsGo Tryz.prog 7 := ⟨Tryz.f7, Tryz.func7, by kernel_rfl, by kernel_rfl⟩
theorem g8 : IsGo Tryz.prog 8 := ⟨Tryz.f8, Tryz.func8, by kernel_rfl, by kernel_rfl⟩
theorem g9 : IsGo Tryz.prog 9 := ⟨Tryz.f9, Tryz.func9, by kernel_rfl, by kernel_rfl⟩
theorem g10 : IsGo Tryz.prog 10 := ⟨Tryz.f10, Tryz.func10, by kernel_rfl, by kernel_rfl⟩
theorem g11 : IsGo Tryz.prog 11 := ⟨Tryz.f11, Tryz.func11, by kernel_rfl, by kernel_rfl⟩
theorem g12 : IsGo Tryz.prog 12 := ⟨Tryz.f12, Tryz.func12, by kernel_rfl, by kernel_rfl⟩
theorem g13 : IsGo Tryz.prog 13 := ⟨Tryz.f13, Tryz.func13, by kernel_rfl, by kernel_rfl⟩
theorem g14 : IsGo Tryz.prog 14 := ⟨Tryz.f14, Tryz.func14, by kernel_rfl, by kernel_rfl⟩
theorem g15 : IsGo Tryz.prog 15 := ⟨Tryz.f15, Tryz.func15, by kernel_rfl, by kernel_rfl⟩
theorem g16 : IsGo Tryz.prog 16 := ⟨Tryz.f16, Tryz.func16, by kernel_rfl, by kernel_rfl⟩
theorem g17 : IsGo Tryz.prog 17 := ⟨Tryz.f17, Tryz.func17, by kernel_rfl, by kernel_rfl⟩
theorem g18 : IsGo Tryz.prog 18 := ⟨Tryz.f18, Tryz.func18, by kernel_rfl, by kernel_rfl⟩
theorem g19 : IsGo Tryz.prog 19 := ⟨Tryz.f19, Tryz.func19, by kernel_rfl, by kernel_rfl⟩
theorem g20 : IsGo Tryz.prog 20 := ⟨Tryz.f20, Tryz.func20, by kernel_rfl, by kernel_rfl⟩
theorem g21 : IsGo Tryz.prog 21 := ⟨Tryz.f21, Tryz.func21, by kernel_rfl, by kernel_rfl⟩
theorem g22 : IsGo Tryz.prog 22 := ⟨Tryz.f22, Tryz.func22, by kernel_rfl, by kernel_rfl⟩
theorem g23 : IsGo Tryz.prog 23 := ⟨Tryz.f23, Tryz.func23, by kernel_rfl, by kernel_rfl⟩
theorem g24 : IsGo Tryz.prog 24 := ⟨Tryz.f24, Tryz.func24, by kernel_rfl, by kernel_rfl⟩
theorem g25 : IsGo Tryz.prog 25 := ⟨Tryz.f25, Tryz.func25, by kernel_rfl, by kernel_rfl⟩
theorem g26 : IsGo Tryz.prog 26 := ⟨Tryz.f26, Tryz.func26, by kernel_rfl, by kernel_rfl⟩
theorem g27 : IsGo Tryz.prog 27 := ⟨Tryz.f27, Tryz.func27, by kernel_rfl, by kernel_rfl⟩
theorem g28 : IsGo Tryz.prog 28 := ⟨Tryz.f28, Tryz.func28, by kernel_rfl, by kernel_rfl⟩
theorem g29 : IsGo Tryz.prog 29 := ⟨Tryz.f29, Tryz.func29, by kernel_rfl, by kernel_rfl⟩
theorem g30 : IsGo Tryz.prog 30 := ⟨Tryz.f30, Tryz.func30, by kernel_rfl, by kernel_rfl⟩
theorem g31 : IsGo Tryz.prog 31 := ⟨Tryz.f31, Tryz.func31, by kernel_rfl, by kernel_rfl⟩
theorem g32 : IsGo Tryz.prog 32 := ⟨Tryz.f32, Tryz.func32, by kernel_rfl, by kernel_rfl⟩
theorem g33 : IsGo Tryz.prog 33 := ⟨Tryz.f33, Tryz.func33, by kernel_rfl, by kernel_rfl⟩
theorem g34 : IsGo Tryz.prog 34 := ⟨Tryz.f34, Tryz.func34, by kernel_rfl, by kernel_rfl⟩
theorem g35 : IsGo Tryz.prog 35 := ⟨Tryz.f35, Tryz.func35, by kernel_rfl, by kernel_rfl⟩
theorem g36 : IsGo Tryz.prog 36 := ⟨Tryz.f36, Tryz.func36, by kernel_rfl, by kernel_rfl⟩
theorem g37 : IsGo Tryz.prog 37 := ⟨Tryz.f37, Tryz.func37, by kernel_rfl, by kernel_rfl⟩
theorem g38 : IsGo Tryz.prog 38 := ⟨Tryz.f38, Tryz.func38, by kernel_rfl, by kernel_rfl⟩
theorem g39 : IsGo Tryz.prog 39 := ⟨Tryz.f39, Tryz.func39, by kernel_rfl, by kernel_rfl⟩
theorem g40 : IsGo Tryz.prog 40 := ⟨Tryz.f40, Tryz.func40, by kernel_rfl, by kernel_rfl⟩
theorem g41 : IsGo Tryz.prog 41 := ⟨Tryz.f41, Tryz.func41, by kernel_rfl, by kernel_rfl⟩
theorem g42 : IsGo Tryz.prog 42 := ⟨Tryz.f42, Tryz.func42, by kernel_rfl, by kernel_rfl⟩
theorem g43 : IsGo Tryz.prog 43 := ⟨Tryz.f43, Tryz.func43, by kernel_rfl, by kernel_rfl⟩
theorem g44 : IsGo Tryz.prog 44 := ⟨Tryz.f44, Tryz.func44, by kernel_rfl, by kernel_rfl⟩
theorem g45 : IsGo Tryz.prog 45 := ⟨Tryz.f45, Tryz.func45, by kernel_rfl, by kernel_rfl⟩
theorem g46 : IsGo Tryz.prog 46 := ⟨Tryz.f46, Tryz.func46, by kernel_rfl, by kernel_rfl⟩
theorem g47 : IsGo Tryz.prog 47 := ⟨Tryz.f47, Tryz.func47, by kernel_rfl, by kernel_rfl⟩
theorem g48 : IsGo Tryz.prog 48 := ⟨Tryz.f48, Tryz.func48, by kernel_rfl, by kernel_rfl⟩
theorem g49 : IsGo Tryz.prog 49 := ⟨Tryz.f49, Tryz.func49, by kernel_rfl, by kernel_rfl⟩
theorem g50 : IsGo Tryz.prog 50 := ⟨Tryz.f50, Tryz.func50, by kernel_rfl, by kernel_rfl⟩
theorem g51 : IsGo Tryz.prog 51 := ⟨Tryz.f51, Tryz.func51, by kernel_rfl, by kernel_rfl⟩
theorem g52 : IsGo Tryz.prog 52 := ⟨Tryz.f52, Tryz.func52, by kernel_rfl, by kernel_rfl⟩
theorem g53 : IsGo Tryz.prog 53 := ⟨Tryz.f53, Tryz.func53, by kernel_rfl, by kernel_rfl⟩
theorem g54 : IsGo Tryz.prog 54 := ⟨Tryz.f54, Tryz.func54, by kernel_rfl, by kernel_rfl⟩
theorem g58 : IsGo Tryz.prog 58 := ⟨Tryz.f58, Tryz.func58, by kernel_rfl, by kernel_rfl⟩
theorem g59 : IsGo Tryz.prog 59 := ⟨Tryz.f59, Tryz.func59, by kernel_rfl, by kernel_rfl⟩
theorem g60 : IsGo Tryz.prog 60 := ⟨Tryz.f60, Tryz.func60, by kernel_rfl, by kernel_rfl⟩
theorem g61 : IsGo Tryz.prog 61 := ⟨Tryz.f61, Tryz.func61, by kernel_rfl, by kernel_rfl⟩
theorem g62 : IsGo Tryz.prog 62 := ⟨Tryz.f62, Tryz.func62, by kernel_rfl, by kernel_rfl⟩
theorem g63 : IsGo Tryz.prog 63 := ⟨Tryz.f63, Tryz.func63, by kernel_rfl, by kernel_rfl⟩
theorem g64 : IsGo Tryz.prog 64 := ⟨Tryz.f64, Tryz.func64, by kernel_rfl, by kernel_rfl⟩
theorem g65 : IsGo Tryz.prog 65 := ⟨Tryz.f65, Tryz.func65, by kernel_rfl, by kernel_rfl⟩
theorem g66 : IsGo Tryz.prog 66 := ⟨Tryz.f66, Tryz.func66, by kernel_rfl, by kernel_rfl⟩
theorem g67 : IsGo Tryz.prog 67 := ⟨Tryz.f67, Tryz.func67, by kernel_rfl, by kernel_rfl⟩
theorem g68 : IsGo Tryz.prog 68 := ⟨Tryz.f68, Tryz.func68, by kernel_rfl, by kernel_rfl⟩
theorem g69 : IsGo Tryz.prog 69 := ⟨Tryz.f69, Tryz.func69, by kernel_rfl, by kernel_rfl⟩
theorem g70 : IsGo Tryz.prog 70 := ⟨Tryz.f70, Tryz.func70, by kernel_rfl, by kernel_rfl⟩
theorem g71 : IsGo Tryz.prog 71 := ⟨Tryz.f71, Tryz.func71, by kernel_rfl, by kernel_rfl⟩
theorem g72 : IsGo Tryz.prog 72 := ⟨Tryz.f72, Tryz.func72, by kernel_rfl, by kernel_rfl⟩
theorem g73 : IsGo Tryz.prog 73 := ⟨Tryz.f73, Tryz.func73, by kernel_rfl, by kernel_rfl⟩
theorem g74 : IsGo Tryz.prog 74 := ⟨Tryz.f74, Tryz.func74, by kernel_rfl, by kernel_rfl⟩
theorem g75 : IsGo Tryz.prog 75 := ⟨Tryz.f75, Tryz.func75, by kernel_rfl, by kernel_rfl⟩
theorem g76 : IsGo Tryz.prog 76 := ⟨Tryz.f76, Tryz.func76, by kernel_rfl, by kernel_rfl⟩
theorem g77 : IsGo Tryz.prog 77 := ⟨Tryz.f77, Tryz.func77, by kernel_rfl, by kernel_rfl⟩
theorem g78 : IsGo Tryz.prog 78 := ⟨Tryz.f78, Tryz.func78, by kernel_rfl, by kernel_rfl⟩
theorem g79 : IsGo Tryz.prog 79 := ⟨Tryz.f79, Tryz.func79, by kernel_rfl, by kernel_rfl⟩
theorem g80 : IsGo Tryz.prog 80 := ⟨Tryz.f80, Tryz.func80, by kernel_rfl, by kernel_rfl⟩
theorem g81 : IsGo Tryz.prog 81 := ⟨Tryz.f81, Tryz.func81, by kernel_rfl, by kernel_rfl⟩
theorem g82 : IsGo Tryz.prog 82 := ⟨Tryz.f82, Tryz.func82, by kernel_rfl, by kernel_rfl⟩
theorem g83 : IsGo Tryz.prog 83 := ⟨Tryz.f83, Tryz.func83, by kernel_rfl, by kernel_rfl⟩
theorem g87 : IsGo Tryz.prog 87 := ⟨Tryz.f87, Tryz.func87, by kernel_rfl, by kernel_rfl⟩
theorem g88 : IsGo Tryz.prog 88 := ⟨Tryz.f88, Tryz.func88, by kernel_rfl, by kernel_rfl⟩
theorem g89 : IsGo Tryz.prog 89 := ⟨Tryz.f89, Tryz.func89, by kernel_rfl, by kernel_rfl⟩
theorem g90 : IsGo Tryz.prog 90 := ⟨Tryz.f90, Tryz.func90, by kernel_rfl, by kernel_rfl⟩
theorem g91 : IsGo Tryz.prog 91 := ⟨Tryz.f91, Tryz.func91, by kernel_rfl, by kernel_rfl⟩
theorem g92 : IsGo Tryz.prog 92 := ⟨Tryz.f92, Tryz.func92, by kernel_rfl, by kernel_rfl⟩
theorem g93 : IsGo Tryz.prog 93 := ⟨Tryz.f93, Tryz.func93, by kernel_rfl, by kernel_rfl⟩
theorem g94 : IsGo Tryz.prog 94 := ⟨Tryz.f94, Tryz.func94, by kernel_rfl, by kernel_rfl⟩
theorem g95 : IsGo Tryz.prog 95 := ⟨Tryz.f95, Tryz.func95, by kernel_rfl, by kernel_rfl⟩
theorem g96 : IsGo Tryz.prog 96 := ⟨Tryz.f96, Tryz.func96, by kernel_rfl, by kernel_rfl⟩
theorem g97 : IsGo Tryz.prog 97 := ⟨Tryz.f97, Tryz.func97, by kernel_rfl, by kernel_rfl⟩
theorem g99 : IsGo Tryz.prog 99 := ⟨Tryz.f99, Tryz.func99, by kernel_rfl, by kernel_rfl⟩
theorem g100 : IsGo Tryz.prog 100 := ⟨Tryz.f100, Tryz.func100, by kernel_rfl, by kernel_rfl⟩
theorem g101 : IsGo Tryz.prog 101 := ⟨Tryz.f101, Tryz.func101, by kernel_rfl, by kernel_rfl⟩
theorem g102 : IsGo Tryz.prog 102 := ⟨Tryz.f102, Tryz.func102, by kernel_rfl, by kernel_rfl⟩
theorem g103 : IsGo Tryz.prog 103 := ⟨Tryz.f103, Tryz.func103, by kernel_rfl, by kernel_rfl⟩
theorem g104 : IsGo Tryz.prog 104 := ⟨Tryz.f104, Tryz.func104, by kernel_rfl, by kernel_rfl⟩
theorem g105 : IsGo Tryz.prog 105 := ⟨Tryz.f105, Tryz.func105, by kernel_rfl, by kernel_rfl⟩
theorem g106 : IsGo Tryz.prog 106 := ⟨Tryz.f106, Tryz.func106, by kernel_rfl, by kernel_rfl⟩
theorem g107 : IsGo Tryz.prog 107 := ⟨Tryz.f107, Tryz.func107, by kernel_rfl, by kernel_rfl⟩
theorem g108 : IsGo Tryz.prog 108 := ⟨Tryz.f108, Tryz.func108, by kernel_rfl, by kernel_rfl⟩
theorem g109 : IsGo Tryz.prog 109 := ⟨Tryz.f109, Tryz.func109, by kernel_rfl, by kernel_rfl⟩
theorem g110 : IsGo Tryz.prog 110 := ⟨Tryz.f110, Tryz.func110, by kernel_rfl, by kernel_rfl⟩
theorem g111 : IsGo Tryz.prog 111 := ⟨Tryz.f111, Tryz.func111, by kernel_rfl, by kernel_rfl⟩
theorem g112 : IsGo Tryz.prog 112 := ⟨Tryz.f112, Tryz.func112, by kernel_rfl, by kernel_rfl⟩
theorem g113 : IsGo Tryz.prog 113 := ⟨Tryz.f113, Tryz.func113, by kernel_rfl, by kernel_rfl⟩
theorem g114 : IsGo Tryz.prog 114 := ⟨Tryz.f114, Tryz.func114, by kernel_rfl, by kernel_rfl⟩
theorem g115 : IsGo Tryz.prog 115 := ⟨Tryz.f115, Tryz.func115, by kernel_rfl, by kernel_rfl⟩
theorem g116 : IsGo Tryz.prog 116 := ⟨Tryz.f116, Tryz.func116, by kernel_rfl, by kernel_rfl⟩
theorem g122 : IsGo Tryz.prog 122 := ⟨Tryz.f122, Tryz.func122, by kernel_rfl, by kernel_rfl⟩
theorem g123 : IsGo Tryz.prog 123 := ⟨Tryz.f123, Tryz.func123, by kernel_rfl, by kernel_rfl⟩
theorem g124 : IsGo Tryz.prog 124 := ⟨Tryz.f124, Tryz.func124, by kernel_rfl, by kernel_rfl⟩
theorem g125 : IsGo Tryz.prog 125 := ⟨Tryz.f125, Tryz.func125, by kernel_rfl, by kernel_rfl⟩
theorem g126 : IsGo Tryz.prog 126 := ⟨Tryz.f126, Tryz.func126, by kernel_rfl, by kernel_rfl⟩
theorem g127 : IsGo Tryz.prog 127 := ⟨Tryz.f127, Tryz.func127, by kernel_rfl, by kernel_rfl⟩
theorem g128 : IsGo Tryz.prog 128 := ⟨Tryz.f128, Tryz.func128, by kernel_rfl, by kernel_rfl⟩
theorem g129 : IsGo Tryz.prog 129 := ⟨Tryz.f129, Tryz.func129, by kernel_rfl, by kernel_rfl⟩
theorem g130 : IsGo Tryz.prog 130 := ⟨Tryz.f130, Tryz.func130, by kernel_rfl, by kernel_rfl⟩
theorem g131 : IsGo Tryz.prog 131 := ⟨Tryz.f131, Tryz.func131, by kernel_rfl, by kernel_rfl⟩
theorem g132 : IsGo Tryz.prog 132 := ⟨Tryz.f132, Tryz.func132, by kernel_rfl, by kernel_rfl⟩
theorem g133 : IsGo Tryz.prog 133 := ⟨Tryz.f133, Tryz.func133, by kernel_rfl, by kernel_rfl⟩
theorem g134 : IsGo Tryz.prog 134 := ⟨Tryz.f134, Tryz.func134, by kernel_rfl, by kernel_rfl⟩
theorem g135 : IsGo Tryz.prog 135 := ⟨Tryz.f135, Tryz.func135, by kernel_rfl, by kernel_rfl⟩
theorem g136 : IsGo Tryz.prog 136 := ⟨Tryz.f136, Tryz.func136, by kernel_rfl, by kernel_rfl⟩
theorem g137 : IsGo Tryz.prog 137 := ⟨Tryz.f137, Tryz.func137, by kernel_rfl, by kernel_rfl⟩
theorem g138 : IsGo Tryz.prog 138 := ⟨Tryz.f138, Tryz.func138, by kernel_rfl, by kernel_rfl⟩
theorem g139 : IsGo Tryz.prog 139 := ⟨Tryz.f139, Tryz.func139, by kernel_rfl, by kernel_rfl⟩
theorem g140 : IsGo Tryz.prog 140 := ⟨Tryz.f140, Tryz.func140, by kernel_rfl, by kernel_rfl⟩
theorem g141 : IsGo Tryz.prog 141 := ⟨Tryz.f141, Tryz.func141, by kernel_rfl, by kernel_rfl⟩
theorem g142 : IsGo Tryz.prog 142 := ⟨Tryz.f142, Tryz.func142, by kernel_rfl, by kernel_rfl⟩
theorem g143 : IsGo Tryz.prog 143 := ⟨Tryz.f143, Tryz.func143, by kernel_rfl, by kernel_rfl⟩
theorem g144 : IsGo Tryz.prog 144 := ⟨Tryz.f144, Tryz.func144, by kernel_rfl, by kernel_rfl⟩
theorem g145 : IsGo Tryz.prog 145 := ⟨Tryz.f145, Tryz.func145, by kernel_rfl, by kernel_rfl⟩
theorem g146 : IsGo Tryz.prog 146 := ⟨Tryz.f146, Tryz.func146, by kernel_rfl, by kernel_rfl⟩
theorem g147 : IsGo Tryz.prog 147 := ⟨Tryz.f147, Tryz.func147, by kernel_rfl, by kernel_rfl⟩
theorem g149 : IsGo Tryz.prog 149 := ⟨Tryz.f149, Tryz.func149, by kernel_rfl, by kernel_rfl⟩
theorem g150 : IsGo Tryz.prog 150 := ⟨Tryz.f150, Tryz.func150, by kernel_rfl, by kernel_rfl⟩
theorem g155 : IsGo Tryz.prog 155 := ⟨Tryz.f155, Tryz.func155, by kernel_rfl, by kernel_rfl⟩
def fs : List Nat := [3, 4, 5, 6, 7, 8, 9, 10, 11, 12, 13, 14, 15, 16, 17, 18, 19, 20, 21, 22, 23, 24, 25, 26, 27, 28, 29, 30, 31, 32, 33, 34, 35, 36, 37, 38, 39, 40, 41, 42, 43, 44, 45, 46, 47, 48, 49, 50, 51, 52, 53, 54, 58, 59, 60, 61, 62, 63, 64, 65, 66, 67, 68, 69, 70, 71, 72, 73, 74, 75, 76, 77, 78, 79, 80, 81, 82, 83, 87, 88, 89, 90, 91, 92, 93, 94, 95, 96, 97, 99, 100, 101, 102, 103, 104, 105, 106, 107, 108, 109, 110, 111, 112, 113, 114, 115, 116, 122, 123, 124, 125, 126, 127, 128, 129, 130, 131, 132, 133, 134, 135, 136, 137, 138, 139, 140, 141, 142, 143, 144, 145, 146, 147, 149, 150, 155]
theorem fs_ok : TabOkF Tryz.prog fs := ⟨g3, g4, g5, g6, g7, g8, g9, g10, g11, g12, g13, g14, g15, g16, g17, g18, g19, g20, g21, g22, g23, g24, g25, g26, g27, g28, g29, g30, g31, g32, g33, g34, g35, g36, g37, g38, g39, g40, g41, g42, g43, g44, g45, g46, g47, g48, g49, g50, g51, g52, g53, g54, g58, g59, g60, g61, g62, g63, g64, g65, g66, g67, g68, g69, g70, g71, g72, g73, g74, g75, g76, g77, g78, g79, g80, g81, g82, g83, g87, g88, g89, g90, g91, g92, g93, g94, g95, g96, g97, g99, g100, g101, g102, g103, g104, g105, g106, g107, g108, g109, g110, g111, g112, g113, g114, g115, g116, g122, g123, g124, g125, g126, g127, g128, g129, g130, g131, g132, g133, g134, g135, g136, g137, g138, g139, g140, g141, g142, g143, g144, g145, g146, g147, g149, g150, g155, trivial⟩
def tb : Tab := ⟨ts, fs⟩
theorem ok : TabOk Tryz.prog tb := ⟨ts_ok, fs_ok⟩
end T
end Go.Proofs.YtfnjodpehomgfaaGreatDoor
namespace Go.Tx
abbrev Bs := List UInt8
def k_fn : Bs := [102, 110]
def k_let : Bs := [108, 101, 116]
def k_spawn : Bs := [115, 112, 97, 119, 110]
def k_sync : Bs := [115, 121, 110, 99]
def k_if : Bs := [105, 102]
def k_else : Bs := [101, 108, 115, 101]
def k_while : Bs := [119, 104, 105, 108, 101]
def k_do : Bs := [100, 111]
def k_return : Bs := [114, 101, 116, 117, 114, 110]
def k_break : Bs := [98, 114, 101, 97, 107]
def k_continue : Bs := [99, 111, 110, 116, 105, 110, 117, 101]
def k_min : Bs := [109, 105, 110]
def k_max : Bs := [109, 97, 120]
def k_reduce : Bs := [114, 101, 100, 117, 99, 101]
def k_each : Bs := [101, 97, 99, 104]
def k_name : Bs := [110, 97, 109, 101]
def k_number : Bs := [110, 117, 109, 98, 101, 114]
def k_end : Bs := [101, 110, 100]
def s_shl : Bs := [60, 60]
def s_shr : Bs := [62, 62]
def s_le : Bs := [60, 61]
def s_eqq : Bs := [61, 61]
def s_neq : Bs := [33, 61]
def s_andd : Bs := [38, 38]
def s_orr : Bs := [124, 124]
def s_lp : Bs := [40]
def s_rp : Bs := [41]
def s_lb : Bs := [123]
def s_rb : Bs := [125]
def s_comma : Bs := [44]
def s_semi : Bs := [59]
def s_asg : Bs := [61]
def s_plus : Bs := [43]
def s_minus : Bs := [45]
def s_star : Bs := [42]
def s_slash : Bs := [47]
def s_pct : Bs := [37]
def s_amp : Bs := [38]
def s_bar : Bs := [124]
def s_xor : Bs := [94]
def s_lt : Bs := [60]
def s_bang : Bs := [33]
def keywords : List Bs := [k_fn, k_let, k_spawn, k_sync, k_if, k_else, k_while, k_do, k_return, k_break, k_continue, k_min, k_max, k_reduce, k_each]
def signs : List Bs := [s_shl, s_shr, s_le, s_eqq, s_neq, s_andd, s_orr, s_lp, s_rp, s_lb, s_rb, s_comma, s_semi, s_asg, s_plus, s_minus, s_star, s_slash, s_pct, s_amp, s_bar, s_xor, s_lt, s_bang]
def opNames : List Bs := [s_plus, s_minus, s_star, s_slash, s_pct, s_amp, s_bar, s_xor, s_shl, s_shr, k_min, k_max, s_lt, s_le, s_eqq, s_neq]
def levels : List (List Bs) := [[s_orr], [s_andd], [s_eqq, s_neq, s_lt, s_le], [s_bar, s_xor], [s_amp], [s_shl, s_shr], [s_plus, s_minus], [s_star, s_slash, s_pct]]
def blank (c : UInt8) : Bool := decide (c.toNat = 32 ∨ c.toNat = 9 ∨ c.toNat = 10 ∨ c.toNat = 13)
def letter (c : UInt8) : Bool := decide (c.toNat = 95 ∨ (97 ≤ c.toNat ∧ c.toNat ≤ 122) ∨ (65 ≤ c.toNat ∧ c.toNat ≤ 90))
def digit (c : UInt8) : Bool := decide (48 ≤ c.toNat ∧ c.toNat ≤ 57)
def alnum (c : UInt8) : Bool := letter c || digit c
def skp : Bool → Bs → Nat → Nat
  | _, [], p => p
  | false, c :: r, p => if blank c = true then skp false r (p + 1) else if c.toNat = 47 ∧ r.head?.map UInt8.toNat = some 47 then skp true r (p + 1) else p
  | true, c :: r, p => if c.toNat = 10 then skp false r (p + 1) else skp true r (p + 1)
def spanN (f : UInt8 → Bool) : Bs → Nat
  | [] => 0
  | c :: r => if f c = true then spanN f r + 1 else 0
structure Tk where
  kind : Bs
  text : Bs
  at_ : Nat
  n : Int
  err : Int
def isKw (s : Bs) : Bool := keywords.contains s
def named (s : Bs) (p : Nat) : Tk := if isKw s = true then ⟨s, s, p, 0, 0⟩ else ⟨k_name, s, p, 0, if 24 < s.length then 142 else 0⟩
def val (s : Bs) : Nat := s.foldl (fun v c => v * 10 + (c.toNat - 48)) 0
def negOf (s : Bs) : Option Int := if s = [48] then some 0 else if 19 < s.length ∨ 9223372036854775808 < val s ∨ s.head?.map UInt8.toNat = some 48 then none else some (-(val s : Int))
def number (s : Bs) (p : Nat) : Tk := match negOf s with
  | some v => ⟨k_number, s, p, v, 0⟩
  | none => ⟨k_number, s, p, 0, 143⟩
def signAt (l : Bs) : Option Bs := signs.find? fun t => l.take t.length == t
def readT (l : Bs) (p : Nat) : Tk × Nat := match l.drop (skp false (l.drop p) p) with
  | [] => (⟨k_end, [], l.length, 0, 0⟩, l.length)
  | c :: r =>
    if letter c = true then (named ((c :: r).take (spanN alnum (c :: r))) (skp false (l.drop p) p), skp false (l.drop p) p + spanN alnum (c :: r))
    else if digit c = true then (number ((c :: r).take (spanN digit (c :: r))) (skp false (l.drop p) p), skp false (l.drop p) p + spanN digit (c :: r))
    else match signAt (c :: r) with
      | some t => (⟨t, t, skp false (l.drop p) p, 0, 0⟩, skp false (l.drop p) p + t.length)
      | none => (⟨[], [], skp false (l.drop p) p, 0, 140⟩, skp false (l.drop p) p + 1)
def words (l : Bs) : Nat → Nat → List Tk
  | 0, _ => []
  | n + 1, p => if (readT l p).1.err ≠ 0 ∨ (readT l p).1.kind = k_end then [(readT l p).1] else (readT l p).1 :: words l n (readT l p).2
inductive Ex where
  | mk (kind op k : Int) (name comb : Bs) (kids : List Ex)
inductive St where
  | mk (kind : Int) (name : Bs) (e : Ex) (body els : List St)
structure Fnc where
  name : Bs
  params : List Bs
  body : List St
def Ex.zero : Ex := .mk 0 0 0 [] [] []
inductive Res (α : Type) where
  | out
  | err (e : Int) (p : Nat)
  | ok (a : α) (ts : List Tk)
def Res.bind {α β : Type} (r : Res α) (k : α → List Tk → Res β) : Res β := match r with
  | .out => .out
  | .err e p => .err e p
  | .ok a ts => k a ts
def curK (ts : List Tk) : Bs := match ts with | t :: _ => t.kind | [] => []
def curT (ts : List Tk) : Tk := match ts with | t :: _ => t | [] => ⟨[], [], 0, 0, 0⟩
def stepP (minus : Bool) (ts : List Tk) : Res Unit := match ts with
  | _ :: t :: r => if t.err ≠ 0 then .err t.err t.at_ else if t.kind = k_number ∧ t.n = -9223372036854775808 ∧ minus = false then .err 143 t.at_ else .ok () (t :: r)
  | _ => .out
def takeP (k : Bs) (ts : List Tk) : Res Tk := if curK ts ≠ k then .err 141 (curT ts).at_ else (stepP false ts).bind fun _ ts' => .ok (curT ts) ts'
def deepP (d : Nat) (ts : List Tk) : Res Unit := if 40 < d then .err 144 (curT ts).at_ else .ok () ts
def findAux (s : Bs) : List Bs → Nat → Int
  | [], _ => -1
  | x :: r, i => if x = s then (i : Int) else findAux s r (i + 1)
def findOp (s : Bs) : Int := findAux s opNames 0
def joinP (sign : Bs) (x y : Ex) : Ex := if sign = s_andd then .mk 8 0 0 [] [] [x, y] else if sign = s_orr then .mk 9 0 0 [] [] [x, y] else .mk 4 (findOp sign) 0 [] [] [x, y]
def standsB (level : Nat) (k : Bs) : Bool := (levels[level]?.getD []).contains k
structure PF where
  expr : Nat → Nat → List Tk → Res Ex
  unary : Nat → List Tk → Res Ex
  primary : Nat → List Tk → Res Ex
  block : Nat → List Tk → Res (List St)
  choice : Nat → List Tk → Res St
def negW (n : Int) : Int := if n = -9223372036854775808 then n else -n
def PF.none : PF := ⟨fun _ _ _ => .out, fun _ _ => .out, fun _ _ => .out, fun _ _ => .out, fun _ _ => .out⟩
def loopE (F : PF) (level d : Nat) : Nat → Ex → List Tk → Res Ex
  | 0, _, _ => .out
  | n + 1, e, ts => if standsB level (curK ts) = true then (stepP false ts).bind fun _ ts1 => (F.expr (level + 1) d ts1).bind fun r ts2 => loopE F level d n (joinP (curK ts) e r) ts2 else .ok e ts
def argsP (F : PF) (d : Nat) : Nat → List Ex → List Tk → Res (List Ex)
  | 0, _, _ => .out
  | n + 1, l, ts => if curK ts = s_rp then (takeP s_rp ts).bind fun _ ts1 => .ok l ts1
    else (if l.length ≠ 0 then (takeP s_comma ts).bind fun _ ts1 => .ok () ts1 else .ok () ts).bind fun _ ts1 => (F.expr 0 d ts1).bind fun e ts2 => argsP F d n (l ++ [e]) ts2
def kidsP (F : PF) (d n : Nat) : Nat → List Ex → List Tk → Res (List Ex)
  | 0, l, ts => (takeP s_rp ts).bind fun _ ts1 => .ok l ts1
  | m + 1, l, ts => (if m + 1 < n then (takeP s_comma ts).bind fun _ ts1 => .ok () ts1 else .ok () ts).bind fun _ ts1 => (F.expr 0 d ts1).bind fun e ts2 => kidsP F d n m (l ++ [e]) ts2
def formP (F : PF) (kind : Bs) (d : Nat) (ts : List Tk) : Res Ex :=
  if kind = k_reduce then (takeP k_name ts).bind fun f ts1 => (takeP s_comma ts1).bind fun _ ts2 => (takeP k_name ts2).bind fun c ts3 => (takeP s_comma ts3).bind fun _ ts4 => (kidsP F d 3 3 [] ts4).bind fun l ts5 => .ok (.mk 6 0 0 f.text c.text l) ts5
  else if kind = k_each then (takeP k_name ts).bind fun f ts1 => (takeP s_comma ts1).bind fun _ ts2 => (kidsP F d 2 2 [] ts2).bind fun l ts3 => .ok (.mk 7 0 0 f.text [] l) ts3
  else (kidsP F d 2 2 [] ts).bind fun l ts1 => .ok (.mk 4 (findOp kind) 0 [] [] l) ts1
def plainP (F : PF) (d : Nat) (ts0 : List Tk) : Res St :=
  (stepP false ts0).bind fun _ ts =>
  if curK ts0 = k_sync then .ok (.mk 3 [] .zero [] []) ts
  else if curK ts0 = k_break then .ok (.mk 8 [] .zero [] []) ts
  else if curK ts0 = k_continue then .ok (.mk 9 [] .zero [] []) ts
  else if curK ts0 = k_do then (F.expr 0 d ts).bind fun e ts1 => .ok (.mk 6 [] e [] []) ts1
  else if curK ts0 = k_return then (F.expr 0 d ts).bind fun e ts1 => .ok (.mk 7 [] e [] []) ts1
  else if curK ts0 = k_spawn then (takeP k_name ts).bind fun n ts1 => (takeP s_asg ts1).bind fun _ ts2 => (takeP k_name ts2).bind fun f ts3 => (takeP s_lp ts3).bind fun _ ts4 => (argsP F d (ts4.length + 1) [] ts4).bind fun l ts5 => .ok (.mk 2 n.text (.mk 5 0 0 f.text [] l) [] []) ts5
  else if curK ts0 = k_let then (takeP k_name ts).bind fun n ts1 => (takeP s_asg ts1).bind fun _ ts2 => (F.expr 0 d ts2).bind fun e ts3 => .ok (.mk 0 n.text e [] []) ts3
  else (takeP s_asg ts).bind fun _ ts1 => (F.expr 0 d ts1).bind fun e ts2 => .ok (.mk 1 (curT ts0).text e [] []) ts2
def beginsB (k : Bs) : Bool := k == k_let || k == k_spawn || k == k_sync || k == k_if || k == k_while || k == k_do || k == k_return || k == k_break || k == k_continue || k == k_name
def stmtP (F : PF) (d : Nat) (ts : List Tk) : Res St :=
  if beginsB (curK ts) = true then (deepP d ts).bind fun _ ts =>
    if curK ts = k_if then F.choice d ts
    else if curK ts = k_while then (stepP false ts).bind fun _ ts1 => (F.expr 0 d ts1).bind fun e ts2 => (F.block (d + 1) ts2).bind fun b ts3 => .ok (.mk 5 [] e b []) ts3
    else (plainP F d ts).bind fun s ts1 => (takeP s_semi ts1).bind fun _ ts2 => .ok s ts2
  else .err 141 (curT ts).at_
def loopB (F : PF) (d : Nat) : Nat → List St → List Tk → Res (List St)
  | 0, _, _ => .out
  | n + 1, l, ts => if curK ts = s_rb then .ok l ts else (stmtP F d ts).bind fun s ts1 => loopB F d n (l ++ [s]) ts1
def exprP (F : PF) (level d : Nat) (ts : List Tk) : Res Ex := if level = 8 then F.unary d ts else (F.expr (level + 1) d ts).bind fun e ts1 => loopE F level d (ts1.length + 1) e ts1
def unaryP (F : PF) (d : Nat) (ts : List Tk) : Res Ex :=
  if curK ts ≠ s_minus ∧ curK ts ≠ s_bang then F.primary d ts
  else (deepP (d + 1) ts).bind fun _ ts => (stepP (curK ts == s_minus) ts).bind fun _ ts1 =>
    if curK ts = s_minus ∧ curK ts1 = k_number then (stepP false ts1).bind fun _ ts2 => .ok (.mk 0 0 (curT ts1).n [] [] []) ts2
    else (F.unary (d + 1) ts1).bind fun e ts2 => .ok (.mk (if curK ts = s_bang then 3 else 2) 0 0 [] [] [e]) ts2
def primaryP (F : PF) (d : Nat) (ts : List Tk) : Res Ex :=
  if curK ts = k_number then (stepP false ts).bind fun _ ts1 => .ok (.mk 0 0 (negW (curT ts).n) [] [] []) ts1
  else if curK ts = k_name then (stepP false ts).bind fun _ ts1 =>
    if curK ts1 ≠ s_lp then .ok (.mk 1 0 0 (curT ts).text [] []) ts1
    else (deepP (d + 1) ts1).bind fun _ ts1 => (stepP false ts1).bind fun _ ts2 => (argsP F (d + 1) (ts2.length + 1) [] ts2).bind fun l ts3 => .ok (.mk 5 0 0 (curT ts).text [] l) ts3
  else if curK ts = s_lp then (deepP (d + 1) ts).bind fun _ ts => (stepP false ts).bind fun _ ts1 => (F.expr 0 (d + 1) ts1).bind fun e ts2 => (takeP s_rp ts2).bind fun _ ts3 => .ok e ts3
  else if curK ts = k_min ∨ curK ts = k_max ∨ curK ts = k_reduce ∨ curK ts = k_each then (deepP (d + 1) ts).bind fun _ ts => (stepP false ts).bind fun _ ts1 => (takeP s_lp ts1).bind fun _ ts2 => formP F (curK ts) (d + 1) ts2
  else .err 141 (curT ts).at_
def blockP (F : PF) (d : Nat) (ts : List Tk) : Res (List St) := (takeP s_lb ts).bind fun _ ts1 => (loopB F d (ts1.length + 1) [] ts1).bind fun l ts2 => (takeP s_rb ts2).bind fun _ ts3 => .ok l ts3
def choiceP (F : PF) (d : Nat) (ts : List Tk) : Res St := (takeP k_if ts).bind fun _ ts1 => (F.expr 0 d ts1).bind fun e ts2 => (F.block (d + 1) ts2).bind fun b ts3 =>
  if curK ts3 ≠ k_else then .ok (.mk 4 [] e b []) ts3
  else (stepP false ts3).bind fun _ ts4 =>
    if curK ts4 = k_if then (deepP (d + 1) ts4).bind fun _ ts4 => (F.choice (d + 1) ts4).bind fun x ts5 => .ok (.mk 4 [] e b [x]) ts5
    else (F.block (d + 1) ts4).bind fun c ts5 => .ok (.mk 4 [] e b c) ts5
def PF.next (F : PF) : PF := ⟨exprP F, unaryP F, primaryP F, blockP F, choiceP F⟩
def pf : Nat → PF
  | 0 => PF.none
  | n + 1 => PF.next (pf n)
def loopN : Nat → List Bs → List Tk → Res (List Bs)
  | 0, _, _ => .out
  | n + 1, l, ts => if curK ts = s_rp then .ok l ts else (if l.length ≠ 0 then (takeP s_comma ts).bind fun _ ts1 => .ok () ts1 else .ok () ts).bind fun _ ts1 => (takeP k_name ts1).bind fun t ts2 => loopN n (l ++ [t.text]) ts2
def functionP (F : PF) (ts : List Tk) : Res Fnc := (takeP k_fn ts).bind fun _ ts1 => (takeP k_name ts1).bind fun nm ts2 => (takeP s_lp ts2).bind fun _ ts3 => (loopN (ts3.length + 1) [] ts3).bind fun ps ts4 => (takeP s_rp ts4).bind fun _ ts5 => (F.block 1 ts5).bind fun b ts6 => .ok ⟨nm.text, ps, b⟩ ts6
def loopF (F : PF) : Nat → List Fnc → List Tk → Res (List Fnc)
  | 0, _, _ => .out
  | n + 1, l, ts => if curK ts = k_end then .ok l ts else (functionP F ts).bind fun f ts1 => loopF F n (l ++ [f]) ts1
def parseP (l : Bs) (fuel : Nat) : Res (List Fnc) := (stepP false (⟨[], [], 0, 0, 0⟩ :: words l (l.length + 1) 0)).bind fun _ ts => (functionP (pf fuel) ts).bind fun f ts1 => loopF (pf fuel) (ts1.length + 1) [f] ts1
end Go.Tx
namespace Go.Tx
def Ends : List Tk → Prop
  | [] => False
  | [t] => t.kind = k_end ∨ t.err ≠ 0
  | _ :: r => Ends r
structure Way (ts : List Tk) : Prop where
  ends : Ends ts
  fine : (curT ts).err = 0
def Fin {α : Type} (r : Res α) (Q : List Tk → Prop) : Prop := match r with
  | .out => False
  | .err _ _ => True
  | .ok _ ts => Q ts
theorem Fin.bind {α β : Type} {r : Res α} {k : α → List Tk → Res β} {Q' Q : List Tk → Prop} (h : Fin r Q') (hk : ∀ a ts, Q' ts → Fin (k a ts) Q) : Fin (r.bind k) Q := by
  cases r with
  | out => exact h
  | err e p => exact trivial
  | ok a ts => exact hk a ts h
theorem Fin.mono {α : Type} {r : Res α} {Q' Q : List Tk → Prop} (h : Fin r Q') (hk : ∀ ts, Q' ts → Q ts) : Fin r Q := by
  cases r with
  | out => exact h
  | err e p => exact trivial
  | ok a ts => exact hk ts h
theorem Way.ne {ts : List Tk} (h : Way ts) (hk : curK ts ≠ k_end) : ∃ t u r, ts = t :: u :: r := by
  match ts, h with
  | [], h => exact h.ends.elim
  | [t], h =>
    have hf : t.err = 0 := h.fine
    rcases h.ends with h1 | h1
    · exact absurd h1 hk
    · exact absurd hf h1
  | t :: u :: r, _ => exact ⟨t, u, r, rfl⟩
def Less (n : Nat) (ts : List Tk) : Prop := Way ts ∧ ts.length < n
theorem step_fin {ts : List Tk} (m : Bool) (h : Way ts) (hk : curK ts ≠ k_end) : Fin (stepP m ts) (Less ts.length) := by
  obtain ⟨t, u, r, rfl⟩ := h.ne hk
  have he : Ends (u :: r) := h.ends
  simp only [stepP]
  split
  · exact trivial
  · rename_i h0
    split
    · exact trivial
    · exact ⟨⟨he, Classical.not_not.1 h0⟩, by simp⟩
theorem take_fin {ts : List Tk} {k : Bs} (h : Way ts) (hk : k ≠ k_end) : Fin (takeP k ts) (Less ts.length) := by
  unfold takeP
  split
  · exact trivial
  · rename_i h0
    have h0 := Classical.not_not.1 h0
    exact Fin.bind (step_fin false h (by rw [h0]; exact hk)) fun _ _ h1 => h1
theorem deep_fin {ts : List Tk} {d : Nat} (h : Way ts) : Fin (deepP d ts) (· = ts) := by
  unfold deepP
  split
  · exact trivial
  · exact rfl
structure Tot (f : Nat) (F : PF) : Prop where
  expr : ∀ level d ts, level ≤ 8 → Way ts → 12 * ts.length + (10 - level) ≤ f → Fin (F.expr level d ts) (Less ts.length)
  unary : ∀ d ts, Way ts → 12 * ts.length + 1 ≤ f → Fin (F.unary d ts) (Less ts.length)
  primary : ∀ d ts, Way ts → 12 * ts.length ≤ f → Fin (F.primary d ts) (Less ts.length)
  block : ∀ d ts, Way ts → 12 * ts.length ≤ f → Fin (F.block d ts) (Less ts.length)
  choice : ∀ d ts, Way ts → 12 * ts.length ≤ f → Fin (F.choice d ts) (Less ts.length)
theorem stands_ne {level : Nat} {k : Bs} (h : standsB level k = true) : k ≠ k_end := by
  rintro rfl
  unfold standsB at h
  have : ∀ l ∈ levels, l.contains k_end = false := by decide
  cases hl : levels[level]? with
  | none => rw [hl] at h; simp at h
  | some l =>
    rw [hl] at h
    have := this l (List.mem_of_getElem? hl)
    simp only [Option.getD_some] at h
    rw [this] at h; simp at h
section
variable {f : Nat} {F : PF} (T : Tot f F)
include T
theorem loopE_fin {level d n0 : Nat} (hl : level < 8) : ∀ (n : Nat) (e : Ex) (ts : List Tk), Way ts → ts.length < n → ts.length < n0 → 12 * ts.length ≤ f → Fin (loopE F level d n e ts) (Less n0)
  | 0, _, _, _, h, _, _ => absurd h (Nat.not_lt_zero _)
  | n + 1, e, ts, hw, hn, h0, hf => by
    unfold loopE
    split
    · rename_i hs
      refine Fin.bind (step_fin false hw (stands_ne hs)) fun _ ts1 h1 => ?_
      refine Fin.bind (T.expr (level + 1) d ts1 (by omega) h1.1 (by have := h1.2; omega)) fun r ts2 h2 => ?_
      exact loopE_fin hl n _ ts2 h2.1 (by have := h1.2; have := h2.2; omega) (by have := h1.2; have := h2.2; omega) (by have := h1.2; have := h2.2; omega)
    · exact ⟨hw, h0⟩
theorem comma_fin {ts : List Tk} {c : Prop} [Decidable c] (hw : Way ts) : Fin (if c then (takeP s_comma ts).bind fun _ ts1 => .ok () ts1 else .ok () ts : Res Unit) (fun ts' => Way ts' ∧ ts'.length ≤ ts.length) := by
  split
  · exact Fin.bind (take_fin hw (by decide)) fun _ _ h => ⟨h.1, by have := h.2; omega⟩
  · exact ⟨hw, Nat.le_refl _⟩
theorem args_fin {d n0 : Nat} : ∀ (n : Nat) (l : List Ex) (ts : List Tk), Way ts → ts.length < n → ts.length ≤ n0 → 12 * ts.length + 10 ≤ f → Fin (argsP F d n l ts) (Less n0)
  | 0, _, _, _, h, _, _ => absurd h (Nat.not_lt_zero _)
  | n + 1, l, ts, hw, hn, h0, hf => by
    unfold argsP
    split
    · exact Fin.bind (take_fin hw (by decide)) fun _ _ h => ⟨h.1, by have := h.2; omega⟩
    · refine Fin.bind (comma_fin T hw) fun _ ts1 h1 => ?_
      refine Fin.bind (T.expr 0 d ts1 (by omega) h1.1 (by have := h1.2; omega)) fun e ts2 h2 => ?_
      exact args_fin n _ ts2 h2.1 (by have := h1.2; have := h2.2; omega) (by have := h1.2; have := h2.2; omega) (by have := h1.2; have := h2.2; omega)
theorem kids_fin {d n n0 : Nat} : ∀ (m : Nat) (l : List Ex) (ts : List Tk), Way ts → ts.length ≤ n0 → 12 * ts.length + 10 ≤ f → Fin (kidsP F d n m l ts) (Less n0)
  | 0, l, ts, hw, h0, hf => by
    unfold kidsP
    exact Fin.bind (take_fin hw (by decide)) fun _ _ h => ⟨h.1, by have := h.2; omega⟩
  | m + 1, l, ts, hw, h0, hf => by
    unfold kidsP
    refine Fin.bind (comma_fin T hw) fun _ ts1 h1 => ?_
    refine Fin.bind (T.expr 0 d ts1 (by omega) h1.1 (by have := h1.2; omega)) fun e ts2 h2 => ?_
    exact kids_fin m _ ts2 h2.1 (by have := h1.2; have := h2.2; omega) (by have := h1.2; have := h2.2; omega)
theorem form_fin {k : Bs} {d : Nat} {ts : List Tk} (hw : Way ts) (hf : 12 * ts.length + 10 ≤ f) : Fin (formP F k d ts) (Less ts.length) := by
  unfold formP
  split
  · refine Fin.bind (take_fin hw (by decide)) fun _ ts1 h1 => ?_
    refine Fin.bind (take_fin h1.1 (by decide)) fun _ ts2 h2 => ?_
    refine Fin.bind (take_fin h2.1 (by decide)) fun _ ts3 h3 => ?_
    refine Fin.bind (take_fin h3.1 (by decide)) fun _ ts4 h4 => ?_
    refine Fin.bind (kids_fin T (n0 := ts.length) 3 [] ts4 h4.1 (by have := h1.2; have := h2.2; have := h3.2; have := h4.2; omega) (by have := h1.2; have := h2.2; have := h3.2; have := h4.2; omega)) fun _ _ h => h
  · split
    · refine Fin.bind (take_fin hw (by decide)) fun _ ts1 h1 => ?_
      refine Fin.bind (take_fin h1.1 (by decide)) fun _ ts2 h2 => ?_
      refine Fin.bind (kids_fin T (n0 := ts.length) 2 [] ts2 h2.1 (by have := h1.2; have := h2.2; omega) (by have := h1.2; have := h2.2; omega)) fun _ _ h => h
    · exact Fin.bind (kids_fin T (n0 := ts.length) 2 [] ts hw (Nat.le_refl _) hf) fun _ _ h => h
theorem ex_fin {d n0 : Nat} {ts : List Tk} (hw : Way ts) (h0 : ts.length ≤ n0) (hf : 12 * ts.length + 10 ≤ f) {α : Type} {g : Ex → α} : Fin ((F.expr 0 d ts).bind fun e ts1 => .ok (g e) ts1) (Less n0) :=
  Fin.bind (T.expr 0 d ts (by omega) hw (by omega)) fun _ _ h => ⟨h.1, by have := h.2; omega⟩
theorem plain_fin {d : Nat} {ts : List Tk} (hw : Way ts) (hk : curK ts ≠ k_end) (hf : 12 * ts.length ≤ f + 1) : Fin (plainP F d ts) (Less ts.length) := by
  unfold plainP
  refine Fin.bind (step_fin false hw hk) fun _ ts1 h1 => ?_
  have hl1 := h1.2
  split
  · exact h1
  split
  · exact h1
  split
  · exact h1
  split
  · exact ex_fin T h1.1 (by omega) (by omega)
  split
  · exact ex_fin T h1.1 (by omega) (by omega)
  split
  · refine Fin.bind (take_fin h1.1 (by decide)) fun _ ts2 h2 => ?_
    refine Fin.bind (take_fin h2.1 (by decide)) fun _ ts3 h3 => ?_
    refine Fin.bind (take_fin h3.1 (by decide)) fun _ ts4 h4 => ?_
    refine Fin.bind (take_fin h4.1 (by decide)) fun _ ts5 h5 => ?_
    have := h2.2; have := h3.2; have := h4.2; have := h5.2
    exact Fin.bind (args_fin T (n0 := ts.length) _ [] ts5 h5.1 (by omega) (by omega) (by omega)) fun _ _ h => h
  split
  · refine Fin.bind (take_fin h1.1 (by decide)) fun _ ts2 h2 => ?_
    refine Fin.bind (take_fin h2.1 (by decide)) fun _ ts3 h3 => ?_
    have := h2.2; have := h3.2
    exact ex_fin T h3.1 (by omega) (by omega)
  · refine Fin.bind (take_fin h1.1 (by decide)) fun _ ts2 h2 => ?_
    have := h2.2
    exact ex_fin T h2.1 (by omega) (by omega)
theorem begins_ne {k : Bs} (h : beginsB k = true) : k ≠ k_end := by
  rintro rfl
  revert h
  decide
theorem stmt_fin {d : Nat} {ts : List Tk} (hw : Way ts) (hf : 12 * ts.length ≤ f) : Fin (stmtP F d ts) (Less ts.length) := by
  unfold stmtP
  split
  · rename_i hb
    refine Fin.bind (deep_fin hw) fun _ ts' h => ?_
    subst h
    split
    · exact T.choice d ts' hw hf
    split
    · refine Fin.bind (step_fin false hw (begins_ne T hb)) fun _ ts1 h1 => ?_
      have := h1.2
      refine Fin.bind (T.expr 0 d ts1 (by omega) h1.1 (by omega)) fun e ts2 h2 => ?_
      have := h2.2
      refine Fin.bind (T.block (d + 1) ts2 h2.1 (by omega)) fun b ts3 h3 => ?_
      exact ⟨h3.1, by have := h3.2; omega⟩
    · refine Fin.bind (plain_fin T hw (begins_ne T hb) (by omega)) fun s ts1 h1 => ?_
      refine Fin.bind (take_fin h1.1 (by decide)) fun _ ts2 h2 => ?_
      exact ⟨h2.1, by have := h1.2; have := h2.2; omega⟩
  · exact trivial
theorem loopB_fin {d n0 : Nat} : ∀ (n : Nat) (l : List St) (ts : List Tk), Way ts → ts.length < n → ts.length ≤ n0 → 12 * ts.length ≤ f → Fin (loopB F d n l ts) (fun ts' => Way ts' ∧ ts'.length ≤ n0)
  | 0, _, _, _, h, _, _ => absurd h (Nat.not_lt_zero _)
  | n + 1, l, ts, hw, hn, h0, hf => by
    unfold loopB
    split
    · exact ⟨hw, h0⟩
    · refine Fin.bind (stmt_fin T hw hf) fun s ts1 h1 => ?_
      have := h1.2
      exact loopB_fin n _ ts1 h1.1 (by omega) (by omega) (by omega)
theorem Tot.next : Tot (f + 1) F.next where
  expr level d ts hl hw hf := by
    show Fin (exprP F level d ts) _
    unfold exprP
    split
    · exact T.unary d ts hw (by omega)
    · refine Fin.bind (T.expr (level + 1) d ts (by omega) hw (by omega)) fun e ts1 h1 => ?_
      have := h1.2
      exact loopE_fin T (by omega) _ _ ts1 h1.1 (by omega) (by omega) (by omega)
  unary d ts hw hf := by
    show Fin (unaryP F d ts) _
    unfold unaryP
    split
    · exact T.primary d ts hw (by omega)
    · rename_i hk
      have hne : curK ts ≠ k_end := by
        intro e
        apply hk
        rw [e]
        decide
      refine Fin.bind (deep_fin hw) fun _ ts' h => ?_
      subst h
      refine Fin.bind (step_fin _ hw hne) fun _ ts1 h1 => ?_
      have := h1.2
      split
      · rename_i hn
        refine Fin.bind (step_fin false h1.1 (by rw [hn.2]; decide)) fun _ ts2 h2 => ?_
        exact ⟨h2.1, by have := h2.2; omega⟩
      · refine Fin.bind (T.unary (d + 1) ts1 h1.1 (by omega)) fun e ts2 h2 => ?_
        exact ⟨h2.1, by have := h2.2; omega⟩
  primary d ts hw hf := by
    show Fin (primaryP F d ts) _
    unfold primaryP
    split
    · rename_i hk
      exact Fin.bind (step_fin false hw (by rw [hk]; decide)) fun _ _ h => h
    split
    · rename_i hk
      refine Fin.bind (step_fin false hw (by rw [hk]; decide)) fun _ ts1 h1 => ?_
      have := h1.2
      split
      · exact h1
      · rename_i hk1
        have hk1 := Classical.not_not.1 hk1
        refine Fin.bind (deep_fin h1.1) fun _ ts' h => ?_
        subst h
        refine Fin.bind (step_fin false h1.1 (by rw [hk1]; decide)) fun _ ts2 h2 => ?_
        have := h2.2
        exact Fin.bind (args_fin T (n0 := ts.length) _ [] ts2 h2.1 (by omega) (by omega) (by omega)) fun _ _ h => h
    split
    · rename_i hk
      refine Fin.bind (deep_fin hw) fun _ ts' h => ?_
      subst h
      refine Fin.bind (step_fin false hw (by rw [hk]; decide)) fun _ ts1 h1 => ?_
      have := h1.2
      refine Fin.bind (T.expr 0 (d + 1) ts1 (by omega) h1.1 (by omega)) fun e ts2 h2 => ?_
      have := h2.2
      refine Fin.bind (take_fin h2.1 (by decide)) fun _ ts3 h3 => ?_
      exact ⟨h3.1, by have := h3.2; omega⟩
    split
    · rename_i hk
      have hne : curK ts ≠ k_end := by
        intro e
        rw [e] at hk
        revert hk
        decide
      refine Fin.bind (deep_fin hw) fun _ ts' h => ?_
      subst h
      refine Fin.bind (step_fin false hw hne) fun _ ts1 h1 => ?_
      have := h1.2
      refine Fin.bind (take_fin h1.1 (by decide)) fun _ ts2 h2 => ?_
      have := h2.2
      exact Fin.mono (form_fin T h2.1 (by omega)) fun _ h => ⟨h.1, by have := h.2; omega⟩
    · exact trivial
  block d ts hw hf := by
    show Fin (blockP F d ts) _
    unfold blockP
    refine Fin.bind (take_fin hw (by decide)) fun _ ts1 h1 => ?_
    have := h1.2
    refine Fin.bind (loopB_fin T (n0 := ts1.length) _ [] ts1 h1.1 (by omega) (Nat.le_refl _) (by omega)) fun l ts2 h2 => ?_
    refine Fin.bind (take_fin h2.1 (by decide)) fun _ ts3 h3 => ?_
    exact ⟨h3.1, by have := h2.2; have := h3.2; omega⟩
  choice d ts hw hf := by
    show Fin (choiceP F d ts) _
    unfold choiceP
    refine Fin.bind (take_fin hw (by decide)) fun _ ts1 h1 => ?_
    have := h1.2
    refine Fin.bind (T.expr 0 d ts1 (by omega) h1.1 (by omega)) fun e ts2 h2 => ?_
    have := h2.2
    refine Fin.bind (T.block (d + 1) ts2 h2.1 (by omega)) fun b ts3 h3 => ?_
    have := h3.2
    split
    · exact ⟨h3.1, by omega⟩
    · rename_i hk
      have hk := Classical.not_not.1 hk
      refine Fin.bind (step_fin false h3.1 (by rw [hk]; decide)) fun _ ts4 h4 => ?_
      have := h4.2
      split
      · refine Fin.bind (deep_fin h4.1) fun _ ts' h => ?_
        subst h
        refine Fin.bind (T.choice (d + 1) ts' h4.1 (by omega)) fun x ts5 h5 => ?_
        exact ⟨h5.1, by have := h5.2; omega⟩
      · refine Fin.bind (T.block (d + 1) ts4 h4.1 (by omega)) fun c ts5 h5 => ?_
        exact ⟨h5.1, by have := h5.2; omega⟩
end
theorem way_pos {ts : List Tk} (h : Way ts) : 1 ≤ ts.length := by
  cases ts with
  | nil => exact h.ends.elim
  | cons t r => simp
theorem pf_tot : ∀ f, Tot f (pf f)
  | 0 => by
    refine ⟨fun _ _ ts _ hw h => ?_, fun _ ts hw h => ?_, fun _ ts hw h => ?_, fun _ ts hw h => ?_, fun _ ts hw h => ?_⟩
    all_goals (have := way_pos hw; omega)
  | f + 1 => (pf_tot f).next
end Go.Tx
namespace Go.Tx
theorem skp_range : ∀ (b : Bool) (l : Bs) (p : Nat), p ≤ skp b l p ∧ skp b l p ≤ p + l.length
  | false, [], p => by simp [skp]
  | true, [], p => by simp [skp]
  | false, c :: r, p => by
    have h1 := skp_range false r (p + 1)
    have h2 := skp_range true r (p + 1)
    simp only [skp, List.length_cons]
    split
    · omega
    · split <;> omega
  | true, c :: r, p => by
    have h1 := skp_range false r (p + 1)
    have h2 := skp_range true r (p + 1)
    simp only [skp, List.length_cons]
    split <;> omega
theorem span_le (f : UInt8 → Bool) : ∀ l : Bs, spanN f l ≤ l.length
  | [] => by simp [spanN]
  | c :: r => by
    have := span_le f r
    simp only [spanN, List.length_cons]
    split <;> omega
theorem span_pos {f : UInt8 → Bool} {c : UInt8} {r : Bs} (h : f c = true) : 1 ≤ spanN f (c :: r) := by simp [spanN, h]
theorem sign_len {l t : Bs} (h : signAt l = some t) : 1 ≤ t.length ∧ t.length ≤ l.length ∧ l.take t.length = t := by
  unfold signAt at h
  have h1 := List.find?_some h
  have h2 := List.mem_of_find?_eq_some h
  have h3 : ∀ t ∈ signs, 1 ≤ t.length := by decide
  have h4 : l.take t.length = t := by simpa using h1
  refine ⟨h3 t h2, ?_, h4⟩
  have := congrArg List.length h4
  rw [List.length_take] at this
  omega
theorem read_adv (l : Bs) {p : Nat} (hp : p ≤ l.length) : (readT l p).2 ≤ l.length ∧ ((readT l p).1.kind = k_end ∨ p < (readT l p).2) ∧ ((readT l p).1.kind = k_end → (readT l p).1.err = 0 → (readT l p).2 = l.length ∨ True) := by
  obtain ⟨h1, h2⟩ := skp_range false (l.drop p) p
  rw [List.length_drop] at h2
  unfold readT
  generalize skp false (l.drop p) p = a at *
  have hl : (l.drop a).length = l.length - a := List.length_drop
  split
  · exact ⟨Nat.le_refl _, .inl rfl, fun _ _ => .inr trivial⟩
  · rename_i c r hd
    rw [hd] at hl
    rw [List.length_cons] at hl
    split
    · rename_i hc
      have h3 := span_le alnum (c :: r)
      have h4 : 1 ≤ spanN alnum (c :: r) := span_pos (by simp [alnum, hc])
      rw [List.length_cons] at h3
      exact ⟨by simp only; omega, .inr (by simp only; omega), fun _ _ => .inr trivial⟩
    · split
      · rename_i hc
        have h3 := span_le digit (c :: r)
        have h4 : 1 ≤ spanN digit (c :: r) := span_pos hc
        rw [List.length_cons] at h3
        exact ⟨by simp only; omega, .inr (by simp only; omega), fun _ _ => .inr trivial⟩
      · split
        · rename_i t ht
          obtain ⟨h3, h4, _⟩ := sign_len ht
          rw [List.length_cons] at h4
          exact ⟨by simp only; omega, .inr (by simp only; omega), fun _ _ => .inr trivial⟩
        · exact ⟨by simp only; omega, .inr (by simp only; omega), fun _ _ => .inr trivial⟩
theorem neg_range {s : Bs} {v : Int} (h : negOf s = some v) : -9223372036854775808 ≤ v ∧ v ≤ 0 := by
  unfold negOf at h
  split at h
  · simp at h; omega
  · split at h
    · simp at h
    · simp at h; omega
theorem read_n (l : Bs) (p : Nat) : -9223372036854775808 ≤ (readT l p).1.n ∧ (readT l p).1.n ≤ 0 := by
  unfold readT
  split
  · simp
  · split
    · unfold named; split <;> simp
    · split
      · unfold number
        split
        · rename_i v hv; exact neg_range hv
        · simp
      · split <;> simp
theorem Ends.cons {t : Tk} {r : List Tk} (h : Ends r) : Ends (t :: r) := by
  cases r with
  | nil => exact h.elim
  | cons u r => exact h
theorem words_ends (l : Bs) : ∀ (n p : Nat), p ≤ l.length → l.length < n + p → Ends (words l n p)
  | 0, p, h1, h2 => by omega
  | n + 1, p, h1, h2 => by
    obtain ⟨h3, h4, _⟩ := read_adv l h1
    unfold words
    split
    · rename_i h
      rcases h with h | h
      · exact .inr h
      · exact .inl h
    · rename_i h
      have h5 : p < (readT l p).2 := h4.resolve_left fun e => h (.inr e)
      exact (words_ends l n _ h3 (by omega)).cons
theorem words_succ (l : Bs) (n p : Nat) : words l (n + 1) p = if (readT l p).1.err ≠ 0 ∨ (readT l p).1.kind = k_end then [(readT l p).1] else (readT l p).1 :: words l n (readT l p).2 := rfl
theorem words_fuel (l : Bs) : ∀ (n m p : Nat), p ≤ l.length → l.length < n + p → l.length < m + p → words l n p = words l m p
  | 0, _, p, h1, h2, _ => by omega
  | _ + 1, 0, p, h1, _, h2 => by omega
  | n + 1, m + 1, p, h1, h2, h3 => by
    obtain ⟨h4, h5, _⟩ := read_adv l h1
    unfold words
    split
    · rfl
    · rename_i h
      have h6 : p < (readT l p).2 := h5.resolve_left fun e => h (.inr e)
      rw [words_fuel l n m _ h4 (by omega) (by omega)]
theorem words_at (l : Bs) {p : Nat} (hp : p ≤ l.length) : ∃ r, words l (l.length + 1 - p) p = (readT l p).1 :: r ∧ ((readT l p).1.err = 0 → (readT l p).1.kind ≠ k_end → r = words l (l.length + 1 - (readT l p).2) (readT l p).2) := by
  obtain ⟨h4, h5, _⟩ := read_adv l hp
  rw [show l.length + 1 - p = (l.length - p) + 1 by omega, words_succ]
  split
  · rename_i h
    refine ⟨[], rfl, fun h1 h2 => ?_⟩
    rcases h with h | h
    · exact absurd h1 h
    · exact absurd h h2
  · rename_i h
    have h6 : p < (readT l p).2 := h5.resolve_left fun e => h (.inr e)
    exact ⟨_, rfl, fun _ _ => words_fuel l (l.length - p) (l.length + 1 - (readT l p).2) _ h4 (by omega) (by omega)⟩
theorem words_len (l : Bs) : ∀ (n p : Nat), (words l n p).length ≤ n
  | 0, p => by simp [words]
  | n + 1, p => by
    have := words_len l n (readT l p).2
    unfold words
    split
    · simp
    · simp; omega
def start (l : Bs) : List Tk := ⟨[], [], 0, 0, 0⟩ :: words l (l.length + 1) 0
theorem way_start (l : Bs) : Way (start l) := ⟨(words_ends l (l.length + 1) 0 (Nat.zero_le _) (by omega)).cons, rfl⟩
section
variable {f : Nat} {F : PF} (T : Tot f F)
include T
theorem loopN_fin {n0 : Nat} : ∀ (n : Nat) (l : List Bs) (ts : List Tk), Way ts → ts.length < n → ts.length ≤ n0 → Fin (loopN n l ts) (fun ts' => Way ts' ∧ ts'.length ≤ n0)
  | 0, _, _, _, h, _ => absurd h (Nat.not_lt_zero _)
  | n + 1, l, ts, hw, hn, h0 => by
    unfold loopN
    split
    · exact ⟨hw, h0⟩
    · refine Fin.bind (comma_fin T hw) fun _ ts1 h1 => ?_
      refine Fin.bind (take_fin h1.1 (by decide)) fun _ ts2 h2 => ?_
      exact loopN_fin n _ ts2 h2.1 (by have := h1.2; have := h2.2; omega) (by have := h1.2; have := h2.2; omega)
theorem function_fin {ts : List Tk} (hw : Way ts) (hf : 12 * ts.length ≤ f) : Fin (functionP F ts) (Less ts.length) := by
  unfold functionP
  refine Fin.bind (take_fin hw (by decide)) fun _ ts1 h1 => ?_
  refine Fin.bind (take_fin h1.1 (by decide)) fun _ ts2 h2 => ?_
  refine Fin.bind (take_fin h2.1 (by decide)) fun _ ts3 h3 => ?_
  refine Fin.bind (loopN_fin T (n0 := ts3.length) _ [] ts3 h3.1 (by omega) (Nat.le_refl _)) fun _ ts4 h4 => ?_
  refine Fin.bind (take_fin h4.1 (by decide)) fun _ ts5 h5 => ?_
  have := h1.2; have := h2.2; have := h3.2; have := h4.2; have := h5.2
  refine Fin.bind (T.block 1 ts5 h5.1 (by omega)) fun _ ts6 h6 => ?_
  exact ⟨h6.1, by have := h6.2; omega⟩
theorem loopF_fin : ∀ (n : Nat) (l : List Fnc) (ts : List Tk), Way ts → ts.length < n → 12 * ts.length ≤ f → Fin (loopF F n l ts) (fun _ => True)
  | 0, _, _, _, h, _ => absurd h (Nat.not_lt_zero _)
  | n + 1, l, ts, hw, hn, hf => by
    unfold loopF
    split
    · exact trivial
    · refine Fin.bind (function_fin T hw hf) fun _ ts1 h1 => ?_
      have := h1.2
      exact loopF_fin n _ ts1 h1.1 (by omega) (by omega)
end
def fuelOf (l : Bs) : Nat := 12 * (l.length + 3)
theorem parse_fin (l : Bs) : Fin (parseP l (fuelOf l)) (fun _ => True) := by
  have T := pf_tot (fuelOf l)
  have hw := way_start l
  have hl : (start l).length ≤ l.length + 2 := by
    have := words_len l (l.length + 1) 0
    simp only [start, List.length_cons]; omega
  unfold parseP
  refine Fin.bind (step_fin false hw (by show ([] : Bs) ≠ k_end; decide)) fun _ ts h => ?_
  have h2 : ts.length < (start l).length := h.2
  unfold fuelOf at T ⊢
  refine Fin.bind (function_fin T h.1 (by omega)) fun _ ts1 h1 => ?_
  have := h1.2
  exact loopF_fin T _ _ ts1 h1.1 (by omega) (by omega)
end Go.Tx
namespace Go.Proofs.YtfnjodpehomgfaaGreatDoor
open Go Go.Sh Go.Tx
attribute [local irreducible] Blk Ext RdS
inductive ET where
  | mk (kind op k : Int) (name comb : Bs) (A : Option Addr) (c : Nat) (kids : List ET)
mutual
def ET.e : ET → Ex
  | .mk kd o n nm cb _ _ ks => .mk kd o n nm cb (ET.es ks)
def ET.es : List ET → List Ex
  | [] => []
  | x :: r => ET.e x :: ET.es r
end
def ET.enc : ET → List Value
  | .mk kd o n nm cb A c ks => [.int .i64 kd, .int .i64 o, .int .i64 n, .string (bs nm), .string (bs cb), .slice A ks.length c]
def ET.v (t : ET) : Value := .agg t.enc.toArray
theorem ET.enc_len (t : ET) : t.enc.length = 6 := by cases t; rfl
theorem ET.es_len : ∀ l : List ET, (ET.es l).length = l.length
  | [] => rfl
  | x :: r => by simp [ET.es, ET.es_len r]
theorem ET.es_app : ∀ a b : List ET, ET.es (a ++ b) = ET.es a ++ ET.es b
  | [], b => by simp [ET.es]
  | x :: r, b => by simp [ET.es, ET.es_app r b]
mutual
def ET.fp : ET → Nat → Prop
  | .mk _ _ _ _ _ A _ ks, b => obk A = some b ∨ ET.fps ks b
def ET.fps : List ET → Nat → Prop
  | [], _ => False
  | x :: r, b => ET.fp x b ∨ ET.fps r b
end
mutual
def ET.Ok (w : World) : ET → Prop
  | .mk _ _ _ _ _ A c ks => Que ET.enc 6 74 w 0 A c ks ∧ ET.Oks w ks ∧ ks.length ≤ 2000000
def ET.Oks (w : World) : List ET → Prop
  | [] => True
  | x :: r => ET.Ok w x ∧ ET.Oks w r
end
mutual
def ET.Sep : ET → Prop
  | .mk _ _ _ _ _ A _ ks => (∀ b, ¬ (obk A = some b ∧ ET.fps ks b)) ∧ ET.Seps ks
def ET.Seps : List ET → Prop
  | [] => True
  | x :: r => ET.Sep x ∧ ET.Seps r ∧ ∀ b, ¬ (ET.fp x b ∧ ET.fps r b)
end
theorem ET.fps_app (b : Nat) : ∀ l m : List ET, ET.fps (l ++ m) b ↔ ET.fps l b ∨ ET.fps m b
  | [], m => by simp [ET.fps]
  | x :: r, m => by simp [ET.fps, ET.fps_app b r m, or_assoc]
theorem ET.oks_app (w : World) : ∀ l m : List ET, ET.Oks w (l ++ m) ↔ ET.Oks w l ∧ ET.Oks w m
  | [], m => by simp [ET.Oks]
  | x :: r, m => by simp [ET.Oks, ET.oks_app w r m, and_assoc]
theorem ET.seps_app : ∀ l m : List ET, ET.Seps l → ET.Seps m → (∀ b, ¬ (ET.fps l b ∧ ET.fps m b)) → ET.Seps (l ++ m)
  | [], m, _, h, _ => h
  | x :: r, m, hl, hm, hd => by
    obtain ⟨h1, h2, h3⟩ := hl
    refine ⟨h1, ET.seps_app r m h2 hm fun b hb => hd b ⟨.inr hb.1, hb.2⟩, fun b hb => ?_⟩
    rcases (ET.fps_app b r m).1 hb.2 with h | h
    · exact h3 b ⟨hb.1, h⟩
    · exact hd b ⟨.inl hb.1, h⟩
mutual
theorem ET.Ok.lt {w : World} : ∀ {t : ET}, ET.Ok w t → ∀ b, ET.fp t b → b < w.heap.size
  | .mk _ _ _ _ _ A c ks, h, b, hb => by
    rcases hb with hb | hb
    · exact (qu_ok h.1).lt b hb
    · exact ET.Oks.lt h.2.1 b hb
theorem ET.Oks.lt {w : World} : ∀ {l : List ET}, ET.Oks w l → ∀ b, ET.fps l b → b < w.heap.size
  | [], _, b, hb => hb.elim
  | x :: r, h, b, hb => by
    rcases hb with hb | hb
    · exact ET.Ok.lt h.1 b hb
    · exact ET.Oks.lt h.2 b hb
end
mutual
theorem ET.Ok.loc {w w' : World} (hs : w.heap.size ≤ w'.heap.size) : ∀ {t : ET}, ET.Ok w t → (∀ b, ET.fp t b → w'.heap[b]? = w.heap[b]?) → ET.Ok w' t
  | .mk _ _ _ _ _ A c ks, h, hb => ⟨(qu_ok h.1).loc w' hs fun b hk => hb b (.inl hk), ET.Oks.loc hs h.2.1 fun b hk => hb b (.inr hk), h.2.2⟩
theorem ET.Oks.loc {w w' : World} (hs : w.heap.size ≤ w'.heap.size) : ∀ {l : List ET}, ET.Oks w l → (∀ b, ET.fps l b → w'.heap[b]? = w.heap[b]?) → ET.Oks w' l
  | [], _, _ => trivial
  | x :: r, h, hb => ⟨ET.Ok.loc hs h.1 fun b hk => hb b (.inl hk), ET.Oks.loc hs h.2 fun b hk => hb b (.inr hk)⟩
end
abbrev trs (l : List ET) : Ck := ⟨ET.fps l, fun w => ET.Oks w l ∧ ET.Seps l, true, false⟩
theorem trs_ok {l : List ET} {w : World} (h1 : ET.Oks w l) (h2 : ET.Seps l) : (trs l).Ok w :=
  ⟨⟨h1, h2⟩, ET.Oks.lt h1, fun w' hs hb => ⟨ET.Oks.loc hs h1 hb, h2⟩⟩
section
variable {S : Nat → Prop} {w0 w : World} {Γ : List Ck}
theorem Hp.trs0 (H : Hp S w0 w Γ) : Hp S w0 w (trs [] :: Γ) :=
  H.fr0 (Hp.one (Tch.refl _ _) (trs_ok trivial trivial) (fun k hk => hk.elim)) (.inl rfl)
theorem Hp.trsS {l : List ET} {t : ET} (H : Hp S w0 w (trs [t] :: trs l :: Γ)) : Hp S w0 w (trs (l ++ [t]) :: Γ) := by
  refine Hp.join2 H rfl rfl (.inl rfl) (fun k hk => ?_) (fun hd h1 h2 => trs_ok ((ET.oks_app w l [t]).2 ⟨h2.holds.1, h1.holds.1⟩) (ET.seps_app _ _ h2.holds.2 h1.holds.2 fun b hb => hd b ⟨hb.2, hb.1⟩))
  rcases (ET.fps_app k l [t]).1 hk with h | h
  · exact .inr h
  · exact .inl h
theorem Hp.trsN {l : List ET} {A : Option Addr} {c : Nat} (kd o n : Int) (nm cb : Bs) (H : Hp S w0 w (qu ET.enc 6 74 A c l :: trs l :: Γ)) (hlen : l.length ≤ 2000000 := by first | (simp; done) | omega | assumption) : Hp S w0 w (trs [.mk kd o n nm cb A c l] :: Γ) := by
  refine Hp.join2 H rfl rfl (.inl rfl) (fun k hk => ?_) (fun hd h1 h2 => trs_ok ⟨⟨h1.holds, h2.holds.1, hlen⟩, trivial⟩ ⟨⟨fun b hb => hd b hb, h2.holds.2⟩, trivial, fun b hb => hb.2.elim⟩)
  rcases hk with hk | hk
  · exact hk
  · exact hk.elim
theorem Hp.trsZ (kd o n : Int) (nm cb : Bs) (H : Hp S w0 w Γ) : Hp S w0 w (trs [.mk kd o n nm cb none 0 []] :: Γ) :=
  Hp.trsN kd o n nm cb (Hp.nil (Hp.trs0 H) ET.enc 6 74)
end
inductive SM where
  | mk (kind : Int) (name : Bs) (e : ET) (B : Option Addr) (cb : Nat) (body : List SM) (E : Option Addr) (ce : Nat) (els : List SM)
mutual
def SM.e : SM → St
  | .mk kd nm e _ _ b _ _ f => .mk kd nm e.e (SM.es b) (SM.es f)
def SM.es : List SM → List St
  | [] => []
  | x :: r => SM.e x :: SM.es r
end
def SM.enc : SM → List Value
  | .mk kd nm e B cb b E ce f => [.int .i64 kd, .string (bs nm)] ++ (e.enc ++ [.slice B b.length cb, .slice E f.length ce])
def SM.v (t : SM) : Value := .agg t.enc.toArray
theorem SM.enc_len (t : SM) : t.enc.length = 10 := by
  obtain ⟨_, _, e, _, _, _, _, _, _⟩ := t
  cases e; rfl
theorem SM.es_app : ∀ a b : List SM, SM.es (a ++ b) = SM.es a ++ SM.es b
  | [], b => by simp [SM.es]
  | x :: r, b => by simp [SM.es, SM.es_app r b]
theorem SM.es_len : ∀ l : List SM, (SM.es l).length = l.length
  | [] => rfl
  | x :: r => by simp [SM.es, SM.es_len r]
mutual
def SM.fp : SM → Nat → Prop
  | .mk _ _ e B _ b E _ f, k => ET.fp e k ∨ obk B = some k ∨ SM.fps b k ∨ obk E = some k ∨ SM.fps f k
def SM.fps : List SM → Nat → Prop
  | [], _ => False
  | x :: r, k => SM.fp x k ∨ SM.fps r k
end
mutual
def SM.Ok (w : World) : SM → Prop
  | .mk _ _ e B cb b E ce f => ET.Ok w e ∧ Que SM.enc 10 76 w 0 B cb b ∧ SM.Oks w b ∧ Que SM.enc 10 76 w 0 E ce f ∧ SM.Oks w f ∧ b.length ≤ 2000000 ∧ f.length ≤ 2000000
def SM.Oks (w : World) : List SM → Prop
  | [] => True
  | x :: r => SM.Ok w x ∧ SM.Oks w r
end
def Five (a b c d e : Nat → Prop) : Prop := ∀ k, ¬ (a k ∧ (b k ∨ c k ∨ d k ∨ e k)) ∧ ¬ (b k ∧ (c k ∨ d k ∨ e k)) ∧ ¬ (c k ∧ (d k ∨ e k)) ∧ ¬ (d k ∧ e k)
mutual
def SM.Sep : SM → Prop
  | .mk _ _ e B _ b E _ f => ET.Sep e ∧ SM.Seps b ∧ SM.Seps f ∧ Five (ET.fp e) (fun k => obk B = some k) (SM.fps b) (fun k => obk E = some k) (SM.fps f)
def SM.Seps : List SM → Prop
  | [] => True
  | x :: r => SM.Sep x ∧ SM.Seps r ∧ ∀ b, ¬ (SM.fp x b ∧ SM.fps r b)
end
theorem SM.fps_app (b : Nat) : ∀ l m : List SM, SM.fps (l ++ m) b ↔ SM.fps l b ∨ SM.fps m b
  | [], m => by simp [SM.fps]
  | x :: r, m => by simp [SM.fps, SM.fps_app b r m, or_assoc]
theorem SM.oks_app (w : World) : ∀ l m : List SM, SM.Oks w (l ++ m) ↔ SM.Oks w l ∧ SM.Oks w m
  | [], m => by simp [SM.Oks]
  | x :: r, m => by simp [SM.Oks, SM.oks_app w r m, and_assoc]
theorem SM.seps_app : ∀ l m : List SM, SM.Seps l → SM.Seps m → (∀ b, ¬ (SM.fps l b ∧ SM.fps m b)) → SM.Seps (l ++ m)
  | [], m, _, h, _ => h
  | x :: r, m, hl, hm, hd => by
    obtain ⟨h1, h2, h3⟩ := hl
    refine ⟨h1, SM.seps_app r m h2 hm fun b hb => hd b ⟨.inr hb.1, hb.2⟩, fun b hb => ?_⟩
    rcases (SM.fps_app b r m).1 hb.2 with h | h
    · exact h3 b ⟨hb.1, h⟩
    · exact hd b ⟨.inl hb.1, h⟩
mutual
theorem SM.Ok.lt {w : World} : ∀ {t : SM}, SM.Ok w t → ∀ b, SM.fp t b → b < w.heap.size
  | .mk _ _ e B cb b E ce f, h, k, hk => by
    rcases hk with hk | hk | hk | hk | hk
    · exact ET.Ok.lt h.1 k hk
    · exact (qu_ok h.2.1).lt k hk
    · exact SM.Oks.lt h.2.2.1 k hk
    · exact (qu_ok h.2.2.2.1).lt k hk
    · exact SM.Oks.lt h.2.2.2.2.1 k hk
theorem SM.Oks.lt {w : World} : ∀ {l : List SM}, SM.Oks w l → ∀ b, SM.fps l b → b < w.heap.size
  | [], _, b, hb => hb.elim
  | x :: r, h, b, hb => by
    rcases hb with hb | hb
    · exact SM.Ok.lt h.1 b hb
    · exact SM.Oks.lt h.2 b hb
end
mutual
theorem SM.Ok.loc {w w' : World} (hs : w.heap.size ≤ w'.heap.size) : ∀ {t : SM}, SM.Ok w t → (∀ b, SM.fp t b → w'.heap[b]? = w.heap[b]?) → SM.Ok w' t
  | .mk _ _ e B cb b E ce f, h, hb => ⟨ET.Ok.loc hs h.1 fun k hk => hb k (.inl hk), (qu_ok h.2.1).loc w' hs fun k hk => hb k (.inr (.inl hk)), SM.Oks.loc hs h.2.2.1 fun k hk => hb k (.inr (.inr (.inl hk))), (qu_ok h.2.2.2.1).loc w' hs fun k hk => hb k (.inr (.inr (.inr (.inl hk)))), SM.Oks.loc hs h.2.2.2.2.1 fun k hk => hb k (.inr (.inr (.inr (.inr hk)))), h.2.2.2.2.2⟩
theorem SM.Oks.loc {w w' : World} (hs : w.heap.size ≤ w'.heap.size) : ∀ {l : List SM}, SM.Oks w l → (∀ b, SM.fps l b → w'.heap[b]? = w.heap[b]?) → SM.Oks w' l
  | [], _, _ => trivial
  | x :: r, h, hb => ⟨SM.Ok.loc hs h.1 fun b hk => hb b (.inl hk), SM.Oks.loc hs h.2 fun b hk => hb b (.inr hk)⟩
end
abbrev sts (l : List SM) : Ck := ⟨SM.fps l, fun w => SM.Oks w l ∧ SM.Seps l, true, false⟩
theorem sts_ok {l : List SM} {w : World} (h1 : SM.Oks w l) (h2 : SM.Seps l) : (sts l).Ok w :=
  ⟨⟨h1, h2⟩, SM.Oks.lt h1, fun w' hs hb => ⟨SM.Oks.loc hs h1 hb, h2⟩⟩
abbrev stl (B : Option Addr) (c : Nat) (l : List SM) : Ck := ⟨fun k => obk B = some k ∨ SM.fps l k, fun w => Que SM.enc 10 76 w 0 B c l ∧ SM.Oks w l ∧ SM.Seps l ∧ (∀ k, ¬ (obk B = some k ∧ SM.fps l k)) ∧ l.length ≤ 2000000, true, false⟩
theorem stl_ok {B : Option Addr} {c : Nat} {l : List SM} {w : World} (h1 : Que SM.enc 10 76 w 0 B c l) (h2 : SM.Oks w l) (h3 : SM.Seps l) (h4 : ∀ k, ¬ (obk B = some k ∧ SM.fps l k)) (h5 : l.length ≤ 2000000) : (stl B c l).Ok w := by
  refine ⟨⟨h1, h2, h3, h4, h5⟩, fun k hk => ?_, fun w' hs hb => ⟨(qu_ok h1).loc w' hs fun k hk => hb k (.inl hk), SM.Oks.loc hs h2 fun k hk => hb k (.inr hk), h3, h4, h5⟩⟩
  rcases hk with hk | hk
  · exact (qu_ok h1).lt k hk
  · exact SM.Oks.lt h2 k hk
section
variable {S : Nat → Prop} {w0 w : World} {Γ : List Ck}
theorem Hp.sts0 (H : Hp S w0 w Γ) : Hp S w0 w (sts [] :: Γ) :=
  H.fr0 (Hp.one (Tch.refl _ _) (sts_ok trivial trivial) (fun k hk => hk.elim)) (.inl rfl)
theorem Hp.stsS {l : List SM} {t : SM} (H : Hp S w0 w (sts [t] :: sts l :: Γ)) : Hp S w0 w (sts (l ++ [t]) :: Γ) := by
  refine Hp.join2 H rfl rfl (.inl rfl) (fun k hk => ?_) (fun hd h1 h2 => sts_ok ((SM.oks_app w l [t]).2 ⟨h2.holds.1, h1.holds.1⟩) (SM.seps_app _ _ h2.holds.2 h1.holds.2 fun b hb => hd b ⟨hb.2, hb.1⟩))
  rcases (SM.fps_app k l [t]).1 hk with h | h
  · exact .inr h
  · exact .inl h
theorem Hp.stlN {B : Option Addr} {c : Nat} {l : List SM} (H : Hp S w0 w (qu SM.enc 10 76 B c l :: sts l :: Γ)) (hlen : l.length ≤ 2000000 := by first | (simp; done) | omega | assumption) : Hp S w0 w (stl B c l :: Γ) :=
  Hp.join2 H rfl rfl (.inl rfl) (fun k hk => hk) (fun hd h1 h2 => stl_ok h1.holds h2.holds.1 h2.holds.2 hd hlen)
theorem Hp.stl0 (H : Hp S w0 w Γ) : Hp S w0 w (stl none 0 [] :: Γ) := Hp.stlN (Hp.nil (Hp.sts0 H) SM.enc 10 76)
theorem Hp.stsN {e : ET} {B E : Option Addr} {cb ce : Nat} {b f : List SM} (kd : Int) (nm : Bs) (H : Hp S w0 w (trs [e] :: stl B cb b :: stl E ce f :: Γ)) : Hp S w0 w (sts [.mk kd nm e B cb b E ce f] :: Γ) := by
  have H1 : Hp S w0 w ((⟨fun k => ET.fp e k ∨ obk B = some k ∨ SM.fps b k, fun w => ET.Ok w e ∧ ET.Sep e ∧ (stl B cb b).P w ∧ ∀ k, ¬ (ET.fp e k ∧ (obk B = some k ∨ SM.fps b k)), true, false⟩ : Ck) :: stl E ce f :: Γ) := by
    refine Hp.join2 H rfl rfl (.inl rfl) (fun k hk => ?_) (fun hd h1 h2 => ⟨⟨h1.holds.1.1, h1.holds.2.1, h2.holds, fun k hk => hd k ⟨.inl hk.1, hk.2⟩⟩, fun k hk => ?_, fun w' hs hb => ?_⟩)
    · rcases hk with hk | hk
      · exact .inl (.inl hk)
      · exact .inr hk
    · rcases hk with hk | hk
      · exact h1.lt k (.inl hk)
      · exact h2.lt k hk
    · have a1 := h1.loc w' hs fun k hk => by
        rcases hk with hk | hk
        · exact hb k (.inl hk)
        · exact hk.elim
      have a2 := h2.loc w' hs fun k hk => hb k (.inr hk)
      exact ⟨a1.1.1, a1.2.1, a2, fun k hk => hd k ⟨.inl hk.1, hk.2⟩⟩
  refine Hp.join2 H1 rfl rfl (.inl rfl) (fun k hk => ?_) (fun hd h1 h2 => ?_)
  · rcases hk with (hk | hk | hk | hk | hk) | hk
    · exact .inl (.inl hk)
    · exact .inl (.inr (.inl hk))
    · exact .inl (.inr (.inr hk))
    · exact .inr (.inl hk)
    · exact .inr (.inr hk)
    · exact hk.elim
  · obtain ⟨he, hse, ⟨q1, o1, s1, d1, g1⟩, dd⟩ := h1.holds
    obtain ⟨q2, o2, s2, d2, g2⟩ := h2.holds
    refine sts_ok ⟨⟨he, q1, o1, q2, o2, g1, g2⟩, trivial⟩ ⟨⟨hse, s1, s2, fun k => ⟨fun hk => ?_, fun hk => ?_, fun hk => ?_, fun hk => d2 k hk⟩⟩, trivial, fun b hb => hb.2.elim⟩
    · rcases hk.2 with h | h | h | h
      · exact dd k ⟨hk.1, .inl h⟩
      · exact dd k ⟨hk.1, .inr h⟩
      · exact hd k ⟨.inl hk.1, .inl h⟩
      · exact hd k ⟨.inl hk.1, .inr h⟩
    · rcases hk.2 with h | h | h
      · exact d1 k ⟨hk.1, h⟩
      · exact hd k ⟨.inr (.inl hk.1), .inl h⟩
      · exact hd k ⟨.inr (.inl hk.1), .inr h⟩
    · rcases hk.2 with h | h
      · exact hd k ⟨.inr (.inr hk.1), .inl h⟩
      · exact hd k ⟨.inr (.inr hk.1), .inr h⟩
end
end Go.Proofs.YtfnjodpehomgfaaGreatDoor
namespace Go.Proofs.YtfnjodpehomgfaaGreatDoor
open Go Go.Sh Go.Tx
attribute [local irreducible] Blk Ext RdS
def strE (b : Bs) : List Value := [.string (bs b)]
def wordCs (t : Tk) : List Value := [.string (bs t.kind), .string (bs t.text), .int .i64 (t.at_ : Int), .int .i64 t.n, .int .i64 t.err]
def rdrCs (src : Bs) (nx : Nat) (t : Tk) : List Value := [.string (bs src), .int .i64 (nx : Int), .string (bs t.kind), .string (bs t.text), .int .i64 (t.at_ : Int), .int .i64 t.n, .int .i64 t.err]
def Rdr (src : Bs) (pr : Nat) (ts : List Tk) (w : World) : Prop := ∃ nx t r, ts = t :: r ∧ nx ≤ src.length ∧ ((t.kind ≠ k_end → r = words src (src.length + 1 - nx) nx) ∧ r.length ≤ src.length + 1 ∧ -9223372036854775808 ≤ t.n ∧ t.n ≤ 0) ∧ Blk w pr 68 (rdrCs src nx t)
abbrev rdr (src : Bs) (pr : Nat) (ts : List Tk) : Ck := ⟨(· = pr), Rdr src pr ts, true, false⟩
theorem rdr_ok {w : World} {src : Bs} {pr : Nat} {ts : List Tk} (h : Rdr src pr ts w) : (rdr src pr ts).Ok w := by
  obtain ⟨nx, t, r, h1, h2, h3, h4⟩ := h
  exact ⟨⟨nx, t, r, h1, h2, h3, h4⟩, fun k hk => by subst hk; exact h4.lt, fun w' hs hb => ⟨nx, t, r, h1, h2, h3, (bk_ok h4).loc w' hs hb⟩⟩
theorem Rdr.len {src : Bs} {pr : Nat} {ts : List Tk} {w : World} (h : Rdr src pr ts w) : ts.length ≤ src.length + 2 := by
  obtain ⟨nx, t, r, rfl, _, ⟨_, h1, _⟩, _⟩ := h
  simp only [List.length_cons]; omega
def pk (q : Nat) : List PanicEntry := [{ v := .iface 56 (.pointer (some ⟨q, 0, none⟩)), recovered := false }]
def PanX {α : Type} (R : Res α) (pr : Nat) (w : World) (ch : List PanicEntry) (w' : World) : Prop := ∃ e p q, R = .err e p ∧ ch = pk q ∧ Hp (· = pr) w w' [bk q 63 [.int .i64 e, .int .i64 (p : Int)]]
theorem Hp.pan {S : Nat → Prop} {w0 w w' : World} {Γ Γ' : List Ck} {src : Bs} {pr : Nat} {ts : List Tk} {c : Ck} (H : Hp S w0 w Γ) (H' : Hp (· = pr) w w' [c]) (hn : c.new) (u : Upd1 Γ (rdr src pr ts) c Γ' := by (repeat (first | exact Upd1.head | apply Upd1.tail))) : Hp S w0 w' [c] := by
  have H2 := Hp.upd (c := rdr src pr ts) H H' rfl hn u
  obtain ⟨L, R, h1, rfl⟩ := u.sp
  have h3 : List.Perm (L ++ c :: R) (c :: (L ++ R)) := List.perm_middle
  exact (H2.perm h3).sub (List.Sublist.cons_cons _ (List.nil_sublist _))
end Go.Proofs.YtfnjodpehomgfaaGreatDoor
namespace Go.Proofs.YtfnjodpehomgfaaGreatDoor
open Go Go.Sh Go.Tx
attribute [local irreducible] Blk Ext RdS
theorem byte_lt (c : UInt8) : c.toNat < 256 := UInt8.toNat_lt c
theorem letter_c (c : UInt8) (w : World) : Cl Tryz.prog 69 #[.int .i32 (c.toNat : Int)] w (fun v w' => v = .bool (letter c) ∧ Ext w w') (fun _ _ => False) := by
  refine calls_ex (args := [.int .i32 (c.toNat : Int)]) T.ok Tryz.func69 rfl rfl rfl rfl ?_
  have H := Hp.begin nw w
  repeat' ((conv => whnf); first | refine ztS ?_ | (refine ztB ?_ ?_ <;> intro _ <;> try (exfalso; omega)) | (refine ztA ?_; clear H; intro _ _ H _) | fail)
  all_goals (refine ⟨b_eq ?_, H.e⟩; rw [Bool.eq_iff_iff]; simp only [letter, decide_eq_true_eq, iff_true, true_iff, Bool.false_eq_true, false_iff]; omega)
theorem digit_c (c : UInt8) (w : World) : Cl Tryz.prog 70 #[.int .i32 (c.toNat : Int)] w (fun v w' => v = .bool (digit c) ∧ Ext w w') (fun _ _ => False) := by
  refine calls_ex (args := [.int .i32 (c.toNat : Int)]) T.ok Tryz.func70 rfl rfl rfl rfl ?_
  have H := Hp.begin nw w
  repeat' ((conv => whnf); first | refine ztS ?_ | (refine ztB ?_ ?_ <;> intro _ <;> try (exfalso; omega)) | (refine ztA ?_; clear H; intro _ _ H _) | fail)
  all_goals (refine ⟨b_eq ?_, H.e⟩; rw [Bool.eq_iff_iff]; simp only [digit, decide_eq_true_eq, iff_true, true_iff, Bool.false_eq_true, false_iff]; omega)
def RdK (w : World) : Prop := RdS (fun b : Bs => [Value.string (bs b)]) 1 w (some ⟨3, 0, none⟩) keywords
theorem contains_step {α : Type} [BEq α] [LawfulBEq α] {l : List α} {i : Nat} {x s : α} (h : l[i]? = some x) : (l.take (i + 1)).contains s = ((l.take i).contains s || x == s) := by
  obtain ⟨h1, h2⟩ := List.getElem?_eq_some_iff.1 h
  rw [List.take_succ_eq_append_getElem h1, h2, Bool.eq_iff_iff, List.contains_iff_mem, Bool.or_eq_true, List.contains_iff_mem, List.mem_append, List.mem_singleton, beq_iff_eq]
  exact ⟨fun h => h.imp id Eq.symm, fun h => h.imp id Eq.symm⟩
theorem keyword_c (s : Bs) (w : World) (hK : RdK w) : Cl Tryz.prog 68 #[.string (bs s)] w (fun v w' => v = .bool (isKw s) ∧ Ext w w') (fun _ _ => False) := by
  refine calls_ex (args := [.string (bs s)]) T.ok Tryz.func68 rfl rfl rfl rfl ?_
  have H := Hp.begin nw w
  repeat' ((conv => whnf); first | refine ztS ?_ | (refine ztB ?_ ?_ <;> intro _ <;> try (exfalso; omega)) | (refine ztA ?_; clear H; intro _ _ H _) | fail)
  (conv => whnf)
  refine Ld.all hK ?_
  repeat' ((conv => whnf); first | refine ztS ?_ | (refine ztB ?_ ?_ <;> intro _ <;> try (exfalso; omega)) | (refine ztA ?_; clear H; intro _ _ H _) | fail)
  refine Lp.g0 T.ok (σ := Nat) (fun i => [(6, .int .i64 (i : Int)), (5, .agg (keywords.map fun b => Value.string (bs b)).toArray), (0, .string (bs s))])
    (fun i w' => i ≤ 15 ∧ (keywords.take i).contains s = false ∧ Hp nw w w' []) (fun i _ => 15 - i) 0 rfl ⟨rfl, rfl, rfl, trivial⟩ ⟨Nat.zero_le _, rfl, H⟩ ?_
  clear H
  rintro i w5 ⟨hi, hc, H⟩
  by_cases hlt : i < 15
  · obtain ⟨x, hx⟩ : ∃ x, keywords[i]? = some x := ⟨_, List.getElem?_eq_getElem (show i < keywords.length from hlt)⟩
    have hst := contains_step (s := s) hx
    repeat' ((conv => whnf); first | refine ztS ?_ | (refine ztB ?_ ?_ <;> intro _ <;> try (exfalso; omega)) | (refine ztA ?_; clear H; intro _ _ H _) | fail)
    refine Sm.arrix T.ok (v := .string (bs x)) (by simp [hx]) hlt ?_
    repeat' ((conv => whnf); first | refine ztS ?_ | (refine ztB ?_ ?_ <;> intro _ <;> try (exfalso; omega)) | (refine ztA ?_; clear H; intro _ _ H _) | fail)
    · rename_i hb
      rw [bs_eq] at hb
      refine ⟨b_eq ?_, H.e⟩
      have hm : s ∈ keywords := by rw [← of_decide_eq_true hb]; exact List.mem_of_getElem? hx
      exact (List.contains_iff_mem.2 hm).symm
    · rename_i hb
      rw [bs_eq] at hb
      refine ⟨i + 1, ⟨at_int (m := ((i + 1 : Nat) : Int)) rfl (w64 (by simp) (by omega) (by omega)), rfl, rfl, trivial⟩, rfl, ⟨by omega, ?_, H⟩, by omega⟩
      rw [hst, hc, Bool.false_or]
      exact beq_eq_false_iff_ne.2 (of_decide_eq_false hb)
  · have hi : i = 15 := by omega
    subst hi
    repeat' ((conv => whnf); first | refine ztS ?_ | (refine ztB ?_ ?_ <;> intro _ <;> try (exfalso; omega)) | (refine ztA ?_; clear H; intro _ _ H _) | fail)
    refine ⟨b_eq ?_, H.e⟩
    exact hc.symm
theorem skp_f {l : Bs} {p : Nat} {c : UInt8} (h : l[p]? = some c) : skp false (l.drop p) p = if Tx.blank c = true then skp false (l.drop (p + 1)) (p + 1) else if c.toNat = 47 ∧ (l[p + 1]?).map UInt8.toNat = some 47 then skp true (l.drop (p + 1)) (p + 1) else p := by
  obtain ⟨h1, h2⟩ := List.getElem?_eq_some_iff.1 h
  rw [List.drop_eq_getElem_cons h1, h2]
  simp only [skp, List.head?_drop]
theorem skp_t {l : Bs} {p : Nat} {c : UInt8} (h : l[p]? = some c) : skp true (l.drop p) p = if c.toNat = 10 then skp false (l.drop (p + 1)) (p + 1) else skp true (l.drop (p + 1)) (p + 1) := by
  obtain ⟨h1, h2⟩ := List.getElem?_eq_some_iff.1 h
  rw [List.drop_eq_getElem_cons h1, h2]
  simp only [skp]
theorem skp_end (b : Bool) (l : Bs) {p : Nat} (h : l.length ≤ p) : skp b (l.drop p) p = p := by
  rw [List.drop_of_length_le h]
  cases b <;> rfl
theorem skip_c (l : Bs) (p0 : Nat) (w : World) (hp : p0 ≤ l.length) (hl : l.length ≤ 1000000) :
    Cl Tryz.prog 87 #[.string (bs l), .int .i64 (p0 : Int)] w (fun v w' => v = .int .i64 (skp false (l.drop p0) p0 : Int) ∧ Ext w w') (fun _ _ => False) := by
  refine calls_ex (args := [.string (bs l), .int .i64 (p0 : Int)]) T.ok Tryz.func87 rfl rfl rfl rfl ?_
  have H := Hp.begin nw w
  have hsz := bs_size l
  repeat' ((conv => whnf); first | refine ztS ?_ | (refine ztB ?_ ?_ <;> intro _ <;> try (exfalso; omega)) | (refine ztA ?_; clear H; intro _ _ H _) | fail)
  refine Lp.g0 T.ok (σ := Nat) (fun p => [(1, .int .i64 (p : Int)), (0, .string (bs l))])
    (fun p w' => p ≤ l.length ∧ skp false (l.drop p) p = skp false (l.drop p0) p0 ∧ Hp nw w w' []) (fun p _ => l.length - p) p0 rfl ⟨rfl, rfl, trivial⟩ ⟨hp, rfl, H⟩ ?_
  clear H
  rintro p w5 ⟨hpl, hsk, H⟩
  by_cases hlt : p < l.length
  case neg =>
    repeat' ((conv => whnf); first | refine ztS ?_ | (refine ztB ?_ ?_ <;> intro _ <;> try (exfalso; omega)) | (refine ztA ?_; clear H; intro _ _ H _) | fail)
    all_goals first | (exfalso; omega) | skip
    refine ⟨i_eq ?_, H.e⟩
    rw [← hsk, skp_end false l (by omega)]
  obtain ⟨c, hc⟩ : ∃ c, l[p]? = some c := ⟨_, List.getElem?_eq_getElem hlt⟩
  have hw1 : IntKind.i64.wrap ((p : Int) + 1) = ((p + 1 : Nat) : Int) := w64 rfl (by omega) (by omega)
  have hsf := skp_f hc
  by_cases hbl : Tx.blank c = true
  · rw [if_pos hbl, hsk] at hsf
    have hbl2 := hbl
    simp only [Tx.blank, decide_eq_true_eq] at hbl2
    repeat' ((conv => whnf); first | refine ztT ?_ | (refine ztB ?_ ?_ <;> intro _ <;> try (exfalso; omega)) | (refine ztA ?_; clear H; intro _ _ H _) | fail)
    all_goals first | (exfalso; omega) | skip
    all_goals exact ⟨p + 1, ⟨at_int rfl hw1, rfl, trivial⟩, rfl, ⟨by omega, hsf.symm, H⟩, by omega⟩
  · rw [if_neg hbl, hsk] at hsf
    have hbl2 := hbl
    simp only [Tx.blank, decide_eq_true_eq] at hbl2
    by_cases h47 : c.toNat = 47 ∧ (l[p + 1]?).map UInt8.toNat = some 47
    · rw [if_pos h47] at hsf
      obtain ⟨d, hd, hd2⟩ : ∃ d, l[p + 1]? = some d ∧ d.toNat = 47 := by
        have h2 := h47.2
        cases hx : l[p + 1]? with
        | none => rw [hx] at h2; simp at h2
        | some d => rw [hx] at h2; exact ⟨d, rfl, by simpa using h2⟩
      have hd1 := (List.getElem?_eq_some_iff.1 hd).1
      have h471 := h47.1
      repeat' ((conv => whnf); first | refine ztT ?_ | (refine ztB ?_ ?_ <;> intro _ <;> try (exfalso; omega)) | (refine ztA ?_; clear H; intro _ _ H _) | fail)
      all_goals first | (exfalso; omega) | skip
      have hst := skp_t hc
      rw [if_neg (by omega)] at hst
      refine Lp.g0 T.ok (σ := Nat) (fun q => [(1, .int .i64 (q : Int)), (0, .string (bs l))])
        (fun q w' => p ≤ q ∧ q ≤ l.length ∧ skp true (l.drop q) q = skp false (l.drop p0) p0 ∧ Hp nw w w' []) (fun q _ => l.length - q) p rfl ⟨rfl, rfl, trivial⟩ ⟨Nat.le_refl _, hpl, by rw [hst, ← hsf], H⟩ ?_
      clear H
      rintro q w6 ⟨hpq, hql, hsq, H⟩
      have hout : (q = l.length ∨ ∃ e, l[q]? = some e ∧ e.toNat = 10) → p < q ∧ skp false (l.drop q) q = skp false (l.drop p0) p0 := fun h => by
        rcases h with h | ⟨e, he, he2⟩
        · refine ⟨by omega, ?_⟩
          rw [← hsq, skp_end true l (by omega), skp_end false l (by omega)]
        · refine ⟨?_, ?_⟩
          · rcases Nat.lt_or_eq_of_le hpq with h | rfl
            · exact h
            · rw [hc] at he
              simp only [Option.some.injEq] at he
              subst he
              omega
          · rw [← hsq, skp_t he, if_pos he2, skp_f he, if_pos (by simp only [Tx.blank, decide_eq_true_eq]; omega)]
      by_cases hqlt : q < l.length
      · obtain ⟨e, he⟩ : ∃ e, l[q]? = some e := ⟨_, List.getElem?_eq_getElem hqlt⟩
        have hwq : IntKind.i64.wrap ((q : Int) + 1) = ((q + 1 : Nat) : Int) := w64 rfl (by omega) (by omega)
        by_cases he2 : e.toNat = 10
        · obtain ⟨h1, h2⟩ := hout (.inr ⟨e, he, he2⟩)
          repeat' ((conv => whnf); first | refine ztT ?_ | (refine ztB ?_ ?_ <;> intro _ <;> try (exfalso; omega)) | (refine ztA ?_; clear H; intro _ _ H _) | fail)
          all_goals first | (exfalso; omega) | skip
          exact ⟨q, ⟨rfl, rfl, trivial⟩, rfl, ⟨hql, h2, H⟩, by omega⟩
        · have hsq2 := skp_t he
          rw [if_neg he2] at hsq2
          repeat' ((conv => whnf); first | refine ztT ?_ | (refine ztB ?_ ?_ <;> intro _ <;> try (exfalso; omega)) | (refine ztA ?_; clear H; intro _ _ H _) | fail)
          all_goals first | (exfalso; omega) | skip
          exact ⟨q + 1, ⟨at_int rfl hwq, rfl, trivial⟩, rfl, ⟨by omega, by omega, by rw [← hsq2, hsq], H⟩, by omega⟩
      · obtain ⟨h1, h2⟩ := hout (.inl (by omega))
        repeat' ((conv => whnf); first | refine ztT ?_ | (refine ztB ?_ ?_ <;> intro _ <;> try (exfalso; omega)) | (refine ztA ?_; clear H; intro _ _ H _) | fail)
        all_goals first | (exfalso; omega) | skip
        exact ⟨q, ⟨rfl, rfl, trivial⟩, rfl, ⟨hql, h2, H⟩, by omega⟩
    · rw [if_neg h47] at hsf
      have hfin : ∀ w', Ext w w' → Value.int .i64 (p : Int) = .int .i64 (skp false (l.drop p0) p0 : Int) ∧ Ext w w' := fun w' e => ⟨by rw [hsf], e⟩
      by_cases h471 : c.toNat = 47
      · by_cases hp1 : p + 1 < l.length
        · obtain ⟨d, hd⟩ : ∃ d, l[p + 1]? = some d := ⟨_, List.getElem?_eq_getElem hp1⟩
          have hd2 : d.toNat ≠ 47 := fun e => h47 ⟨h471, by rw [hd]; simpa using e⟩
          repeat' ((conv => whnf); first | refine ztT ?_ | (refine ztB ?_ ?_ <;> intro _ <;> try (exfalso; omega)) | (refine ztA ?_; clear H; intro _ _ H _) | fail)
          all_goals first | (exfalso; omega) | skip
          all_goals exact hfin _ H.e
        · repeat' ((conv => whnf); first | refine ztT ?_ | (refine ztB ?_ ?_ <;> intro _ <;> try (exfalso; omega)) | (refine ztA ?_; clear H; intro _ _ H _) | fail)
          all_goals first | (exfalso; omega) | skip
          all_goals exact hfin _ H.e
      · repeat' ((conv => whnf); first | refine ztT ?_ | (refine ztB ?_ ?_ <;> intro _ <;> try (exfalso; omega)) | (refine ztA ?_; clear H; intro _ _ H _) | fail)
        all_goals first | (exfalso; omega) | skip
        all_goals exact hfin _ H.e
end Go.Proofs.YtfnjodpehomgfaaGreatDoor
namespace Go.Proofs.YtfnjodpehomgfaaGreatDoor
open Go Go.Sh Go.Tx
attribute [local irreducible] Blk Ext RdS
def tkV (t : Tk) : Value := .agg (wordCs t).toArray
def AllDig (s : Bs) : Prop := ∀ c ∈ s, digit c = true
structure Tb (w : World) : Prop where
  kw : RdK w
  sg : RdS (fun b : Bs => [Value.string (bs b)]) 1 w (some ⟨2, 0, none⟩) signs
  nm : RdS (fun b : Bs => [Value.string (bs b)]) 1 w (some ⟨4, 0, none⟩) opNames
  lv : ∃ As : List (Option Addr × Nat), As.length = 8 ∧ RdS (fun x : Option Addr × Nat × Nat => [Value.slice x.1 x.2.1 x.2.2]) 1 w (some ⟨6, 0, none⟩) ((As.zip levels).map fun x => (x.1.1, x.2.length, x.1.2)) ∧ ∀ x ∈ As.zip levels, RdS (fun b : Bs => [Value.string (bs b)]) 1 w x.1.1 x.2
  pn : ∀ (s : Bs) (w' : World), Ext w w' → AllDig s → s ≠ [] → s ≠ [48] → Cl Tryz.prog 108 #[.string (bs (45 :: s))] w' (fun v w'' => ∃ n e, v = .tuple #[.int .i64 n, .int .i64 e] ∧ (negOf s = some n ∧ e = 0 ∨ negOf s = none ∧ n = 0 ∧ e ≠ 0) ∧ Ext w' w'') (fun _ _ => False)
theorem Tb.ext {w w' : World} (h : Tb w) (e : Ext w w') : Tb w' := by
  obtain ⟨As, h1, h2, h3⟩ := h.lv
  exact ⟨RdS.from e h.kw, RdS.from e h.sg, RdS.from e h.nm, ⟨As, h1, RdS.from e h2, fun x hx => RdS.from e (h3 x hx)⟩, fun s w'' e' => h.pn s w'' (Ext.trans e e')⟩
theorem named_c (s : Bs) (p : Nat) (w : World) (hT : Tb w) (hl : s.length ≤ 1000000) :
    Cl Tryz.prog 88 #[.string (bs s), .int .i64 (p : Int)] w (fun v w' => v = tkV (named s p) ∧ Ext w w') (fun _ _ => False) := by
  refine calls_ex (args := [.string (bs s), .int .i64 (p : Int)]) T.ok Tryz.func88 rfl rfl rfl rfl ?_
  have H := Hp.begin nw w
  have hsz := bs_size s
  refine Sq.mk ?_
  ((conv => whnf); refine Al.hp H ?_; clear H; intro p4 _ H _)
  repeat' ((conv => whnf); first | refine ztS ?_ | (refine ztB ?_ ?_ <;> intro _ <;> try (exfalso; omega)) | (refine ztA ?_; clear H; intro _ _ H _) | fail)
  (((conv => whnf); refine Cl.mk (keyword_c s _ (hT.ext H.e).kw) ?_); rintro _ _ ⟨rfl, hx⟩; replace H := H.ext hx; clear hx)
  by_cases hk : isKw s = true
  · rw [hk]
    repeat' ((conv => whnf); first | refine ztS ?_ | (refine ztB ?_ ?_ <;> intro _ <;> try (exfalso; omega)) | (refine ztA ?_; clear H; intro _ _ H _) | fail)
    refine ⟨?_, H.e⟩
    unfold named
    rw [if_pos hk]; rfl
  · rw [Bool.eq_false_iff.2 hk]
    unfold named
    rw [if_neg hk]
    repeat' ((conv => whnf); first | refine ztS ?_ | (refine ztB ?_ ?_ <;> intro _ <;> try (exfalso; omega)) | (refine ztW ?_; clear H; intro _ _ H _) | fail)
    ((conv => whnf); refine Al.hp H ?_; clear H; intro p5 _ H _)
    by_cases h24 : 24 < s.length
    · rw [if_pos h24]
      repeat' ((conv => whnf); first | refine ztS ?_ | (refine ztB ?_ ?_ <;> intro _ <;> try (exfalso; omega)) | (refine ztA ?_; clear H; intro _ _ H _) | fail)
      all_goals first | (exfalso; omega) | skip
      exact ⟨rfl, H.e⟩
    · rw [if_neg h24]
      repeat' ((conv => whnf); first | refine ztS ?_ | (refine ztB ?_ ?_ <;> intro _ <;> try (exfalso; omega)) | (refine ztA ?_; clear H; intro _ _ H _) | fail)
      all_goals first | (exfalso; omega) | skip
      exact ⟨rfl, H.e⟩
theorem number_c (s : Bs) (p : Nat) (w : World) (hT : Tb w) (hd : AllDig s) (hne : s ≠ []) (hl : s.length ≤ 1000000) :
    Cl Tryz.prog 89 #[.string (bs s), .int .i64 (p : Int)] w (fun v w' => v = tkV (number s p) ∧ Ext w w') (fun _ _ => False) := by
  refine calls_ex (args := [.string (bs s), .int .i64 (p : Int)]) T.ok Tryz.func89 rfl rfl rfl rfl ?_
  have H := Hp.begin nw w
  have hsz := bs_size s
  refine Sq.mk ?_
  ((conv => whnf); refine Al.hp H ?_; clear H; intro p4 _ H _)
  repeat' ((conv => whnf); first | refine ztS ?_ | (refine ztB ?_ ?_ <;> intro _ <;> try (exfalso; omega)) | (refine ztW ?_; clear H; intro _ _ H _) | fail)
  ((conv => whnf); refine Al.hp H ?_; clear H; intro p5 _ H _)
  by_cases h0 : s = [48]
  · repeat' ((conv => whnf); first | refine ztT ?_ | (refine ztB ?_ ?_ <;> intro _ <;> try (exfalso; omega)) | (refine ztA ?_; clear H; intro _ _ H _) | fail)
    refine ⟨?_, H.e⟩
    have hn : negOf s = some 0 := by unfold negOf; rw [if_pos h0]
    unfold number
    rw [hn]; rfl
  · repeat' ((conv => whnf); first | refine ztT ?_ | (refine ztB ?_ ?_ <;> intro _ <;> try (exfalso; omega)) | (refine ztA ?_; clear H; intro _ _ H _) | fail)
    (conv => whnf)
    refine Sm.cat (l := [45]) (m := s) (by rw [List.length_cons, List.length_nil]; omega) ?_
    repeat' ((conv => whnf); first | refine ztT ?_ | (refine ztB ?_ ?_ <;> intro _ <;> try (exfalso; omega)) | (refine ztA ?_; clear H; intro _ _ H _) | fail)
    ((conv => whnf); refine Cl.mk (hT.pn s _ H.e hd hne h0) ?_)
    rintro _ w2 ⟨n, e, rfl, hor, ex⟩
    replace H := H.ext ex
    clear ex
    rcases hor with ⟨hn, rfl⟩ | ⟨hn, rfl, he⟩
    · unfold number
      rw [hn]
      repeat' ((conv => whnf); first | refine ztT ?_ | (refine ztB ?_ ?_ <;> intro _ <;> try (exfalso; omega)) | (refine ztA ?_; clear H; intro _ _ H _) | fail)
      all_goals first | (exfalso; omega) | skip
      exact ⟨rfl, H.e⟩
    · unfold number
      rw [hn]
      repeat' ((conv => whnf); first | refine ztT ?_ | (refine ztB ?_ ?_ <;> intro _ <;> try (exfalso; omega)) | (refine ztA ?_; clear H; intro _ _ H _) | fail)
      all_goals first | (exfalso; omega) | skip
      exact ⟨rfl, H.e⟩
theorem span_at {f : UInt8 → Bool} {l : Bs} {e : Nat} {c : UInt8} (h : l[e]? = some c) : spanN f (l.drop e) = if f c = true then spanN f (l.drop (e + 1)) + 1 else 0 := by
  obtain ⟨h1, h2⟩ := List.getElem?_eq_some_iff.1 h
  rw [List.drop_eq_getElem_cons h1, h2]; rfl
theorem span_end {f : UInt8 → Bool} {l : Bs} {e : Nat} (h : l.length ≤ e) : spanN f (l.drop e) = 0 := by rw [List.drop_of_length_le h]; rfl
theorem span_all (f : UInt8 → Bool) : ∀ l : Bs, ∀ c ∈ l.take (spanN f l), f c = true
  | [], c, h => by simp at h
  | d :: r, c, h => by
    simp only [spanN] at h
    split at h
    · rename_i hd
      simp only [List.take_succ_cons, List.mem_cons] at h
      rcases h with rfl | h
      · exact hd
      · exact span_all f r c h
    · simp at h
theorem sign_found {p : Bs → Bool} {i : Nat} {x : Bs} (h : (signs.take i).find? p = none) (hx : signs[i]? = some x) (hp : p x = true) : signs.find? p = some x := by
  obtain ⟨h1, h2⟩ := List.getElem?_eq_some_iff.1 hx
  have h3 : signs = signs.take i ++ x :: signs.drop (i + 1) := by
    rw [← h2, ← List.drop_eq_getElem_cons h1, List.take_append_drop]
  rw [h3, List.find?_append, h, Option.none_or, List.find?_cons_of_pos hp]
theorem sign_more {p : Bs → Bool} {i : Nat} {x : Bs} (h : (signs.take i).find? p = none) (hx : signs.take (i + 1) = signs.take i ++ [x]) (hp : p x = false) : (signs.take (i + 1)).find? p = none := by
  rw [hx, List.find?_append, h, Option.none_or, List.find?_cons_of_neg (by rw [hp]; simp)]; rfl
set_option maxHeartbeats 1000000 in
theorem read_c (l : Bs) (p : Nat) (w : World) (hT : Tb w) (hp : p ≤ l.length) (hl : l.length ≤ 1000000) :
    Cl Tryz.prog 59 #[.string (bs l), .int .i64 (p : Int)] w (fun v w' => v = .tuple #[tkV (readT l p).1, .int .i64 ((readT l p).2 : Int)] ∧ Ext w w') (fun _ _ => False) := by
  refine calls_ex (args := [.string (bs l), .int .i64 (p : Int)]) T.ok Tryz.func59 rfl rfl rfl rfl ?_
  have H := Hp.begin nw w
  have hsz := bs_size l
  refine Sq.mk ?_
  ((conv => whnf); refine Al.hp H ?_; clear H; intro p4 _ H _)
  repeat' ((conv => whnf); first | refine ztS ?_ | (refine ztB ?_ ?_ <;> intro _ <;> try (exfalso; omega)) | (refine ztA ?_; clear H; intro _ _ H _) | fail)
  (((conv => whnf); refine Cl.mk (skip_c l p _ hp hl) ?_); rintro _ _ ⟨rfl, hx⟩; replace H := H.ext hx; clear hx)
  obtain ⟨hr1, hr2⟩ := skp_range false (l.drop p) p
  rw [List.length_drop] at hr2
  generalize ha : skp false (l.drop p) p = a at *
  have hal : a ≤ l.length := by omega
  by_cases hlt : a < l.length
  case neg =>
    have hdn : l.drop a = [] := List.drop_of_length_le (by omega)
    have hR : readT l p = (⟨k_end, [], l.length, 0, 0⟩, l.length) := by
      unfold readT; rw [ha, hdn]
    rw [hR]
    repeat' ((conv => whnf); first | refine ztS ?_ | (refine ztB ?_ ?_ <;> intro _ <;> try (exfalso; omega)) | (refine ztA ?_; clear H; intro _ _ H _) | fail)
    all_goals first | (exfalso; omega) | skip
    refine ⟨?_, H.e⟩
    show Value.tuple #[.agg #[_, _, .int .i64 ((bs l).size : Int), _, _], .int .i64 ((bs l).size : Int)] = _
    rw [hsz]; rfl
  obtain ⟨c, hc⟩ : ∃ c, l[a]? = some c := ⟨_, List.getElem?_eq_getElem hlt⟩
  have hcr : l.drop a = c :: l.drop (a + 1) := by
    obtain ⟨h1, h2⟩ := List.getElem?_eq_some_iff.1 hc
    rw [List.drop_eq_getElem_cons h1, h2]
  have hw32 : ∀ d : UInt8, IntKind.i32.wrap (d.toNat : Int) = (d.toNat : Int) := fun d => by
    have := byte_lt d
    simp [IntKind.wrap, IntKind.signed, IntKind.bits] <;> omega
  have hlet : ∀ (d : UInt8) (w' : World), Cl Tryz.prog 69 #[.int .i32 (IntKind.i32.wrap (d.toNat : Int))] w' (fun v w'' => v = .bool (letter d) ∧ Ext w' w'') (fun _ _ => False) := fun d w' => by rw [hw32]; exact letter_c d w'
  have hdig : ∀ (d : UInt8) (w' : World), Cl Tryz.prog 70 #[.int .i32 (IntKind.i32.wrap (d.toNat : Int))] w' (fun v w'' => v = .bool (digit d) ∧ Ext w' w'') (fun _ _ => False) := fun d w' => by rw [hw32]; exact digit_c d w'
  have hR : readT l p = if letter c = true then (named ((l.drop a).take (spanN alnum (l.drop a))) a, a + spanN alnum (l.drop a)) else if digit c = true then (number ((l.drop a).take (spanN digit (l.drop a))) a, a + spanN digit (l.drop a)) else match signAt (l.drop a) with
      | some t => (⟨t, t, a, 0, 0⟩, a + t.length)
      | none => (⟨[], [], a, 0, 140⟩, a + 1) := by
    unfold readT; rw [ha, hcr]; try rfl
  rw [hR]
  clear hR
  by_cases hle : letter c = true
  · rw [if_pos hle]
    repeat' (first | ((conv => whnf); first | refine ztT ?_ | (refine ztB ?_ ?_ <;> intro _ <;> try (exfalso; omega)) | (refine ztA ?_; clear H; intro _ _ H _) | fail) | ((((conv => whnf); refine Cl.mk (hlet c _) ?_); rintro _ _ ⟨rfl, hx⟩; replace H := H.ext hx; clear hx); rw [hle]))
    all_goals first | (exfalso; omega) | skip
    refine Lp.g0 T.ok (σ := Nat) (fun e => [(6, .int .i64 (e : Int)), (1, .int .i64 (a : Int)), (0, .string (bs l)), (4, .pointer (some ⟨p4, 0, none⟩))])
      (fun e w' => a ≤ e ∧ e ≤ l.length ∧ spanN alnum (l.drop e) + (e - a) = spanN alnum (l.drop a) ∧ Hp nw w w' [bk p4 66 T.t66.zero.cells.toList]) (fun e _ => l.length - e) a rfl ⟨rfl, rfl, rfl, rfl, trivial⟩ ⟨Nat.le_refl _, hal, by omega, H⟩ ?_
    clear H
    rintro e w5 ⟨hae, hel, hsp, H⟩
    have hfin : spanN alnum (l.drop e) = 0 → e = a + spanN alnum (l.drop a) := fun h => by omega
    by_cases hlt2 : e < l.length
    · obtain ⟨d, hd⟩ : ∃ d, l[e]? = some d := ⟨_, List.getElem?_eq_getElem hlt2⟩
      have hwe : IntKind.i64.wrap ((e : Int) + 1) = ((e + 1 : Nat) : Int) := w64 rfl (by omega) (by omega)
      have hsa := span_at (f := alnum) hd
      by_cases hdl : letter d = true
      · rw [if_pos (by simp [alnum, hdl])] at hsa
        repeat' (first | ((conv => whnf); first | refine ztT ?_ | (refine ztB ?_ ?_ <;> intro _ <;> try (exfalso; omega)) | (refine ztA ?_; clear H; intro _ _ H _) | fail) | ((((conv => whnf); refine Cl.mk (hlet d _) ?_); rintro _ _ ⟨rfl, hx⟩; replace H := H.ext hx; clear hx); rw [hdl]))
        all_goals first | (exfalso; omega) | skip
        exact ⟨e + 1, ⟨at_int rfl hwe, rfl, rfl, rfl, trivial⟩, rfl, ⟨by omega, by omega, by omega, H⟩, by omega⟩
      · by_cases hdd : digit d = true
        · rw [if_pos (by simp [alnum, hdd])] at hsa
          repeat' (first | ((conv => whnf); first | refine ztT ?_ | (refine ztB ?_ ?_ <;> intro _ <;> try (exfalso; omega)) | (refine ztA ?_; clear H; intro _ _ H _) | fail) | ((((conv => whnf); refine Cl.mk (hlet d _) ?_); rintro _ _ ⟨rfl, hx⟩; replace H := H.ext hx; clear hx); rw [Bool.eq_false_iff.2 hdl]) | ((((conv => whnf); refine Cl.mk (hdig d _) ?_); rintro _ _ ⟨rfl, hx⟩; replace H := H.ext hx; clear hx); rw [hdd]))
          all_goals first | (exfalso; omega) | skip
          exact ⟨e + 1, ⟨at_int rfl hwe, rfl, rfl, rfl, trivial⟩, rfl, ⟨by omega, by omega, by omega, H⟩, by omega⟩
        · rw [if_neg (by simp [alnum, hdl, hdd])] at hsa
          have he := hfin hsa
          repeat' (first | ((conv => whnf); first | refine ztT ?_ | (refine ztB ?_ ?_ <;> intro _ <;> try (exfalso; omega)) | (refine ztA ?_; clear H; intro _ _ H _) | fail) | ((((conv => whnf); refine Cl.mk (hlet d _) ?_); rintro _ _ ⟨rfl, hx⟩; replace H := H.ext hx; clear hx); rw [Bool.eq_false_iff.2 hdl]) | ((((conv => whnf); refine Cl.mk (hdig d _) ?_); rintro _ _ ⟨rfl, hx⟩; replace H := H.ext hx; clear hx); rw [Bool.eq_false_iff.2 hdd]) | refine Sm.strcut T.ok hae hel ?_ | (((conv => whnf); refine Cl.mk (named_c ((l.drop a).take (e - a)) a _ (hT.ext H.e) (by rw [List.length_take, List.length_drop]; omega)) ?_); rintro _ _ ⟨rfl, hx⟩; replace H := H.ext hx; clear hx))
          all_goals first | (exfalso; omega) | skip
          refine ⟨?_, H.e⟩
          have hea : e - a = spanN alnum (l.drop a) := by omega
          rw [← hea]
          have he2 : a + (e - a) = e := by omega
          rw [he2]; rfl
    · have he := hfin (span_end (by omega))
      repeat' (first | ((conv => whnf); first | refine ztT ?_ | (refine ztB ?_ ?_ <;> intro _ <;> try (exfalso; omega)) | (refine ztA ?_; clear H; intro _ _ H _) | fail) | refine Sm.strcut T.ok hae hel ?_ | (((conv => whnf); refine Cl.mk (named_c ((l.drop a).take (e - a)) a _ (hT.ext H.e) (by rw [List.length_take, List.length_drop]; omega)) ?_); rintro _ _ ⟨rfl, hx⟩; replace H := H.ext hx; clear hx))
      all_goals first | (exfalso; omega) | skip
      refine ⟨?_, H.e⟩
      have hea : e - a = spanN alnum (l.drop a) := by omega
      rw [← hea]
      have he2 : a + (e - a) = e := by omega
      rw [he2]; rfl
  · rw [if_neg hle]
    have hlef := Bool.eq_false_iff.2 hle
    by_cases hdi : digit c = true
    · rw [if_pos hdi]
      repeat' (first | ((conv => whnf); first | refine ztT ?_ | (refine ztB ?_ ?_ <;> intro _ <;> try (exfalso; omega)) | (refine ztA ?_; clear H; intro _ _ H _) | fail) | ((((conv => whnf); refine Cl.mk (hlet c _) ?_); rintro _ _ ⟨rfl, hx⟩; replace H := H.ext hx; clear hx); rw [hlef]) | ((((conv => whnf); refine Cl.mk (hdig c _) ?_); rintro _ _ ⟨rfl, hx⟩; replace H := H.ext hx; clear hx); rw [hdi]))
      all_goals first | (exfalso; omega) | skip
      have hall : ∀ e, e - a = spanN digit (l.drop a) → AllDig ((l.drop a).take (e - a)) := fun e h d hd => by
        rw [h] at hd
        exact span_all digit _ d hd
      have hnn : ∀ e, e - a = spanN digit (l.drop a) → (l.drop a).take (e - a) ≠ [] := fun e h => by
        rw [h, hcr]
        simp [spanN, hdi]
      refine Lp.g0 T.ok (σ := Nat) (fun e => [(6, .int .i64 (e : Int)), (1, .int .i64 (a : Int)), (0, .string (bs l)), (4, .pointer (some ⟨p4, 0, none⟩))])
        (fun e w' => a ≤ e ∧ e ≤ l.length ∧ spanN digit (l.drop e) + (e - a) = spanN digit (l.drop a) ∧ Hp nw w w' [bk p4 66 T.t66.zero.cells.toList]) (fun e _ => l.length - e) a rfl ⟨rfl, rfl, rfl, rfl, trivial⟩ ⟨Nat.le_refl _, hal, by omega, H⟩ ?_
      clear H
      rintro e w5 ⟨hae, hel, hsp, H⟩
      have hfin : spanN digit (l.drop e) = 0 → e = a + spanN digit (l.drop a) := fun h => by omega
      by_cases hlt2 : e < l.length
      · obtain ⟨d, hd⟩ : ∃ d, l[e]? = some d := ⟨_, List.getElem?_eq_getElem hlt2⟩
        have hwe : IntKind.i64.wrap ((e : Int) + 1) = ((e + 1 : Nat) : Int) := w64 rfl (by omega) (by omega)
        have hsa := span_at (f := digit) hd
        by_cases hdd : digit d = true
        · rw [if_pos hdd] at hsa
          repeat' (first | ((conv => whnf); first | refine ztT ?_ | (refine ztB ?_ ?_ <;> intro _ <;> try (exfalso; omega)) | (refine ztA ?_; clear H; intro _ _ H _) | fail) | ((((conv => whnf); refine Cl.mk (hdig d _) ?_); rintro _ _ ⟨rfl, hx⟩; replace H := H.ext hx; clear hx); rw [hdd]))
          all_goals first | (exfalso; omega) | skip
          exact ⟨e + 1, ⟨at_int rfl hwe, rfl, rfl, rfl, trivial⟩, rfl, ⟨by omega, by omega, by omega, H⟩, by omega⟩
        · rw [if_neg hdd] at hsa
          have he := hfin hsa
          repeat' (first | ((conv => whnf); first | refine ztT ?_ | (refine ztB ?_ ?_ <;> intro _ <;> try (exfalso; omega)) | (refine ztA ?_; clear H; intro _ _ H _) | fail) | ((((conv => whnf); refine Cl.mk (hdig d _) ?_); rintro _ _ ⟨rfl, hx⟩; replace H := H.ext hx; clear hx); rw [Bool.eq_false_iff.2 hdd]) | refine Sm.strcut T.ok hae hel ?_ | (((conv => whnf); refine Cl.mk (number_c ((l.drop a).take (e - a)) a _ (hT.ext H.e) (hall e (by omega)) (hnn e (by omega)) (by rw [List.length_take, List.length_drop]; omega)) ?_); rintro _ _ ⟨rfl, hx⟩; replace H := H.ext hx; clear hx))
          all_goals first | (exfalso; omega) | skip
          refine ⟨?_, H.e⟩
          have hea : e - a = spanN digit (l.drop a) := by omega
          rw [← hea]
          have he2 : a + (e - a) = e := by omega
          rw [he2]; rfl
      · have he := hfin (span_end (by omega))
        repeat' (first | ((conv => whnf); first | refine ztT ?_ | (refine ztB ?_ ?_ <;> intro _ <;> try (exfalso; omega)) | (refine ztA ?_; clear H; intro _ _ H _) | fail) | refine Sm.strcut T.ok hae hel ?_ | (((conv => whnf); refine Cl.mk (number_c ((l.drop a).take (e - a)) a _ (hT.ext H.e) (hall e (by omega)) (hnn e (by omega)) (by rw [List.length_take, List.length_drop]; omega)) ?_); rintro _ _ ⟨rfl, hx⟩; replace H := H.ext hx; clear hx))
        all_goals first | (exfalso; omega) | skip
        refine ⟨?_, H.e⟩
        have hea : e - a = spanN digit (l.drop a) := by omega
        rw [← hea]
        have he2 : a + (e - a) = e := by omega
        rw [he2]; rfl
    · rw [if_neg hdi]
      have hdif := Bool.eq_false_iff.2 hdi
      repeat' (first | ((conv => whnf); first | refine ztT ?_ | (refine ztB ?_ ?_ <;> intro _ <;> try (exfalso; omega)) | (refine ztA ?_; clear H; intro _ _ H _) | fail) | ((((conv => whnf); refine Cl.mk (hlet c _) ?_); rintro _ _ ⟨rfl, hx⟩; replace H := H.ext hx; clear hx); rw [hlef]) | ((((conv => whnf); refine Cl.mk (hdig c _) ?_); rintro _ _ ⟨rfl, hx⟩; replace H := H.ext hx; clear hx); rw [hdif]))
      all_goals first | (exfalso; omega) | skip
      (conv => whnf)
      refine Ld.all (RdS.from H.e hT.sg) ?_
      repeat' ((conv => whnf); first | refine ztS ?_ | (refine ztB ?_ ?_ <;> intro _ <;> try (exfalso; omega)) | (refine ztA ?_; clear H; intro _ _ H _) | fail)
      refine Lp.g0 T.ok (σ := Nat) (fun i => [(81, .int .i64 (i : Int)), (80, .agg (signs.map fun b => Value.string (bs b)).toArray), (1, .int .i64 (a : Int)), (0, .string (bs l)), (4, .pointer (some ⟨p4, 0, none⟩))])
        (fun i w' => i ≤ 24 ∧ (signs.take i).find? (fun t => (l.drop a).take t.length == t) = none ∧ Hp nw w w' [bk p4 66 T.t66.zero.cells.toList]) (fun i _ => 24 - i) 0 rfl ⟨rfl, rfl, rfl, rfl, rfl, trivial⟩ ⟨Nat.zero_le _, rfl, H⟩ ?_
      clear H
      rintro i w5 ⟨hi, hno, H⟩
      have hwsub : IntKind.i64.wrap ((l.length : Int) - (a : Int)) = ((l.length - a : Nat) : Int) := w64 (by omega) (by omega) (by omega)
      have hwa1 : IntKind.i64.wrap ((a : Int) + 1) = ((a + 1 : Nat) : Int) := w64 rfl (by omega) (by omega)
      by_cases hlt2 : i < 24
      · obtain ⟨x, hx⟩ : ∃ x, signs[i]? = some x := ⟨_, List.getElem?_eq_getElem (show i < signs.length from hlt2)⟩
        obtain ⟨hx1, hx2⟩ := List.getElem?_eq_some_iff.1 hx
        have hxs : (bs x).size = x.length := bs_size x
        have hx24 : x.length ≤ 2 := by
          have : ∀ t ∈ signs, t.length ≤ 2 := by decide
          exact this x (List.mem_of_getElem? hx)
        have hwx : IntKind.i64.wrap ((a : Int) + ((bs x).size : Int)) = ((a + x.length : Nat) : Int) := w64 (by omega) (by omega) (by omega)
        have htk : (signs.take (i + 1)) = signs.take i ++ [x] := by rw [List.take_succ_eq_append_getElem hx1, hx2]
        rw [← hsz] at hwsub
        repeat' ((conv => whnf); first | refine ztT ?_ | (refine ztB ?_ ?_ <;> intro _ <;> try (exfalso; omega)) | (refine ztA ?_; clear H; intro _ _ H _) | fail)
        refine Sm.arrix T.ok (v := .string (bs x)) (by simp [hx]) hlt2 ?_
        by_cases hroom : x.length ≤ l.length - a
        · repeat' (first | ((conv => whnf); first | refine ztT ?_ | (refine ztB ?_ ?_ <;> intro _ <;> try (exfalso; omega)) | (refine ztA ?_; clear H; intro _ _ H _) | fail) | refine Sm.strcut (i := a) (j := a + x.length) T.ok (by omega) (by omega) ?_)
          · have hb : (bs ((l.drop a).take (a + x.length - a)) == bs x) = true := by assumption
            rw [Nat.add_sub_cancel_left, bs_eq] at hb
            have hs : signAt (l.drop a) = some x := sign_found hno hx (beq_iff_eq.2 (of_decide_eq_true hb))
            rw [hs]
            refine ⟨?_, H.e⟩
            show Value.tuple #[.agg #[.string (bs x), .string (bs x), .int .i64 (a : Int), _, _], .int .i64 (IntKind.i64.wrap ((a : Int) + ((bs x).size : Int)))] = _
            rw [hwx]; rfl
          · have hb : (bs ((l.drop a).take (a + x.length - a)) == bs x) = false := by assumption
            rw [Nat.add_sub_cancel_left, bs_eq] at hb
            exact ⟨i + 1, ⟨at_int (m := ((i + 1 : Nat) : Int)) rfl (w64 (by simp) (by omega) (by omega)), rfl, rfl, rfl, rfl, trivial⟩, rfl, ⟨by omega, sign_more hno htk (beq_eq_false_iff_ne.2 (of_decide_eq_false hb)), H⟩, by omega⟩
        · have hnx : ((l.drop a).take x.length == x) = false := by
            refine beq_eq_false_iff_ne.2 fun e => ?_
            have := congrArg List.length e
            rw [List.length_take, List.length_drop] at this
            omega
          repeat' ((conv => whnf); first | refine ztT ?_ | (refine ztB ?_ ?_ <;> intro _ <;> try (exfalso; omega)) | (refine ztA ?_; clear H; intro _ _ H _) | fail)
          all_goals first | (exfalso; omega) | skip
          exact ⟨i + 1, ⟨at_int (m := ((i + 1 : Nat) : Int)) rfl (w64 (by simp) (by omega) (by omega)), rfl, rfl, rfl, rfl, trivial⟩, rfl, ⟨by omega, sign_more hno htk hnx, H⟩, by omega⟩
      · have hi : i = 24 := by omega
        subst hi
        have hs : signAt (l.drop a) = none := hno
        rw [hs]
        repeat' ((conv => whnf); first | refine ztT ?_ | (refine ztB ?_ ?_ <;> intro _ <;> try (exfalso; omega)) | (refine ztA ?_; clear H; intro _ _ H _) | fail)
        refine ⟨?_, H.e⟩
        show Value.tuple #[.agg #[_, _, .int .i64 (a : Int), _, .int .i64 140], .int .i64 (IntKind.i64.wrap ((a : Int) + 1))] = _
        rw [hwa1]; rfl
end Go.Proofs.YtfnjodpehomgfaaGreatDoor
namespace Go.Sh
open Go.RowKit
inductive Mv where
  | tk (i : Nat)
  | al (i : Nat)
  | two (i j : Nat)
def apB (ops : Array Oper) (i j : Nat) : Bool := match ops[i]?, ops[j]? with
  | some x, some y => x.apart ops y && y.apart ops x && x.guard.isNone && y.guard.isNone && decide (i ≠ j)
  | _, _ => false
def scB (ops : Array Oper) : List Mv → Nat → Array Bool → Bool
  | [], g, listed => decide (g = 0) && (Region.ready .any ops listed).isEmpty
  | .tk i :: r, g, listed => decide (g ≠ 0) && (Region.ready .any ops listed).contains i && Region.free .any ops listed i && scB ops r (g - 1) (listed.setIfInBounds i true)
  | .al i :: r, g, listed => decide (g ≠ 0) && decide (Region.ready .any ops listed = [i]) && scB ops r (g - 1) (listed.setIfInBounds i true)
  | .two i j :: r, g, listed => decide (2 ≤ g) && decide (Region.ready .any ops listed = [i, j]) && apB ops i j && decide (Region.ready .any ops (listed.setIfInBounds i true) = [j]) && decide (Region.ready .any ops (listed.setIfInBounds j true) = [i]) && scB ops r (g - 2) ((listed.setIfInBounds i true).setIfInBounds j true)
def scAll (ops : Array Oper) (ms : List Mv) : Bool := Region.noSelect ops && scB ops ms ops.size (Array.replicate ops.size false)
section
variable (P : Program) (T : Tab) (n : Nat)
def stepSc (all : List Oper) (m : Mv) (_r : List Mv) (ih : Fr → World → (Fr → World → Prop) → Prop) (F : Fr) (w : World) (kk : Fr → World → Prop) : Prop :=
  match m with
  | .tk i => match all[i]? with
    | none => False
    | some o => match dstOk n o.dst with
      | false => False
      | true => match o.guard with
        | none => tkOp P T (fun _ => True) (evR o F) o (fun v => ih (F.put o.dst v) w kk)
        | some _ => False
  | .al i => match all[i]? with
    | none => False
    | some o => match dstOk n o.dst with
      | false => False
      | true => match o.guard with
        | none => exOp P T (evR o F) o w (fun v w' => ih (F.put o.dst v) w' kk) (fun _ _ => False)
        | some _ => False
  | .two i j => match all[i]? with
    | none => False
    | some x => match all[j]? with
      | none => False
      | some y => match dstOk n x.dst with
        | false => False
        | true => match dstOk n y.dst with
          | false => False
          | true => tkOp P T (fun w' => w' = w) (evR x F) x (fun v => tkOp P T (fun w' => w' = w) (evR y (F.put x.dst v)) y (fun u => ih ((F.put x.dst v).put y.dst u) w kk))
def scOps (all : List Oper) (ms : List Mv) : Fr → World → (Fr → World → Prop) → Prop :=
  List.rec (motive := fun _ => Fr → World → (Fr → World → Prop) → Prop) (fun F w k => k F w) (stepSc P T n all) ms
end
section
variable {P : Program} {T : Tab} {n : Nat}
theorem wpOp_val {ops : Array Oper} {Q : Exit → Act → World → Prop} {i : Nat} {o : Oper} {a : Act} {w : World} {v : Value} {K : Act → World → Prop} (hi : ops[i]? = some o) (hg : o.guard = none) (hr : (execOp a.eval o).run P w = .ok (.value v) w) (h : K (a.put o.dst v) w) : wpOp P ops Q i K a w := by
  unfold wpOp
  simp only [hi]
  rw [if_pos (wanted_none hg)]
  refine .inl ?_
  simp only [Oper.wp, hr, Oper.upon]
  exact h
theorem scOps_sound (hT : TabOk P T) (all : List Oper) (hsel : Region.noSelect all.toArray = true) {K : Fr → World → Prop} : ∀ (ms : List Mv) (g : Nat) (listed : Array Bool) (F : Fr) (a : Act) (w : World),
    Agr n F a → scB all.toArray ms g listed = true → scOps P T n all ms F w K → wpAny P .any all.toArray (Qn n K) g listed a w
  | [], g, listed, F, a, w, ha, hB, h => by
    simp only [scB, Bool.and_eq_true, decide_eq_true_eq] at hB
    obtain ⟨rfl, hB⟩ := hB
    exact ⟨List.isEmpty_iff.1 hB, rfl, F, ha, h⟩
  | .tk i :: r, g, listed, F, a, w, ha, hB, h => by
    have ih := scOps_sound hT all hsel (K := K) r
    change stepSc P T n all (.tk i) r (scOps P T n all r) F w K at h
    simp only [scB, Bool.and_eq_true, decide_eq_true_eq] at hB
    obtain ⟨⟨⟨hg0, h1⟩, h2⟩, h3⟩ := hB
    obtain ⟨g, rfl⟩ := Nat.exists_eq_succ_of_ne_zero hg0
    simp only [Nat.succ_eq_add_one, Nat.add_sub_cancel] at h3 ⊢
    unfold stepSc at h
    simp only at h
    split at h; · exact h.elim
    rename_i o ho
    split at h; · exact h.elim
    rename_i hd
    split at h
    · rename_i hg
      obtain ⟨v, hk, hr⟩ := tkOp_run hT h
      have ho' : all.toArray[i]? = some o := by simpa using ho
      exact wpAny_take ho' hsel h2 h1 (fun c a w q => nomatch q.1) (.inl ⟨wanted_none hg, fun w => hr a (fun x v h => ha.ev x v (evR_evF h)) w trivial⟩) (ih _ _ _ _ _ (ha.put hd v) h3 hk)
    · exact h.elim
  | .al i :: r, g, listed, F, a, w, ha, hB, h => by
    have ih := scOps_sound hT all hsel (K := K) r
    change stepSc P T n all (.al i) r (scOps P T n all r) F w K at h
    simp only [scB, Bool.and_eq_true, decide_eq_true_eq] at hB
    obtain ⟨⟨hg0, h1⟩, h3⟩ := hB
    obtain ⟨g, rfl⟩ := Nat.exists_eq_succ_of_ne_zero hg0
    simp only [Nat.succ_eq_add_one, Nat.add_sub_cancel] at h3 ⊢
    unfold stepSc at h
    simp only at h
    split at h; · exact h.elim
    rename_i o ho
    split at h; · exact h.elim
    rename_i hd
    split at h
    · rename_i hg
      have ho' : all.toArray[i]? = some o := by simpa using ho
      refine wpAny_all h1 (by simp) fun x hx => ?_
      have hxi : x = i := by simpa using hx
      subst hxi
      unfold wpOp
      simp only [ho']
      rw [if_pos (wanted_none hg)]
      exact .inl (exOp_sound hT (fun x v h => ha.ev x v (evR_evF h)) h (fun v w' q => ih _ _ _ _ _ (ha.put hd v) h3 q) (fun ch w' q => q.elim))
    · exact h.elim
  | .two i j :: r, g, listed, F, a, w, ha, hB, h => by
    have ih := scOps_sound hT all hsel (K := K) r
    change stepSc P T n all (.two i j) r (scOps P T n all r) F w K at h
    simp only [scB, Bool.and_eq_true, decide_eq_true_eq] at hB
    obtain ⟨⟨⟨⟨⟨hg2, h1⟩, hap⟩, h4⟩, h5⟩, h3⟩ := hB
    obtain ⟨g, rfl⟩ : ∃ g', g = g' + 2 := ⟨g - 2, by omega⟩
    simp only [Nat.add_sub_cancel] at h3
    unfold stepSc at h
    simp only at h
    split at h; · exact h.elim
    rename_i x hx
    split at h; · exact h.elim
    rename_i y hy
    split at h; · exact h.elim
    rename_i hdx
    split at h; · exact h.elim
    rename_i hdy
    have hx' : all.toArray[i]? = some x := by simpa using hx
    have hy' : all.toArray[j]? = some y := by simpa using hy
    unfold apB at hap
    rw [hx', hy'] at hap
    simp only [Bool.and_eq_true, Option.isNone_iff_eq_none, decide_eq_true_eq] at hap
    obtain ⟨⟨⟨⟨a1, a2⟩, gx⟩, gy⟩, hij⟩ := hap
    obtain ⟨v, hk, hr⟩ := tkOp_run hT h
    obtain ⟨u, hk2, hr2⟩ := tkOp_run hT hk
    have hax := ha.put hdx v
    have r1 := hr a (fun x v h => ha.ev x v (evR_evF h)) w rfl
    have r2 := hr2 (a.put x.dst v) (fun x v h => hax.ev x v (evR_evF h)) w rfl
    obtain ⟨p1, p2, p3⟩ := Oper.apart_spec a1
    obtain ⟨q1, q2, q3⟩ := Oper.apart_spec a2
    have sx := fun cs b => Region.noSelect_spec hsel i x cs b hx'
    have sy := fun cs b => Region.noSelect_spec hsel j y cs b hy'
    have fin := ih _ _ _ _ _ (hax.put hdy u) h3 hk2
    have r2' : (execOp a.eval y).run P w = .ok (.value u) w := by
      rw [← execOp_put (ops := all.toArray) y sy a x.dst v p1]; exact r2
    have r1' : (execOp (a.put y.dst u).eval x).run P w = .ok (.value v) w := by
      rw [execOp_put (ops := all.toArray) x sx a y.dst u q1]; exact r1
    refine wpAny_all h1 (by simp) fun z hz => ?_
    rcases List.mem_cons.1 hz with rfl | hz
    · refine wpOp_val hx' gx r1 ?_
      refine wpAny_all h4 (by simp) fun z' hz' => ?_
      have : z' = j := by simpa using hz'
      subst this
      exact wpOp_val hy' gy r2 fin
    · have : z = j := by simpa using hz
      subst this
      refine wpOp_val hy' gy r2' ?_
      refine wpAny_all h5 (by simp) fun z' hz' => ?_
      have : z' = i := by simpa using hz'
      subst this
      refine wpOp_val hx' gx r1' ?_
      rw [Array.setIfInBounds_comm _ _ ?_, Act.put_comm a u v q2]
      · exact fin
      · first | exact hij | exact hij.symm
theorem QW.one {w : World} : QW (fun w' => w' = w) w (fun a b => b = a) := ⟨fun w' q => q ▸ Ext.refl w, fun a b q r => r.trans q⟩
theorem Dr.scr (hT : TabOk P T) (hm : P.follows .mixedOrders = true) (ms : List Mv) {id : Nat} {ops : Array Oper} {F : Fr} {w : World} {K : Exit → Fr → World → Prop} (hB : scAll ops ms = true)
    (h : ∀ w1, Ext w w1 → w1.heap.size = w.heap.size → scOps P T n ops.toList ms F w1 (fun F w => K .normal F w)) : Dr P n id ops F w K := by
  refine ⟨fun a ha => ?_⟩
  obtain ⟨l⟩ := ops
  simp only [scAll, Bool.and_eq_true] at hB
  have e1 : Ext w { w with drawn := w.drawn + 1 } := ⟨rfl, rfl, rfl, Nat.le_refl _, fun _ _ => rfl⟩
  have H := scOps_sound hT l hB.1 ms _ _ F a { w with drawn := w.drawn + 1 } ha hB.2 (h _ e1 rfl)
  refine wp_region_any hm ?_
  refine wpAny_monoQ (fun a w q => ?_) (fun c a w q => ?_) (fun a w q => ?_) _ _ _ _ H
  · exact q.2
  · exact nomatch q.1
  · exact nomatch q.1
end
end Go.Sh
namespace Go.Proofs.YtfnjodpehomgfaaGreatDoor
open Go Go.Sh Go.Tx
attribute [local irreducible] Blk Ext RdS
theorem mixed : Tryz.prog.follows .mixedOrders = true := by kernel_rfl
theorem fail_c (pr : Nat) (e p : Int) (w : World) : Cl Tryz.prog 60 #[.pointer (some ⟨pr, 0, none⟩), .int .i64 e, .int .i64 p] w (fun _ _ => False) (fun ch w' => ∃ q, ch = pk q ∧ Hp nw w w' [bk q 63 [.int .i64 e, .int .i64 p]]) := by
  refine calls_ex (args := [.pointer (some ⟨pr, 0, none⟩), .int .i64 e, .int .i64 p]) T.ok Tryz.func60 rfl rfl rfl rfl ?_
  have H := Hp.begin nw w
  repeat' ((conv => whnf); first | refine ztS ?_ | (refine ztB ?_ ?_ <;> intro _ <;> try (exfalso; omega)) | (refine ztW ?_; clear H; intro _ _ H _) | fail)
  ((conv => whnf); refine Al.hp H ?_; clear H; intro q _ H _)
  repeat' ((conv => whnf); first | refine ztS ?_ | (refine ztB ?_ ?_ <;> intro _ <;> try (exfalso; omega)) | (refine ztA ?_; clear H; intro _ _ H _) | fail)
  exact ⟨q, rfl, H⟩
theorem step_c (m : Bool) (src : Bs) (pr : Nat) (ts : List Tk) (wb w : World) (hwb : Ext wb w) (hlo : wb.heap.size ≤ pr) (hT : Tb wb) (hl : src.length ≤ 1000000) (h : Rdr src pr ts w) (hk : curK ts ≠ k_end) :
    Cl Tryz.prog 33 #[.pointer (some ⟨pr, 0, none⟩), .bool m] w (fun _ w' => ∃ ts', stepP m ts = .ok () ts' ∧ Hp (· = pr) w w' [rdr src pr ts']) (PanX (stepP m ts) pr w) := by
  obtain ⟨nx, t, r, rfl, hnx, hr, hb⟩ := h
  have hr := hr.1 hk
  obtain ⟨r2, hw, hr2⟩ := words_at src hnx
  obtain ⟨had, _, _⟩ := read_adv src hnx
  have hrl : r2.length ≤ src.length + 1 := by
    have h1 := words_len src (src.length + 1 - nx) nx
    rw [hw, List.length_cons] at h1
    omega
  rw [hw] at hr
  subst hr
  have hrn := read_n src nx
  have hrd := fun w' e => read_c src nx w' (hT.ext e) hnx hl
  generalize hq : readT src nx = rq at *
  obtain ⟨t', q⟩ := rq
  simp only at hr2 had hrd hrn ⊢
  have HB : BaseOk (· = pr) wb w := ⟨hwb, fun k hk => by subst hk; exact hlo⟩
  refine calls_ex (args := [.pointer (some ⟨pr, 0, none⟩), .bool m]) T.ok Tryz.func33 rfl rfl rfl rfl ?_
  have H := Hp.start (S := (· = pr)) (bk_ok hb) (fun k hk => hk)
  repeat' ((conv => whnf); first | refine ztS ?_ | (refine ztB ?_ ?_ <;> intro _ <;> try (exfalso; omega)) | (refine ztA ?_; clear H; intro _ _ H _) | fail)
  (conv => whnf)
  refine Dr.scr T.ok mixed [.tk 0, .tk 1, .tk 2, .tk 3, .tk 4, .tk 6, .tk 7, .tk 8, .two 5 9, .al 10, .tk 11, .tk 12, .tk 13, .tk 14, .tk 15, .al 16, .tk 17, .tk 18, .al 19] (by kernel_rfl) (fun w1 eT _ => ?_)
  replace H := H.ext eT
  clear eT
  repeat' ((conv => whnf); first | refine ztQ ?_ | (refine ztB ?_ ?_ <;> intro _ <;> try (exfalso; omega)) | fail)
  ((conv => whnf); refine Cl.mk (hrd _ (H.base2 HB)) ?_)
  rintro _ w2 ⟨rfl, ex⟩
  replace H := H.ext ex
  clear ex
  have hsame : curT (t' :: r2) = t' := rfl
  by_cases he : t'.err = 0
  case neg =>
    have hR : stepP m (t :: t' :: r2) = .err t'.err t'.at_ := by simp only [stepP]; rw [if_pos he]
    rw [hR]
    repeat' ((conv => whnf); first | refine ztS ?_ | (refine ztB ?_ ?_ <;> intro _ <;> try (exfalso; omega)) | (refine ztA ?_; clear H; intro _ _ H _) | fail)
    all_goals first | (exfalso; omega) | skip
    (conv => whnf)
    refine Dr.tail T.ok mixed 11 (by kernel_rfl) (fun W w0 hW eT _ => ?_)
    repeat' ((conv => whnf); first | refine ztQ ?_ | (refine ztB ?_ ?_ <;> intro _ <;> try (exfalso; omega)) | fail)
    (conv => whnf)
    replace H := H.ext eT
    refine Cl.mkX (fail_c pr t'.err t'.at_ _) (fun _ _ h => h.elim) ?_
    rintro ch w5 ⟨q5, rfl, H'⟩
    exact ⟨t'.err, t'.at_, q5, rfl, rfl, (H.fr0 H' (.inl rfl)).sel [0] rfl⟩
  have hfix : ∀ w', Hp (· = pr) w w' [bk pr 68 (rdrCs src q t')] → Hp (· = pr) w w' [bk pr 68 (rdrCs src q t')] := fun _ h => h
  have hrd2 : ∀ w', Hp (· = pr) w w' [bk pr 68 (rdrCs src q t')] → Hp (· = pr) w w' [rdr src pr (t' :: r2)] := fun w' H => by
    have hb2 := H.blk 0 rfl
    exact Hp.upd (c := bk pr 68 (rdrCs src q t')) H (Hp.start (S := (· = pr)) (rdr_ok ⟨q, t', r2, rfl, had, ⟨fun hk' => hr2 he hk', hrl, hrn⟩, hb2⟩) (fun k hk => hk)) rfl (.inl rfl)
  by_cases hL : t'.kind = k_number ∧ t'.n = -9223372036854775808 ∧ m = false
  · have hR : stepP m (t :: t' :: r2) = .err 143 t'.at_ := by simp only [stepP]; rw [if_neg (fun h => h he), if_pos hL]
    rw [hR]
    obtain ⟨hL1, hL2, rfl⟩ := hL
    repeat' ((conv => whnf); first | refine ztT ?_ | (refine ztB ?_ ?_ <;> intro _ <;> try (exfalso; omega)) | (refine ztA ?_; clear H; intro _ _ H _) | fail)
    all_goals first | (exfalso; omega) | skip
    (conv => whnf)
    refine Cl.mkX (fail_c pr 143 t'.at_ _) (fun _ _ h => h.elim) ?_
    rintro ch w5 ⟨q5, rfl, H'⟩
    exact ⟨143, t'.at_, q5, rfl, rfl, (H.fr0 H' (.inl rfl)).sel [0] rfl⟩
  · have hR : stepP m (t :: t' :: r2) = .ok () (t' :: r2) := by simp only [stepP]; rw [if_neg (fun h => h he), if_neg hL]
    rw [hR]
    by_cases hL1 : t'.kind = k_number
    · by_cases hL2 : t'.n = -9223372036854775808
      · have hm : m = true := by
          cases m with
          | true => rfl
          | false => exact absurd ⟨hL1, hL2, rfl⟩ hL
        subst hm
        repeat' ((conv => whnf); first | refine ztT ?_ | (refine ztB ?_ ?_ <;> intro _ <;> try (exfalso; omega)) | (refine ztA ?_; clear H; intro _ _ H _) | fail)
        all_goals first | (exfalso; omega) | skip
        exact ⟨t' :: r2, rfl, hrd2 _ H⟩
      · repeat' ((conv => whnf); first | refine ztT ?_ | (refine ztB ?_ ?_ <;> intro _ <;> try (exfalso; omega)) | (refine ztA ?_; clear H; intro _ _ H _) | fail)
        all_goals first | (exfalso; omega) | skip
        exact ⟨t' :: r2, rfl, hrd2 _ H⟩
    · repeat' ((conv => whnf); first | refine ztT ?_ | (refine ztB ?_ ?_ <;> intro _ <;> try (exfalso; omega)) | (refine ztA ?_; clear H; intro _ _ H _) | fail)
      all_goals first | (exfalso; omega) | skip
      exact ⟨t' :: r2, rfl, hrd2 _ H⟩
theorem Hp.toR {S : Nat → Prop} {w0 w : World} {Γ Γ' : List Ck} {src : Bs} {pr nx : Nat} {t : Tk} {r : List Tk} (H : Hp S w0 w Γ) (h1 : nx ≤ src.length) (h2 : (t.kind ≠ k_end → r = words src (src.length + 1 - nx) nx) ∧ r.length ≤ src.length + 1 ∧ -9223372036854775808 ≤ t.n ∧ t.n ≤ 0)
    (u : Upd1 Γ (bk pr 68 (rdrCs src nx t)) (rdr src pr (t :: r)) Γ' := by (repeat (first | exact Upd1.head | apply Upd1.tail))) : Hp S w0 w Γ' := by
  obtain ⟨L, R, h3, rfl⟩ := u.sp
  have hb : Blk w pr 68 (rdrCs src nx t) := H.mem (c := bk pr 68 (rdrCs src nx t)) (by rw [h3.eq]; simp)
  exact H.putS h3 (Hp.start (S := (· = pr)) (rdr_ok ⟨nx, t, r, rfl, h1, h2, hb⟩) (fun k hk => hk)) rfl (.inl rfl)
theorem deep_c (d : Int) (src : Bs) (pr : Nat) (ts : List Tk) (dn : Nat) (hd : d = (dn : Int)) (w : World) (h : Rdr src pr ts w) :
    Cl Tryz.prog 109 #[.pointer (some ⟨pr, 0, none⟩), .int .i64 d] w (fun _ w' => deepP dn ts = .ok () ts ∧ Ext w w') (PanX (deepP dn ts) pr w) := by
  obtain ⟨nx, t, r, rfl, hnx, hr, hb⟩ := h
  subst hd
  refine calls_ex (args := [.pointer (some ⟨pr, 0, none⟩), .int .i64 (dn : Int)]) T.ok Tryz.func109 rfl rfl rfl rfl ?_
  have H := Hp.start (S := (· = pr)) (bk_ok hb) (fun k hk => hk)
  by_cases h40 : 40 < dn
  · have hR : deepP dn (t :: r) = .err 144 t.at_ := by unfold deepP; rw [if_pos h40]; rfl
    rw [hR]
    repeat' ((conv => whnf); first | refine ztS ?_ | (refine ztB ?_ ?_ <;> intro _ <;> try (exfalso; omega)) | (refine ztA ?_; clear H; intro _ _ H _) | fail)
    all_goals first | (exfalso; omega) | skip
    (conv => whnf)
    refine Cl.mkX (fail_c pr 144 t.at_ _) (fun _ _ h => h.elim) ?_
    rintro ch w5 ⟨q5, rfl, H'⟩
    exact ⟨144, t.at_, q5, rfl, rfl, (H.fr0 H' (.inl rfl)).sel [0] rfl⟩
  · have hR : deepP dn (t :: r) = .ok () (t :: r) := by unfold deepP; rw [if_neg h40]
    rw [hR]
    have H0 := Hp.begin nw w
    repeat' ((conv => whnf); first | refine ztS ?_ | (refine ztB ?_ ?_ <;> intro _ <;> try (exfalso; omega)) | (refine ztA ?_; clear H; intro _ _ H _) | fail)
    all_goals first | (exfalso; omega) | skip
    exact ⟨rfl, H0.e⟩
theorem curK_cons (t : Tk) (r : List Tk) : curK (t :: r) = t.kind := rfl
theorem take_c (k : Bs) (src : Bs) (pr : Nat) (ts : List Tk) (wb w : World) (hwb : Ext wb w) (hlo : wb.heap.size ≤ pr) (hT : Tb wb) (hl : src.length ≤ 1000000) (h : Rdr src pr ts w) (hk : k ≠ k_end) :
    Cl Tryz.prog 61 #[.pointer (some ⟨pr, 0, none⟩), .string (bs k)] w (fun v w' => ∃ t ts', takeP k ts = .ok t ts' ∧ v = tkV t ∧ Hp (· = pr) w w' [rdr src pr ts']) (PanX (takeP k ts) pr w) := by
  have h0 := h
  obtain ⟨nx, t, r, rfl, hnx, hr, hb⟩ := h0
  have HB : BaseOk (· = pr) wb w := ⟨hwb, fun k hk => by subst hk; exact hlo⟩
  refine calls_ex (args := [.pointer (some ⟨pr, 0, none⟩), .string (bs k)]) T.ok Tryz.func61 rfl rfl rfl rfl ?_
  have H := Hp.start (S := (· = pr)) (bk_ok hb) (fun k hk => hk)
  refine Sq.mk ?_
  ((conv => whnf); refine Al.hp H ?_; clear H; intro p4 _ H _)
  repeat' ((conv => whnf); first | refine ztS ?_ | (refine ztB ?_ ?_ <;> intro _ <;> try (exfalso; omega)) | (refine ztW ?_; clear H; intro _ _ H _) | fail)
  ((conv => whnf); refine Al.hp H ?_; clear H; intro p5 _ H _)
  by_cases hne : t.kind = k
  · have hR : takeP k (t :: r) = (stepP false (t :: r)).bind fun _ ts' => .ok t ts' := by
      unfold takeP
      rw [if_neg (by rw [curK_cons, hne]; simp)]; rfl
    rw [hR]
    repeat' ((conv => whnf); first | refine ztT ?_ | (refine ztB ?_ ?_ <;> intro _ <;> try (exfalso; omega)) | (refine ztA ?_; clear H; intro _ _ H _) | fail)
    replace H := Hp.toR H hnx hr
    (conv => whnf)
    refine Cl.mkX (step_c false src pr (t :: r) wb _ (H.base2 HB) hlo hT hl (H.atC 2 rfl) (by rw [curK_cons, hne]; exact hk)) ?_ ?_
    · rintro _ w2 ⟨ts', h1, H'⟩
      replace H := H.upd (c := rdr src pr (t :: r)) H' rfl (.inl rfl)
      repeat' ((conv => whnf); first | refine ztT ?_ | (refine ztB ?_ ?_ <;> intro _ <;> try (exfalso; omega)) | (refine ztA ?_; clear H; intro _ _ H _) | fail)
      exact ⟨t, ts', by rw [h1]; rfl, rfl, H.sel [2] rfl⟩
    · rintro ch w2 ⟨e, p, q, h1, rfl, H'⟩
      exact ⟨e, p, q, by rw [h1]; rfl, rfl, Hp.pan H H' (.inl rfl)⟩
  · have hR : takeP k (t :: r) = .err 141 t.at_ := by
      unfold takeP
      rw [if_pos (by rw [curK_cons]; exact hne)]; rfl
    rw [hR]
    repeat' ((conv => whnf); first | refine ztT ?_ | (refine ztB ?_ ?_ <;> intro _ <;> try (exfalso; omega)) | (refine ztA ?_; clear H; intro _ _ H _) | fail)
    (conv => whnf)
    refine Cl.mkX (fail_c pr 141 t.at_ _) (fun _ _ h => h.elim) ?_
    rintro ch w5 ⟨q5, rfl, H'⟩
    exact ⟨141, t.at_, q5, rfl, rfl, (H.fr0 H' (.inl rfl)).sel [0] rfl⟩
end Go.Proofs.YtfnjodpehomgfaaGreatDoor
namespace Go.Proofs.YtfnjodpehomgfaaGreatDoor
open Go Go.Sh Go.Tx
attribute [local irreducible] Blk Ext RdS
theorem find_c (s : Bs) (w : World) (hT : Tb w) : Cl Tryz.prog 146 #[.string (bs s)] w (fun v w' => v = .int .i64 (findOp s) ∧ Ext w w') (fun _ _ => False) := by
  refine calls_ex (args := [.string (bs s)]) T.ok Tryz.func146 rfl rfl rfl rfl ?_
  have H := Hp.begin nw w
  repeat' ((conv => whnf); first | refine ztS ?_ | (refine ztB ?_ ?_ <;> intro _ <;> try (exfalso; omega)) | (refine ztA ?_; clear H; intro _ _ H _) | fail)
  (conv => whnf)
  refine Ld.all hT.nm ?_
  repeat' ((conv => whnf); first | refine ztS ?_ | (refine ztB ?_ ?_ <;> intro _ <;> try (exfalso; omega)) | (refine ztA ?_; clear H; intro _ _ H _) | fail)
  refine Lp.g0 T.ok (σ := Nat) (fun i => [(6, .int .i64 (i : Int)), (5, .agg (opNames.map fun b => Value.string (bs b)).toArray), (0, .string (bs s))])
    (fun i w' => i ≤ 16 ∧ findAux s (opNames.drop i) i = findOp s ∧ Hp nw w w' []) (fun i _ => 16 - i) 0 rfl ⟨rfl, rfl, rfl, trivial⟩ ⟨Nat.zero_le _, rfl, H⟩ ?_
  clear H
  rintro i w5 ⟨hi, hc, H⟩
  by_cases hlt : i < 16
  · obtain ⟨x, hx⟩ : ∃ x, opNames[i]? = some x := ⟨_, List.getElem?_eq_getElem (show i < opNames.length from hlt)⟩
    obtain ⟨hx1, hx2⟩ := List.getElem?_eq_some_iff.1 hx
    rw [List.drop_eq_getElem_cons hx1, hx2] at hc
    simp only [findAux] at hc
    repeat' ((conv => whnf); first | refine ztS ?_ | (refine ztB ?_ ?_ <;> intro _ <;> try (exfalso; omega)) | (refine ztA ?_; clear H; intro _ _ H _) | fail)
    refine Sm.arrix T.ok (v := .string (bs x)) (by simp [hx]) hlt ?_
    repeat' ((conv => whnf); first | refine ztS ?_ | (refine ztB ?_ ?_ <;> intro _ <;> try (exfalso; omega)) | (refine ztA ?_; clear H; intro _ _ H _) | fail)
    · have hb : (bs x == bs s) = true := by assumption
      rw [bs_eq] at hb
      rw [if_pos (of_decide_eq_true hb)] at hc
      exact ⟨by rw [← hc]; rfl, H.e⟩
    · have hb : (bs x == bs s) = false := by assumption
      rw [bs_eq] at hb
      rw [if_neg (of_decide_eq_false hb)] at hc
      exact ⟨i + 1, ⟨at_int (m := ((i + 1 : Nat) : Int)) rfl (w64 (by simp) (by omega) (by omega)), rfl, rfl, trivial⟩, rfl, ⟨by omega, hc, H⟩, by omega⟩
  · have hi : i = 16 := by omega
    subst hi
    repeat' ((conv => whnf); first | refine ztS ?_ | (refine ztB ?_ ?_ <;> intro _ <;> try (exfalso; omega)) | (refine ztA ?_; clear H; intro _ _ H _) | fail)
    exact ⟨by rw [← hc]; rfl, H.e⟩
theorem stands_c (level : Nat) (src : Bs) (pr : Nat) (ts : List Tk) (w : World) (hT : Tb w) (hlv : level < 8) (h : Rdr src pr ts w) :
    Cl Tryz.prog 131 #[.pointer (some ⟨pr, 0, none⟩), .int .i64 (level : Int)] w (fun v w' => v = .bool (standsB level (curK ts)) ∧ Ext w w') (fun _ _ => False) := by
  obtain ⟨nx, t, r, rfl, hnx, hr, hb⟩ := h
  obtain ⟨As, hAl, hR, hE⟩ := hT.lv
  obtain ⟨⟨A, ca⟩, hA⟩ : ∃ x, As[level]? = some x := ⟨_, List.getElem?_eq_getElem (by omega)⟩
  obtain ⟨lv, hl⟩ : ∃ x, levels[level]? = some x := ⟨_, List.getElem?_eq_getElem (show level < levels.length from hlv)⟩
  have hz : (As.zip levels)[level]? = some ((A, ca), lv) := by rw [List.getElem?_zip_eq_some]; exact ⟨hA, hl⟩
  have hm : ((As.zip levels).map fun x => (x.1.1, x.2.length, x.1.2))[level]? = some (A, lv.length, ca) := by rw [List.getElem?_map, hz]; rfl
  have hzl : ((As.zip levels).map fun x => (x.1.1, x.2.length, x.1.2)).length = 8 := by
    rw [List.length_map, List.length_zip, hAl]; rfl
  have hll : level < ((As.zip levels).map fun x => (x.1.1, x.2.length, x.1.2)).length := by omega
  have hE1 := hE _ (List.mem_of_getElem? hz)
  simp only at hE1
  have hst : standsB level (curK (t :: r)) = lv.contains t.kind := by unfold standsB; rw [hl]; rfl
  rw [hst]
  have hlv4 : lv.length ≤ 4 := by
    have : ∀ l ∈ levels, l.length ≤ 4 := by decide
    exact this lv (List.mem_of_getElem? hl)
  refine calls_ex (args := [.pointer (some ⟨pr, 0, none⟩), .int .i64 (level : Int)]) T.ok Tryz.func131 rfl rfl rfl rfl ?_
  have H := Hp.start (S := (· = pr)) (bk_ok hb) (fun k hk => hk)
  have H0 := (Hp.begin nw w).e
  repeat' ((conv => whnf); first | refine ztT ?_ | (refine ztB ?_ ?_ <;> intro _ <;> try (exfalso; omega)) | (refine ztA ?_; clear H; intro _ _ H _) | fail)
  refine Lp.g0 T.ok (σ := Nat) (fun i => [(11, .int .i64 (i : Int)), (10, .int .i64 (lv.length : Int)), (9, .slice A lv.length ca), (0, .pointer (some ⟨pr, 0, none⟩))])
    (fun i w' => i ≤ lv.length ∧ (lv.take i).contains t.kind = false ∧ w' = w) (fun i _ => lv.length - i) 0 rfl ⟨rfl, rfl, rfl, rfl, trivial⟩ ⟨Nat.zero_le _, rfl, rfl⟩ ?_
  rintro i _ ⟨hi, hc, rfl⟩
  by_cases hlt : i < lv.length
  · obtain ⟨x, hx⟩ : ∃ x, lv[i]? = some x := ⟨_, List.getElem?_eq_getElem hlt⟩
    have hst := contains_step (s := t.kind) hx
    repeat' ((conv => whnf); first | refine ztT ?_ | (refine ztB ?_ ?_ <;> intro _ <;> try (exfalso; omega)) | (refine ztA ?_; clear H; intro _ _ H _) | fail)
    · have hb : (bs t.kind == bs x) = true := by assumption
      rw [bs_eq] at hb
      refine ⟨b_eq ?_, H0⟩
      have hm : t.kind ∈ lv := by rw [of_decide_eq_true hb]; exact List.mem_of_getElem? hx
      exact (List.contains_iff_mem.2 hm).symm
    · have hb : (bs t.kind == bs x) = false := by assumption
      rw [bs_eq] at hb
      refine ⟨i + 1, ⟨at_int (m := ((i + 1 : Nat) : Int)) rfl (w64 (by simp) (by omega) (by omega)), rfl, rfl, rfl, trivial⟩, rfl, ⟨by omega, ?_, rfl⟩, by omega⟩
      rw [hst, hc, Bool.false_or]
      exact beq_eq_false_iff_ne.2 fun e => of_decide_eq_false hb e.symm
  · rw [List.take_of_length_le (by omega)] at hc
    repeat' ((conv => whnf); first | refine ztT ?_ | (refine ztB ?_ ?_ <;> intro _ <;> try (exfalso; omega)) | (refine ztA ?_; clear H; intro _ _ H _) | fail)
    exact ⟨b_eq hc.symm, H0⟩
theorem et_v {v : Value} {kd o n : Int} {nm cb : Bs} {A : Option Addr} {c : Nat} {l : List ET} (h : v = .agg #[.int .i64 kd, .int .i64 o, .int .i64 n, .string (bs nm), .string (bs cb), .slice A l.length c]) : v = ET.v (.mk kd o n nm cb A c l) := h
theorem join_c (s : Bs) (x y : ET) (w : World) (hT : Tb w) :
    Cl Tryz.prog 132 #[.string (bs s), x.v, y.v] w (fun v w' => ∃ kd o A c, v = ET.v (.mk kd o 0 [] [] A c [x, y]) ∧ joinP s x.e y.e = ET.e (.mk kd o 0 [] [] A c [x, y]) ∧ Hp nw w w' [qu ET.enc 6 74 A c [x, y]]) (fun _ _ => False) := by
  obtain ⟨k1, o1, n1, a1, b1, A1, c1, l1⟩ := x
  obtain ⟨k2, o2, n2, a2, b2, A2, c2, l2⟩ := y
  generalize hx : ET.mk k1 o1 n1 a1 b1 A1 c1 l1 = x
  generalize hy : ET.mk k2 o2 n2 a2 b2 A2 c2 l2 = y
  have hvx : x.v = .agg #[.int .i64 k1, .int .i64 o1, .int .i64 n1, .string (bs a1), .string (bs b1), .slice A1 l1.length c1] := by rw [← hx]; rfl
  have hvy : y.v = .agg #[.int .i64 k2, .int .i64 o2, .int .i64 n2, .string (bs a2), .string (bs b2), .slice A2 l2.length c2] := by rw [← hy]; rfl
  rw [hvx, hvy]
  refine calls_ex (args := [.string (bs s), .agg #[.int .i64 k1, .int .i64 o1, .int .i64 n1, .string (bs a1), .string (bs b1), .slice A1 l1.length c1], .agg #[.int .i64 k2, .int .i64 o2, .int .i64 n2, .string (bs a2), .string (bs b2), .slice A2 l2.length c2]]) T.ok Tryz.func132 rfl rfl rfl rfl ?_
  have H := Hp.begin nw w
  refine Sq.mk ?_
  ((conv => whnf); refine Al.hp H ?_; clear H; intro p4 _ H _)
  ((conv => whnf); refine Al.hp H ?_; clear H; intro p5 _ H _)
  repeat' ((conv => whnf); first | refine ztS ?_ | (refine ztB ?_ ?_ <;> intro _ <;> try (exfalso; omega)) | (refine ztW ?_; clear H; intro _ _ H _) | fail)
  ((conv => whnf); refine Al.hp H ?_; clear H; intro p6 _ H _)
  repeat' ((conv => whnf); first | refine ztS ?_ | (refine ztB ?_ ?_ <;> intro _ <;> try (exfalso; omega)) | (refine ztA ?_; clear H; intro _ _ H _) | fail)
  (conv => whnf)
  refine Sm.lith (cs := [.int .i64 k1, .int .i64 o1, .int .i64 n1, .string (bs a1), .string (bs b1), .slice A1 l1.length c1, .int .i64 k2, .int .i64 o2, .int .i64 n2, .string (bs a2), .string (bs b2), .slice A2 l2.length c2]) H T.ok (fun p1 w1 H _ => ?_)
  have hfix : ∀ w', Hp nw w w' [bk p1 74 [.int .i64 k1, .int .i64 o1, .int .i64 n1, .string (bs a1), .string (bs b1), .slice A1 l1.length c1, .int .i64 k2, .int .i64 o2, .int .i64 n2, .string (bs a2), .string (bs b2), .slice A2 l2.length c2]] → Hp nw w w' [qu ET.enc 6 74 (some ⟨p1, 0, none⟩) 2 [x, y]] := fun w' H => by
    have H1 : Hp nw w w' [bk p1 74 ([x, y].flatMap ET.enc)] := by rw [← hx, ← hy]; exact H
    exact Hp.bq (sz := 6) H1 (fun z _ => ET.enc_len z)
  by_cases h1 : s = s_andd
  · repeat' ((conv => whnf); first | refine ztT ?_ | (refine ztB ?_ ?_ <;> intro _ <;> try (exfalso; omega)) | (refine ztA ?_; clear H; intro _ _ H _) | fail)
    refine ⟨8, 0, some ⟨p1, 0, none⟩, 2, et_v rfl, ?_, hfix _ (H.sel [0] rfl)⟩
    unfold joinP; rw [if_pos h1]; rfl
  · by_cases h2 : s = s_orr
    · repeat' ((conv => whnf); first | refine ztT ?_ | (refine ztB ?_ ?_ <;> intro _ <;> try (exfalso; omega)) | (refine ztA ?_; clear H; intro _ _ H _) | fail)
      refine ⟨9, 0, some ⟨p1, 0, none⟩, 2, et_v rfl, ?_, hfix _ (H.sel [0] rfl)⟩
      unfold joinP; rw [if_neg h1, if_pos h2]; rfl
    · repeat' (first | ((conv => whnf); first | refine ztT ?_ | (refine ztB ?_ ?_ <;> intro _ <;> try (exfalso; omega)) | (refine ztA ?_; clear H; intro _ _ H _) | fail) | (((conv => whnf); refine Cl.mk (find_c s _ (hT.ext H.e)) ?_); rintro _ _ ⟨rfl, hx⟩; replace H := H.ext hx; clear hx))
      refine ⟨4, findOp s, some ⟨p1, 0, none⟩, 2, et_v rfl, ?_, hfix _ (H.sel [0] rfl)⟩
      unfold joinP; rw [if_neg h1, if_neg h2]; rfl
end Go.Proofs.YtfnjodpehomgfaaGreatDoor
namespace Go.Proofs.YtfnjodpehomgfaaGreatDoor
open Go Go.Sh Go.Tx
attribute [local irreducible] Blk Ext RdS
def OkE (src : Bs) (pr : Nat) (R : Res Ex) (w : World) (v : Value) (w' : World) : Prop := ∃ t ts', R = .ok (ET.e t) ts' ∧ v = t.v ∧ Hp (· = pr) w w' [trs [t], rdr src pr ts']
def OkL (src : Bs) (pr : Nat) (R : Res (List Ex)) (w : World) (v : Value) (w' : World) : Prop := ∃ A c l ts', R = .ok (ET.es l) ts' ∧ v = .slice A l.length c ∧ l.length ≤ 2000000 ∧ Hp (· = pr) w w' [qu ET.enc 6 74 A c l, trs l, rdr src pr ts']
def OkB (src : Bs) (pr : Nat) (R : Res (List St)) (w : World) (v : Value) (w' : World) : Prop := ∃ B c l ts', R = .ok (SM.es l) ts' ∧ v = .slice B l.length c ∧ Hp (· = pr) w w' [stl B c l, rdr src pr ts']
def OkS (src : Bs) (pr : Nat) (R : Res St) (w : World) (v : Value) (w' : World) : Prop := ∃ s ts', R = .ok (SM.e s) ts' ∧ v = s.v ∧ Hp (· = pr) w w' [sts [s], rdr src pr ts']
structure Txt (src : Bs) (pr : Nat) (wb : World) : Prop where
  lo : wb.heap.size ≤ pr
  tb : Tb wb
  len : src.length ≤ 1000000
theorem Txt.ok {src : Bs} {pr : Nat} {wb w : World} (X : Txt src pr wb) (h : Ext wb w) : BaseOk (· = pr) wb w := ⟨h, fun k hk => by subst hk; exact X.lo⟩
structure Con (src : Bs) (pr : Nat) (wb : World) (F : PF) : Prop where
  expr : ∀ (level d : Nat) (ts : List Tk) (w : World), level ≤ 8 → d ≤ 41 → Ext wb w → Rdr src pr ts w → F.expr level d ts ≠ .out → Cl Tryz.prog 111 #[.pointer (some ⟨pr, 0, none⟩), .int .i64 (level : Int), .int .i64 (d : Int)] w (OkE src pr (F.expr level d ts) w) (PanX (F.expr level d ts) pr w)
  unary : ∀ (d : Nat) (ts : List Tk) (w : World), d ≤ 41 → Ext wb w → Rdr src pr ts w → F.unary d ts ≠ .out → Cl Tryz.prog 130 #[.pointer (some ⟨pr, 0, none⟩), .int .i64 (d : Int)] w (OkE src pr (F.unary d ts) w) (PanX (F.unary d ts) pr w)
  primary : ∀ (d : Nat) (ts : List Tk) (w : World), d ≤ 41 → Ext wb w → Rdr src pr ts w → F.primary d ts ≠ .out → Cl Tryz.prog 145 #[.pointer (some ⟨pr, 0, none⟩), .int .i64 (d : Int)] w (OkE src pr (F.primary d ts) w) (PanX (F.primary d ts) pr w)
  block : ∀ (d : Nat) (ts : List Tk) (w : World), d ≤ 41 → Ext wb w → Rdr src pr ts w → F.block d ts ≠ .out → Cl Tryz.prog 62 #[.pointer (some ⟨pr, 0, none⟩), .int .i64 (d : Int)] w (OkB src pr (F.block d ts) w) (PanX (F.block d ts) pr w)
  choice : ∀ (d : Nat) (ts : List Tk) (w : World), d ≤ 40 → Ext wb w → Rdr src pr ts w → F.choice d ts ≠ .out → Cl Tryz.prog 110 #[.pointer (some ⟨pr, 0, none⟩), .int .i64 (d : Int)] w (OkS src pr (F.choice d ts) w) (PanX (F.choice d ts) pr w)
theorem Res.bind_ok {α β : Type} {a : α} {ts : List Tk} {k : α → List Tk → Res β} : (Res.ok a ts).bind k = k a ts := rfl
theorem Res.bind_assoc {α β γ : Type} {r : Res α} {k : α → List Tk → Res β} {g : β → List Tk → Res γ} : (r.bind k).bind g = r.bind fun a ts => (k a ts).bind g := by cases r <;> rfl
theorem Res.bind_out {α β : Type} {r : Res α} {k : α → List Tk → Res β} (h : r.bind k ≠ .out) : r ≠ .out := fun e => h (by rw [e]; rfl)
theorem Hp.ofR {S : Nat → Prop} {w0 w : World} {Γ Γ' : List Ck} {src : Bs} {pr nx : Nat} {t : Tk} {r : List Tk} (H : Hp S w0 w Γ) (hb : Blk w pr 68 (rdrCs src nx t))
    (u : Upd1 Γ (rdr src pr (t :: r)) (bk pr 68 (rdrCs src nx t)) Γ' := by (repeat (first | exact Upd1.head | apply Upd1.tail))) : Hp S w0 w Γ' :=
  Hp.upd (c := rdr src pr (t :: r)) H (Hp.start (S := (· = pr)) (bk_ok hb) (fun k hk => hk)) rfl (.inl rfl) u
section
variable {src : Bs} {pr : Nat} {wb : World} {F : PF} (X : Txt src pr wb) (C : Con src pr wb F)
include X C
set_option maxHeartbeats 2000000 in
theorem expr_c (level d : Nat) (ts : List Tk) (w : World) (hlv : level ≤ 8) (hd : d ≤ 41) (hwb : Ext wb w) (h : Rdr src pr ts w) (hne : exprP F level d ts ≠ .out) :
    Cl Tryz.prog 111 #[.pointer (some ⟨pr, 0, none⟩), .int .i64 (level : Int), .int .i64 (d : Int)] w (OkE src pr (exprP F level d ts) w) (PanX (exprP F level d ts) pr w) := by
  have HB := X.ok hwb
  refine calls_ex (args := [.pointer (some ⟨pr, 0, none⟩), .int .i64 (level : Int), .int .i64 (d : Int)]) T.ok Tryz.func111 rfl rfl rfl rfl ?_
  have H := Hp.start (S := (· = pr)) (rdr_ok h) (fun k hk => hk)
  refine Sq.mk ?_
  ((conv => whnf); refine Al.hp H ?_; clear H; intro p6 _ H _)
  by_cases h8 : level = 8
  · have hR : exprP F level d ts = F.unary d ts := by unfold exprP; rw [if_pos h8]
    rw [hR] at hne ⊢
    repeat' ((conv => whnf); first | refine ztS ?_ | (refine ztB ?_ ?_ <;> intro _ <;> try (exfalso; omega)) | (refine ztA ?_; clear H; intro _ _ H _) | fail)
    all_goals first | (exfalso; omega) | skip
    (conv => whnf)
    refine Cl.mkX (C.unary d ts _ hd (H.base2 HB) (H.atC 1 rfl) hne) ?_ ?_
    · rintro _ w2 ⟨⟨kd, o, n, nm, cb, A, c, l⟩, ts', h1, rfl, H'⟩
      replace H := H.updn (c := rdr src pr ts) (Hp.swap H') rfl (.inl rfl) (.inl rfl)
      clear H'
      repeat' ((conv => whnf); first | refine ztS ?_ | (refine ztB ?_ ?_ <;> intro _ <;> try (exfalso; omega)) | (refine ztA ?_; clear H; intro _ _ H _) | fail)
      exact ⟨.mk kd o n nm cb A c l, ts', h1, et_v rfl, H.sel [0, 1] rfl⟩
    · rintro ch w2 ⟨e, p, q, h1, rfl, H'⟩
      exact ⟨e, p, q, h1, rfl, Hp.pan H H' (.inl rfl)⟩
  · obtain ⟨R, hR⟩ : ∃ R, R = exprP F level d ts := ⟨_, rfl⟩
    rw [← hR] at hne ⊢
    unfold exprP at hR
    rw [if_neg h8] at hR
    have hw1 : IntKind.i64.wrap ((level : Int) + 1) = ((level + 1 : Nat) : Int) := w64 rfl (by omega) (by omega)
    have hex := fun ts w => C.expr (level + 1) d ts w (by omega) hd
    rw [← hw1] at hex
    repeat' ((conv => whnf); first | refine ztS ?_ | (refine ztB ?_ ?_ <;> intro _ <;> try (exfalso; omega)) | (refine ztA ?_; clear H; intro _ _ H _) | fail)
    all_goals first | (exfalso; omega) | skip
    (conv => whnf)
    refine Cl.mkX (hex ts _ (H.base2 HB) (H.atC 1 rfl) (Res.bind_out (by rw [← hR]; exact hne))) ?_ ?_
    · rintro _ w2 ⟨⟨kd, o, n, nm, cb, A, c, l⟩, ts', h1, rfl, H'⟩
      replace H := H.updn (c := rdr src pr ts) (Hp.swap H') rfl (.inl rfl) (.inl rfl)
      clear H'
      rw [h1] at hR
      replace hR : R = loopE F level d (ts'.length + 1) (ET.e (.mk kd o n nm cb A c l)) ts' := hR
      repeat' ((conv => whnf); first | refine ztS ?_ | (refine ztB ?_ ?_ <;> intro _ <;> try (exfalso; omega)) | (refine ztW ?_; clear H; intro _ _ H _) | fail)
      ((conv => whnf); refine Al.hp H ?_; clear H; intro p7 _ H _)
      repeat' ((conv => whnf); first | refine ztS ?_ | (refine ztB ?_ ?_ <;> intro _ <;> try (exfalso; omega)) | (refine ztA ?_; clear H; intro _ _ H _) | fail)
      refine Lp.g0 T.ok (σ := Nat × ET × List Tk) (fun q => [(7, .pointer (some ⟨p7, 0, none⟩)), (0, .pointer (some ⟨pr, 0, none⟩)), (1, .int .i64 (level : Int)), (2, .int .i64 (d : Int)), (6, .pointer (some ⟨p6, 0, none⟩))])
        (fun q w' => R = loopE F level d q.1 (ET.e q.2.1) q.2.2 ∧ Hp (· = pr) w w' [bk p7 74 (ET.enc q.2.1), trs [q.2.1], bk p6 74 T.t74.zero.cells.toList, rdr src pr q.2.2]) (fun q _ => q.1) (ts'.length + 1, .mk kd o n nm cb A c l, ts') rfl ⟨rfl, rfl, rfl, rfl, rfl, trivial⟩ ⟨hR, H⟩ ?_
      clear H hR h1
      rintro ⟨f, ⟨kd, o, n, nm, cb, A, c, l⟩, ts⟩ w5 ⟨hR, H⟩
      simp only at hR H ⊢
      cases f with
      | zero => exact absurd hR hne
      | succ f =>
      simp only [loopE] at hR
      by_cases hs : standsB level (curK ts) = true
      case neg =>
        rw [if_neg hs] at hR
        repeat' (first | ((conv => whnf); first | refine ztS ?_ | (refine ztB ?_ ?_ <;> intro _ <;> try (exfalso; omega)) | (refine ztA ?_; clear H; intro _ _ H _) | fail) | ((((conv => whnf); refine Cl.mk (stands_c level src pr ts _ (X.tb.ext (H.base2 HB)) (by omega) (H.atC 3 rfl)) ?_); rintro _ _ ⟨rfl, hx⟩; replace H := H.ext hx; clear hx); rw [Bool.eq_false_iff.2 hs]))
        exact ⟨.mk kd o n nm cb A c l, ts, hR, et_v rfl, H.sel [1, 2] rfl⟩
      rw [if_pos hs] at hR
      repeat' ((conv => whnf); first | refine ztS ?_ | (refine ztB ?_ ?_ <;> intro _ <;> try (exfalso; omega)) | (refine ztA ?_; clear H; intro _ _ H _) | fail)
      (((conv => whnf); refine Cl.mk (stands_c level src pr ts _ (X.tb.ext (H.base2 HB)) (by omega) (H.atC 3 rfl)) ?_); rintro _ _ ⟨rfl, hx⟩; replace H := H.ext hx; clear hx)
      rw [hs]
      obtain ⟨nx, t0, r0, rfl, hnx, hr0, hb0⟩ := H.atC (c := rdr src pr ts) 3 rfl
      replace H := Hp.ofR H hb0
      clear hb0
      repeat' ((conv => whnf); first | refine ztS ?_ | (refine ztB ?_ ?_ <;> intro _ <;> try (exfalso; omega)) | (refine ztA ?_; clear H; intro _ _ H _) | fail)
      replace H := Hp.toR H hnx hr0
      (conv => whnf)
      refine Cl.mkX (step_c false src pr (t0 :: r0) wb _ (H.base2 HB) X.lo X.tb X.len (H.atC 3 rfl) (stands_ne hs)) ?_ ?_
      rotate_left
      · rintro ch w2 ⟨e, p, q, h1, rfl, H'⟩
        exact ⟨e, p, q, by rw [hR, h1]; rfl, rfl, Hp.pan H H' (.inl rfl)⟩
      rintro _ w2 ⟨ts1, h1, H'⟩
      replace H := H.upd (c := rdr src pr (t0 :: r0)) H' rfl (.inl rfl)
      clear H'
      rw [h1] at hR
      replace hR : R = (F.expr (level + 1) d ts1).bind (fun r ts2 => loopE F level d f (joinP t0.kind (ET.e (.mk kd o n nm cb A c l)) r) ts2) := hR
      repeat' ((conv => whnf); first | refine ztS ?_ | (refine ztB ?_ ?_ <;> intro _ <;> try (exfalso; omega)) | (refine ztA ?_; clear H; intro _ _ H _) | fail)
      (conv => whnf)
      refine Cl.mkX (hex ts1 _ (H.base2 HB) (H.atC 3 rfl) (Res.bind_out (by rw [← hR]; exact hne))) ?_ ?_
      rotate_left
      · rintro ch w3 ⟨e, p, q, h2, rfl, H'⟩
        exact ⟨e, p, q, by rw [hR, h2]; rfl, rfl, Hp.pan H H' (.inl rfl)⟩
      rintro _ w3 ⟨⟨kd2, o2, n2, nm2, cb2, A2, c2, l2⟩, ts2, h2, rfl, H'⟩
      replace H := H.updn (c := rdr src pr ts1) (Hp.swap H') rfl (.inl rfl) (.inl rfl)
      clear H'
      rw [h2] at hR
      replace hR : R = loopE F level d f (joinP t0.kind (ET.e (.mk kd o n nm cb A c l)) (ET.e (.mk kd2 o2 n2 nm2 cb2 A2 c2 l2))) ts2 := hR
      repeat' ((conv => whnf); first | refine ztS ?_ | (refine ztB ?_ ?_ <;> intro _ <;> try (exfalso; omega)) | (refine ztW ?_; clear H; intro _ _ H _) | fail)
      ((conv => whnf); refine Al.hp H ?_; clear H; intro p9 _ H _)
      repeat' ((conv => whnf); first | refine ztS ?_ | (refine ztB ?_ ?_ <;> intro _ <;> try (exfalso; omega)) | (refine ztA ?_; clear H; intro _ _ H _) | fail)
      ((conv => whnf); refine Cl.mk (join_c t0.kind (.mk kd o n nm cb A c l) (.mk kd2 o2 n2 nm2 cb2 A2 c2 l2) _ (X.tb.ext (H.base2 HB))) ?_)
      rintro _ w6 ⟨kd3, o3, A3, c3, rfl, hj, H'⟩
      rw [hj] at hR
      replace H := H.fr0 H' (.inl rfl)
      repeat' ((conv => whnf); first | refine ztS ?_ | (refine ztB ?_ ?_ <;> intro _ <;> try (exfalso; omega)) | (refine ztA ?_; clear H; intro _ _ H _) | fail)
      replace H := H.sel [2, 3, 0, 1, 1, 1] rfl
      exact ⟨(f, .mk kd3 o3 0 [] [] A3 c3 [.mk kd o n nm cb A c l, .mk kd2 o2 n2 nm2 cb2 A2 c2 l2], ts2), ⟨rfl, rfl, rfl, rfl, rfl, trivial⟩, rfl, ⟨hR, Hp.swap (Hp.trsN kd3 o3 0 [] [] (Hp.swap (Hp.trsS H)))⟩, Nat.lt_succ_self f⟩
    · rintro ch w2 ⟨e, p, q, h1, rfl, H'⟩
      exact ⟨e, p, q, by rw [hR, h1]; rfl, rfl, Hp.pan H H' (.inl rfl)⟩
end
end Go.Proofs.YtfnjodpehomgfaaGreatDoor
