/- own work: ShU, ShV, PiB -/
import Derived.OrdersHeld
import Derived.Test.YtbbadmlekagloaaDoorMT6
namespace Go.Sh
open Go.RowKit
set_option linter.unusedVariables false
set_option linter.unusedSimpArgs false
set_option linter.unusedSectionVars false
def pickO (ops : Array Oper) : List Nat → Option (List Oper)
  | [] => some []
  | i :: r => match ops[i]? with
    | some o => match pickO ops r with
      | some l => some (o :: l)
      | none => none
    | none => none
theorem pickO_get {ops : Array Oper} : ∀ {is : List Nat} {l : List Oper}, pickO ops is = some l → ∀ m : Nat, l[m]? = (is[m]?).bind (ops[·]?)
  | [], l, h, m => by simp [pickO] at h; subst h; simp
  | i :: r, l, h, m => by
    unfold pickO at h
    split at h
    · rename_i o ho
      split at h
      · rename_i l' hl'
        simp at h; subst h
        cases m with
        | zero => simp [ho]
        | succ m => simpa using pickO_get hl' m
      · simp at h
    · simp at h
theorem pickO_len {ops : Array Oper} : ∀ {is : List Nat} {l : List Oper}, pickO ops is = some l → l.length = is.length
  | [], l, h => by simp [pickO] at h; subst h; rfl
  | i :: r, l, h => by
    unfold pickO at h
    split at h
    · rename_i o ho
      split at h
      · rename_i l' hl'
        simp at h; subst h
        simp [pickO_len hl']
      · simp at h
    · simp at h
def ChP (ops : Array Oper) (qis cs : List Nat) : Prop :=
  (∀ i ∈ List.range ops.size, ∀ j ∈ afterOf ops i, j < i) ∧
  (∀ i ∈ List.range ops.size, i ∈ qis ∨ i ∈ cs) ∧
  (∀ i ∈ qis, i ∉ cs ∧ i < ops.size) ∧
  (∀ i ∈ cs, i < ops.size) ∧
  qis.Pairwise (· < ·) ∧
  cs.Pairwise (· < ·) ∧
  (∀ a ∈ cs, ∀ b ∈ cs, a < b → a ∈ ancF ops ops.size b) ∧
  (ops.size - 1 ∈ cs) ∧
  (∀ j ∈ List.range (ops.size - 1), j ∈ ancF ops ops.size (ops.size - 1)) ∧
  (∀ i ∈ List.range ops.size, ∀ j ∈ List.range ops.size, i ≠ j → dstOf ops i ≠ none → dstOf ops j ≠ dstOf ops i) ∧
  (∀ i ∈ qis, ∀ j ∈ List.range ops.size, j ≠ i → ∀ t ∈ rdOf ops i, dstOf ops j = some t → j ∈ qis ∧ ((j < i ∧ j ∈ ancF ops ops.size i) ∨ (i < j ∧ i ∈ ancF ops ops.size j))) ∧
  (∀ i ∈ cs, ∀ j ∈ List.range ops.size, j ≠ i → ∀ t ∈ rdOf ops i, dstOf ops j = some t → j ∈ ancF ops ops.size i)
def chB (ops : Array Oper) (qis cs : List Nat) : Bool :=
  decide ((∀ i ∈ List.range ops.size, ∀ j ∈ afterOf ops i, j < i)) &&
  decide ((∀ i ∈ List.range ops.size, i ∈ qis ∨ i ∈ cs)) &&
  decide ((∀ i ∈ qis, i ∉ cs ∧ i < ops.size)) &&
  decide ((∀ i ∈ cs, i < ops.size)) &&
  decide (qis.Pairwise (· < ·)) &&
  decide (cs.Pairwise (· < ·)) &&
  decide ((∀ a ∈ cs, ∀ b ∈ cs, a < b → a ∈ ancF ops ops.size b)) &&
  decide ((ops.size - 1 ∈ cs)) &&
  decide ((∀ j ∈ List.range (ops.size - 1), j ∈ ancF ops ops.size (ops.size - 1))) &&
  decide ((∀ i ∈ List.range ops.size, ∀ j ∈ List.range ops.size, i ≠ j → dstOf ops i ≠ none → dstOf ops j ≠ dstOf ops i)) &&
  decide ((∀ i ∈ qis, ∀ j ∈ List.range ops.size, j ≠ i → ∀ t ∈ rdOf ops i, dstOf ops j = some t → j ∈ qis ∧ ((j < i ∧ j ∈ ancF ops ops.size i) ∨ (i < j ∧ i ∈ ancF ops ops.size j)))) &&
  decide ((∀ i ∈ cs, ∀ j ∈ List.range ops.size, j ≠ i → ∀ t ∈ rdOf ops i, dstOf ops j = some t → j ∈ ancF ops ops.size i))
theorem chB_spec {ops : Array Oper} {qis cs : List Nat} (h : chB ops qis cs = true) : ChP ops qis cs := by
  unfold chB at h
  simp only [Bool.and_eq_true, decide_eq_true_iff] at h
  obtain ⟨⟨⟨⟨⟨⟨⟨⟨⟨⟨⟨h1, h2⟩, h3⟩, h4⟩, h5⟩, h6⟩, h7⟩, h8⟩, h9⟩, h10⟩, h11⟩, h12⟩ := h
  exact ⟨h1, h2, h3, h4, h5, h6, h7, h8, h9, h10, h11, h12⟩
section
variable {P : Program} {T : Tab} {n : Nat} {ops : Array Oper}
def stepCh (P : Program) (T : Tab) (n : Nat) (W : World → Prop) (o : Oper) (_r : List Oper) (ih : Fr → World → (Fr → World → Prop) → Prop) (F : Fr) (w : World) (k : Fr → World → Prop) : Prop :=
  W w ∧ match dstOk n o.dst with
    | false => False
    | true => match o.guard with
      | some _ => False
      | none => exOp P T (evR o F) o w (fun v w' => ih (F.put o.dst v) w' k) (fun _ _ => False)
def chOps (P : Program) (T : Tab) (n : Nat) (W : World → Prop) (l : List Oper) : Fr → World → (Fr → World → Prop) → Prop :=
  List.rec (motive := fun _ => Fr → World → (Fr → World → Prop) → Prop) (fun F w k => k F w) (stepCh P T n W) l
theorem PhiF_cases {F : Fr} {l : List Oper} {vals : Nat → Value} {t : Nat} {u : Value} : ∀ m, PhiF F l vals m t = some u → (∃ j, j < m ∧ (l[j]?).bind (·.dst) = some t ∧ u = vals j) ∨ ((∀ j, j < m → (l[j]?).bind (·.dst) ≠ some t) ∧ look F.env t = some u)
  | 0, h => .inr ⟨by simp, h⟩
  | m + 1, h => by
    rw [PhiF] at h
    split at h
    · rename_i hd
      simp at h
      exact .inl ⟨m, by omega, hd, h.symm⟩
    · rename_i hd
      rcases PhiF_cases m h with ⟨j, h1, h2, h3⟩ | ⟨h1, h2⟩
      · exact .inl ⟨j, by omega, h2, h3⟩
      · exact .inr ⟨fun j hj => by
          by_cases e : j = m
          · subst e; exact hd
          · exact h1 j (by omega), h2⟩
theorem act_put_ne {a : Act} {d : Option Nat} {v : Value} {t : Nat} (h : d ≠ some t) : (a.put d v).tmps[t]? = a.tmps[t]? := by
  cases d with
  | none => rfl
  | some d' =>
    simp only [Act.put]
    exact Array.getElem?_setIfInBounds_ne (fun e => h (by rw [e]))
theorem act_put_eq {a : Act} {t : Nat} {v : Value} (h : dstOk a.tmps.size (some t) = true) : (a.put (some t) v).tmps[t]? = some v := by
  simp only [Act.put]
  exact Array.getElem?_setIfInBounds_self_of_lt (by simpa [dstOk] using h)
theorem act_put_size {a : Act} {d : Option Nat} {v : Value} : (a.put d v).tmps.size = a.tmps.size := by cases d <;> simp [Act.put]
theorem act_put_defers {a : Act} {d : Option Nat} {v : Value} : (a.put d v).defers = a.defers := by cases d <;> simp [Act.put]
theorem look_put_eq {F : Fr} {d : Nat} {v : Value} : look (F.put (some d) v).env d = some v := by simp [Fr.put, look]
theorem look_put_ne {F : Fr} {d : Option Nat} {v : Value} {t : Nat} (h : d ≠ some t) : look (F.put d v).env t = look F.env t := by
  cases d with
  | none => rfl
  | some d =>
    simp only [Fr.put, look]
    split
    · rename_i e; exact absurd (by rw [Nat.eq_of_beq_eq_true e]) h
    · rfl
theorem Dr.ch (hT : TabOk P T) (hm : P.follows .mixedOrders = true) (qis cs : List Nat) {id : Nat} {F : Fr} {w : World} {K : Exit → Fr → World → Prop} {ql cl : List Oper}
    (hB : chB ops qis cs = true) (hql : pickO ops qis = some ql) (hcl : pickO ops cs = some cl) (W : World → Prop)
    (h : ∀ w1, Ext w w1 → w1.heap.size = w.heap.size → quOps P T n W (fun a b => b = a) ops.toList ql F (fun F' => chOps P T n W cl F' w1 (fun F w => K .normal F w))) : Dr P n id ops F w K := by
  obtain ⟨hac0, hcov, hqc, hclt, hqs, hcs, hcan, hlc, hlast0, huq0, hrq, hrc⟩ := chB_spec hB
  have hac : ∀ i, i < ops.size → ∀ j ∈ afterOf ops i, j < i := fun i hi => hac0 i (List.mem_range.2 hi)
  have hlast : ∀ j, j < ops.size - 1 → j ∈ ancF ops ops.size (ops.size - 1) := fun j hj => hlast0 j (List.mem_range.2 hj)
  have huq : ∀ i, i < ops.size → ∀ j, j < ops.size → i ≠ j → ∀ t, dstOf ops i = some t → dstOf ops j ≠ some t := fun i hi j hj hne t ht => by
    have := huq0 i (List.mem_range.2 hi) j (List.mem_range.2 hj) hne (by rw [ht]; simp)
    rwa [ht] at this
  have e1 : Ext w { w with drawn := w.drawn + 1 } := ⟨rfl, rfl, rfl, Nat.le_refl _, fun _ _ => rfl⟩
  obtain ⟨vals, F', hY, hlook, hds, hfin⟩ := quOps_trace hT ql F _ (h { w with drawn := w.drawn + 1 } e1 rfl)
  have hN : ops.size - 1 < ops.size := hclt _ hlc
  have hqget : ∀ m : Nat, (ql[m]?).bind (·.dst) = (qis[m]?).bind (dstOf ops) := fun m => by
    rw [pickO_get hql m]
    cases qis[m]? <;> rfl
  have hqpos : ∀ i, i ∈ qis → ∃ m, qis[m]? = some i := fun i hi => List.getElem?_of_mem hi
  have hqlt : ∀ (m m' i i' : Nat), qis[m]? = some i → qis[m']? = some i' → m < m' → i < i' := fun m m' i i' h1 h2 hlt => by
    obtain ⟨a1, a2⟩ := List.getElem?_eq_some_iff.1 h1
    obtain ⟨b1, b2⟩ := List.getElem?_eq_some_iff.1 h2
    have := List.pairwise_iff_getElem.1 hqs m m' a1 b1 hlt
    omega
  have hqinj : ∀ (m m' i : Nat), qis[m]? = some i → qis[m']? = some i → m = m' := fun m m' i h1 h2 => by
    rcases Nat.lt_trichotomy m m' with e | e | e
    · have := hqlt m m' i i h1 h2 e; omega
    · exact e
    · have := hqlt m' m i i h2 h1 e; omega
  refine ⟨fun a0 ha0 => ?_⟩
  refine wp_region_any hm ?_
  have main : ∀ (fuel : Nat) (listed : Array Bool) (a : Act) (w' : World) (j : Nat) (Fj : Fr), listed.size = ops.size → Closed ops listed → cnt listed ops.size ≤ fuel → ¬ Lst listed (ops.size - 1) →
      a.tmps.size = n → a.defers = F.ds → Fj.ds = F.ds → chOps P T n W (cl.drop j) Fj w' (fun F w => K .normal F w) →
      (∀ m i, cs[m]? = some i → (Lst listed i ↔ m < j)) →
      (∀ m i, qis[m]? = some i → Lst listed i → ∀ d, dstOf ops i = some d → a.tmps[d]? = some (vals m)) →
      (∀ t u, look F.env t = some u → (∀ i, i < ops.size → Lst listed i → dstOf ops i ≠ some t) → a.tmps[t]? = some u) →
      (∀ t u, look Fj.env t = some u → (∃ i, i ∈ qis ∧ ¬ Lst listed i ∧ dstOf ops i = some t) ∨ a.tmps[t]? = some u) →
      (∀ t, (∀ i, i ∈ cs → dstOf ops i ≠ some t) → look Fj.env t = look F'.env t) →
      wpAny P .any ops (Lift n K) fuel listed a w' := by
    intro fuel
    induction fuel with
    | zero => intro listed a w' j Fj _ _ hc hnl; exact absurd (cnt_pos listed _ hnl ops.size hN) (by omega)
    | succ fuel ih =>
      intro listed a w' j Fj hs hcl' hc hnl hsz hdf hdj hch hcj hA hB' hG hFj
      refine ⟨fun hr => ?_, fun i hi => ?_⟩
      · exfalso
        have : ∃ i, i < ops.size ∧ ¬ Lst listed i ∧ ∀ j, j < i → Lst listed j := by
          have : ∀ m, m ≤ ops.size - 1 → (∀ j, j < m → Lst listed j) ∨ ∃ i, i < ops.size ∧ ¬ Lst listed i ∧ ∀ j, j < i → Lst listed j := by
            intro m
            induction m with
            | zero => intro _; exact .inl fun j hj => by omega
            | succ m ihm =>
              intro hm
              rcases ihm (by omega) with h1 | h1
              · by_cases hl : Lst listed m
                · exact .inl fun j hj => (Nat.lt_or_ge j m).elim (h1 j) fun h2 => (show j = m by omega) ▸ hl
                · exact .inr ⟨m, by omega, hl, h1⟩
              · exact .inr h1
          rcases this (ops.size - 1) (Nat.le_refl _) with h1 | h1
          · exact ⟨ops.size - 1, hN, hnl, h1⟩
          · exact h1
        obtain ⟨i, h1, h2, h3⟩ := this
        have := (mem_ready hs hac).2 ⟨h1, h2, fun j hj => h3 j (hac i h1 j hj)⟩
        rw [hr] at this
        exact absurd this (by simp)
      · obtain ⟨hi1, hi2, hi3⟩ := (mem_ready hs hac).1 hi
        have hs' : (listed.setIfInBounds i true).size = ops.size := by simpa using hs
        have hLs : ∀ j, Lst (listed.setIfInBounds i true) j ↔ j = i ∨ Lst listed j := fun j => by
          unfold Lst; rw [getD_set _ _ _ (by omega)]; by_cases e : j = i <;> simp [e]
        have hcl'' : Closed ops (listed.setIfInBounds i true) := fun m hm hl j hj => by
          rw [hLs] at hl ⊢
          rcases hl with rfl | hl
          · exact .inr (hi3 j hj)
          · exact .inr (hcl' m hm hl j hj)
        have hc' : cnt (listed.setIfInBounds i true) ops.size ≤ fuel := by
          have := cnt_set listed i (by omega) hi2 ops.size
          rw [if_pos hi1] at this; omega
        have hanc : ∀ j, j ∈ ancF ops ops.size i → Lst listed j := fun j hj => by
          have := closed_anc hcl'' hac ops.size i j hi1 ((hLs i).2 (.inl rfl)) hj
          rcases (hLs j).1 this with rfl | h1
          · exfalso
            have lt : ∀ (f m j : Nat), m < ops.size → j ∈ ancF ops f m → j < m := by
              intro f
              induction f with
              | zero => intro m j _ h; simp [ancF] at h
              | succ f ihf =>
                intro m j hm h
                simp only [ancF, List.mem_flatMap, List.mem_cons] at h
                obtain ⟨q, hq, h⟩ := h
                have hqm := hac m hm q hq
                rcases h with rfl | h
                · exact hqm
                · have := ihf q j (by omega) h; omega
            have := lt _ _ _ hi1 hj; omega
          · exact h1
        obtain ⟨o, ho⟩ : ∃ o, ops[i]? = some o := ⟨ops[i], Array.getElem?_eq_getElem hi1⟩
        have hdi : dstOf ops i = o.dst := by simp [dstOf, ho]
        have hrdi : rdOf ops i = tmpsOf o ++ gdOf ops o := by unfold rdOf; simp only [ho]
        have hjlt : j < cs.length := by
          obtain ⟨m, hm⟩ := List.getElem?_of_mem hlc
          have h1 := (List.getElem?_eq_some_iff.1 hm).1
          have h2 := hcj m _ hm
          exact Nat.lt_of_not_le fun h3 => hnl (h2.2 (by omega))
        obtain ⟨ci, hci⟩ : ∃ c, cs[j]? = some c := ⟨cs[j], List.getElem?_eq_getElem hjlt⟩
        obtain ⟨oc, hoc⟩ : ∃ o, ops[ci]? = some o := ⟨_, Array.getElem?_eq_getElem (hclt ci (List.mem_of_getElem? hci))⟩
        have hclj : cl[j]? = some oc := by rw [pickO_get hcl j, hci]; exact hoc
        have hdrop : cl.drop j = oc :: cl.drop (j + 1) := by
          obtain ⟨h1, h2⟩ := List.getElem?_eq_some_iff.1 hclj
          rw [List.drop_eq_getElem_cons h1, h2]
        rw [hdrop] at hch
        have hch' : stepCh P T n W oc (cl.drop (j + 1)) (chOps P T n W (cl.drop (j + 1))) Fj w' (fun F w => K .normal F w) := hch
        obtain ⟨hWw, hrest⟩ := hch'
        unfold wpOp
        simp only [ho]
        by_cases hic : i ∈ cs
        · -- the chain's next
          have hii : i = ci := by
            obtain ⟨m, hm⟩ := List.getElem?_of_mem hic
            have hmj : ¬ m < j := fun e => hi2 ((hcj m i hm).2 e)
            rcases Nat.lt_or_ge j m with e | e
            · exfalso
              have h1 := (List.getElem?_eq_some_iff.1 hm)
              have h2 := (List.getElem?_eq_some_iff.1 hci)
              obtain ⟨h1a, h1b⟩ := h1
              obtain ⟨h2a, h2b⟩ := h2
              have hlt := List.pairwise_iff_getElem.1 hcs j m h2a h1a e
              rw [h1b, h2b] at hlt
              have := hanc ci (hcan ci (List.mem_of_getElem? hci) i hic hlt)
              have := (hcj j ci hci).1 this
              omega
            · have : m = j := by omega
              subst this
              rw [hci] at hm; simpa using hm.symm
          subst hii
          rw [ho] at hoc
          obtain rfl : o = oc := by simpa using hoc
          split at hrest
          · exact hrest.elim
          rename_i hdo
          split at hrest
          · exact hrest.elim
          rename_i hgn
          rw [if_pos (wanted_none hgn)]
          refine .inl ?_
          have hev : ∀ x u, evR o Fj x = some u → a.eval x = u := ev_of_phi (Φ := look Fj.env) (fun t => rfl) fun t ht u hu => by
            rcases hG t u hu with ⟨q, hq1, hq2, hq3⟩ | hu'
            · exfalso
              have hqi : q ≠ i := fun e => (hqc q hq1).1 (e ▸ hic)
              exact hq2 (hanc q (hrc i hic q (List.mem_range.2 (hqc q hq1).2) hqi t (by rw [hrdi]; exact List.mem_append_left _ ht) hq3))
            · exact hu'
          refine exOp_sound hT hev hrest (fun v w2 hnx => ?_) (fun ch w2 q => q.elim)
          have hG2 : ∀ t u, look (Fj.put o.dst v).env t = some u → (∃ q, q ∈ qis ∧ ¬ Lst (listed.setIfInBounds i true) q ∧ dstOf ops q = some t) ∨ (a.put o.dst v).tmps[t]? = some u := fun t u ht => by
            by_cases hd : o.dst = some t
            · rw [hd] at ht hdo ⊢
              rw [look_put_eq] at ht
              simp at ht; subst ht
              exact .inr (act_put_eq (by rw [hsz]; exact hdo))
            · rw [act_put_ne hd]
              have ht' : look Fj.env t = some u := by rw [look_put_ne hd] at ht; exact ht
              rcases hG t u ht' with ⟨q, hq1, hq2, hq3⟩ | hu
              · refine .inl ⟨q, hq1, fun e => ?_, hq3⟩
                rcases (hLs q).1 e with e | e
                · exact (hqc q hq1).1 (e ▸ hic)
                · exact hq2 e
              · exact .inr hu
          have hds2 : (Fj.put o.dst v).ds = F.ds := by cases o.dst <;> exact hdj
          by_cases hl' : i = ops.size - 1
          · -- the last
            have hall : ∀ q, q < ops.size → Lst (listed.setIfInBounds i true) q := fun q hq => by
              rw [hLs]
              by_cases e : q = i
              · exact .inl e
              · exact .inr (hanc q (by rw [hl']; exact hlast q (by omega)))
            have hready : Region.ready .any ops (listed.setIfInBounds i true) = [] := by
              rw [List.eq_nil_iff_forall_not_mem]
              intro q hq
              obtain ⟨h1, h2, _⟩ := (mem_ready hs' hac).1 hq
              exact h2 (hall q h1)
            have hagr : Agr n (Fj.put o.dst v) (a.put o.dst v) := ⟨by rw [act_put_size, hsz], by rw [act_put_defers, hds2, hdf], fun t u ht => by
              rcases hG2 t u ht with ⟨q, hq1, hq2, hq3⟩ | hu
              · exact absurd (hall q (hqc q hq1).2) hq2
              · exact hu⟩
            have hend : cl.drop (j + 1) = [] := by
              refine List.drop_eq_nil_of_le ?_
              rw [pickO_len hcl]
              refine Nat.le_of_not_lt fun hlt => ?_
              obtain ⟨c2, hc2⟩ : ∃ c, cs[j + 1]? = some c := ⟨cs[j + 1], List.getElem?_eq_getElem hlt⟩
              obtain ⟨h1a, h1b⟩ := List.getElem?_eq_some_iff.1 hc2
              obtain ⟨h2a, h2b⟩ := List.getElem?_eq_some_iff.1 hci
              have h3 := List.pairwise_iff_getElem.1 hcs j (j + 1) h2a h1a (by omega)
              rw [h1b, h2b] at h3
              have := hclt c2 (List.mem_of_getElem? hc2)
              omega
            rw [hend] at hnx
            have q : Lift n K .normal (a.put o.dst v) w2 := ⟨_, hagr, hnx⟩
            cases fuel with
            | zero => exact ⟨hready, q⟩
            | succ f => exact ⟨fun _ => q, fun j hj => by rw [hready] at hj; exact absurd hj (by simp)⟩
          · refine ih _ _ _ (j + 1) (Fj.put o.dst v) hs' hcl'' hc' (fun e => ?_) (by rw [act_put_size, hsz]) (by rw [act_put_defers, hdf]) hds2 hnx (fun m q hq => ?_) (fun m q hq hl d hd => ?_) (fun t u ht hno => ?_) hG2 (fun t ht => ?_)
            · rcases (hLs _).1 e with e | e
              · exact hl' e.symm
              · exact hnl e
            · rw [hLs, hcj m q hq]
              constructor
              · rintro (e | e)
                · subst e
                  have hmj : m = j := by
                    rcases Nat.lt_trichotomy m j with e | e | e
                    · exact absurd ((hcj m _ hq).2 e) hi2
                    · exact e
                    · obtain ⟨h1a, h1b⟩ := List.getElem?_eq_some_iff.1 hq
                      obtain ⟨h2a, h2b⟩ := List.getElem?_eq_some_iff.1 hci
                      have h3 := List.pairwise_iff_getElem.1 hcs j m h2a h1a e
                      omega
                  omega
                · omega
              · intro e
                by_cases hmj : m = j
                · subst hmj; rw [hci] at hq; simp at hq; exact .inl hq.symm
                · exact .inr (by omega)
            · have hqm := List.mem_of_getElem? hq
              have hqi : q ≠ i := fun e => (hqc q hqm).1 (e ▸ hic)
              rw [act_put_ne (fun e => huq q (hqc q hqm).2 i hi1 hqi d hd (by rw [hdi, e]))]
              exact hA m q hq (((hLs q).1 hl).resolve_left hqi) d hd
            · rw [act_put_ne (fun e => hno i hi1 ((hLs i).2 (.inl rfl)) (by rw [hdi, e]))]
              exact hB' t u ht fun q hq hl => hno q hq ((hLs q).2 (.inr hl))
            · rw [← hFj t ht, look_put_ne (fun e => ht i hic (by rw [hdi, e]))]
        · -- a quiet one
          have hiq : i ∈ qis := (hcov i (List.mem_range.2 hi1)).resolve_right hic
          obtain ⟨m, hmi⟩ := hqpos i hiq
          obtain ⟨hdo, hy⟩ := hY m o (by rw [pickO_get hql m, hmi]; exact ho)
          have hreads : ∀ t ∈ tmpsOf o ++ gdOf ops o, ∀ u, PhiF F ql vals m t = some u → a.tmps[t]? = some u := by
            intro t ht u hu
            rw [← hrdi] at ht
            rcases PhiF_cases m hu with ⟨k, hk, hkd, rfl⟩ | ⟨hno, hu'⟩
            · rw [hqget] at hkd
              cases hqk : qis[k]? with
              | none => rw [hqk] at hkd; simp at hkd
              | some q =>
                rw [hqk] at hkd
                have hqlt' := hqlt k m q i hqk hmi hk
                have hqm := List.mem_of_getElem? hqk
                rcases (hrq i hiq q (List.mem_range.2 (hqc q hqm).2) (by omega) t ht hkd).2 with ⟨_, h2⟩ | ⟨h2, _⟩
                · exact hA k q hqk (hanc q h2) t hkd
                · omega
            · refine hB' t u hu' fun q hq hl hd => ?_
              by_cases hqi : q = i
              · subst hqi; exact hi2 hl
              obtain ⟨h1, h2⟩ := hrq i hiq q (List.mem_range.2 hq) hqi t ht hd
              obtain ⟨k, hk⟩ := hqpos q h1
              rcases h2 with ⟨h2, h3⟩ | ⟨h2, h3⟩
              · have hkm : k < m := by
                  rcases Nat.lt_trichotomy k m with e | e | e
                  · exact e
                  · subst e; rw [hmi] at hk; simp at hk; omega
                  · have := hqlt m k i q hmi hk e; omega
                exact hno k hkm (by rw [hqget, hk]; exact hd)
              · exact hi2 (closed_anc hcl' hac ops.size q i hq hl h3)
          have hnext : wpAny P .any ops (Lift n K) fuel (listed.setIfInBounds i true) (a.put o.dst (vals m)) w' := by
            refine ih _ _ _ j Fj hs' hcl'' hc' (fun e => ?_) (by rw [act_put_size, hsz]) (by rw [act_put_defers, hdf]) hdj (by rw [hdrop]; exact hch) (fun k q hq => ?_) (fun k q hq hl d hd => ?_) (fun t u ht hno => ?_) (fun t u ht => ?_) hFj
            · rcases (hLs _).1 e with e | e
              · exact hic (e ▸ hlc)
              · exact hnl e
            · rw [hLs, ← hcj k q hq]
              exact ⟨fun e => e.resolve_left (fun e => hic (e ▸ List.mem_of_getElem? hq)), .inr⟩
            · by_cases e : q = i
              · subst e
                have := hqinj k m q hq hmi
                subst this
                rw [hdi] at hd
                rw [hd] at hdo ⊢
                exact act_put_eq (by rw [hsz]; exact hdo)
              · have hqm := List.mem_of_getElem? hq
                rw [act_put_ne (fun e' => huq q (hqc q hqm).2 i hi1 e d hd (by rw [hdi, e']))]
                exact hA k q hq (((hLs q).1 hl).resolve_left e) d hd
            · rw [act_put_ne (fun e => hno i hi1 ((hLs i).2 (.inl rfl)) (by rw [hdi, e]))]
              exact hB' t u ht fun q hq hl => hno q hq ((hLs q).2 (.inr hl))
            · by_cases hd : o.dst = some t
              · refine .inr ?_
                have hF' : look F'.env t = some u := by
                  rw [← hFj t (fun q hq e => huq i hi1 q (hclt q hq) (fun e' => hic (e' ▸ hq)) t (by rw [hdi, hd]) e)]
                  exact ht
                rw [hlook] at hF'
                rcases PhiF_cases _ hF' with ⟨k, hk, hkd, rfl⟩ | ⟨hno, _⟩
                · rw [hqget] at hkd
                  cases hqk : qis[k]? with
                  | none => rw [hqk] at hkd; simp at hkd
                  | some q =>
                    rw [hqk] at hkd
                    have hqm := List.mem_of_getElem? hqk
                    have hqi : q = i := Classical.byContradiction fun e => huq i hi1 q (hqc q hqm).2 (fun e' => e e'.symm) t (by rw [hdi, hd]) hkd
                    subst hqi
                    have := hqinj k m q hqk hmi
                    subst this
                    rw [hd] at hdo ⊢
                    exact act_put_eq (by rw [hsz]; exact hdo)
                · exact absurd (by rw [hqget, hmi]; show dstOf ops i = some t; rw [hdi, hd]) (hno m (by rw [pickO_len hql]; exact (List.getElem?_eq_some_iff.1 hmi).1))
              · rw [act_put_ne hd]
                rcases hG t u ht with ⟨q, hq1, hq2, hq3⟩ | hu
                · refine .inl ⟨q, hq1, fun e => ?_, hq3⟩
                  rcases (hLs q).1 e with e | e
                  · exact hd (by rw [← hdi, ← e]; exact hq3)
                  · exact hq2 e
                · exact .inr hu
          rcases hy a hreads with ⟨hno, hv⟩ | ⟨hyes, hrun⟩
          · rw [if_neg (by rw [hno]; simp)]
            rw [← hv]
            exact hnext
          · rw [if_pos hyes]
            refine .inl ?_
            unfold Oper.wp
            rcases hrun w' hWw with e | ⟨f, args, e, hcl2⟩
            · exact upon_val e hnext
            · rw [e]
              refine Calls.mono hcl2.out fun en w'' q => ?_
              cases en with
              | returned u => obtain ⟨q1, q2⟩ := q; subst q1; subst q2; exact hnext
              | panicked ch => exact q.elim
              | outgrown => exact q.elim
  have hf : ∀ i, i < ops.size → ¬ Lst (Array.replicate ops.size false) i := fun i hi hl => absurd hl (by unfold Lst; simp [Array.getD_eq_getD_getElem?, hi])
  refine main ops.size _ a0 _ 0 F' (by simp) (fun i hi hl => absurd hl (hf i hi)) ?_ (hf _ hN) ha0.1 ha0.2.1 hds (by rw [List.drop_zero]; exact hfin) (fun m i hi => ⟨fun hl => absurd hl (hf i (hclt i (List.mem_of_getElem? hi))), fun e => by omega⟩)
    (fun m i hi hl => absurd hl (hf i (hqc i (List.mem_of_getElem? hi)).2)) (fun t u ht _ => ha0.2.2 t u ht) (fun t u ht => ?_) (fun _ _ => rfl)
  · have : ∀ m, m ≤ ops.size → cnt (Array.replicate ops.size false) m ≤ m := by
      intro m
      induction m with
      | zero => intro _; simp [cnt]
      | succ m ihm => intro h; have := ihm (by omega); simp only [cnt]; split <;> omega
    exact this _ (Nat.le_refl _)
  · rw [hlook] at ht
    rcases PhiF_cases _ ht with ⟨k, hk, hkd, rfl⟩ | ⟨_, hu⟩
    · rw [hqget] at hkd
      cases hqk : qis[k]? with
      | none => rw [hqk] at hkd; simp at hkd
      | some q =>
        rw [hqk] at hkd
        have hqm := List.mem_of_getElem? hqk
        exact .inl ⟨q, hqm, hf q (hqc q hqm).2, hkd⟩
    · exact .inr (ha0.2.2 t u hu)
end
end Go.Sh
namespace Go.Sh
open Go.RowKit
set_option linter.unusedSectionVars false
set_option linter.unusedVariables false
set_option linter.unusedSimpArgs false
section
variable (P : Program) (T : Tab) (n : Nat) (W : World → Prop)
/-- an operation that only looks at memory -/
def tkOp (ev : Operand → Option Value) (o : Oper) (k : Value → Prop) : Prop :=
  match pu T.ts ev o.op with
  | some v => k v
  | none => match o.op with
    | .pick c a b => obp (ev c) fun vc => obp (ev a) fun va => obp (ev b) fun vb => match vc with | .bool t => Gd t (k va) (k vb) | _ => False
    | .load t a => obp (ev a) fun va => match va with
      | .pointer (some p) => match getT T.ts t with
        | none => False
        | some i => match aggD i.desc with
          | true => QLd W p i.size fun vs => k (.agg vs.toArray)
          | false => QLd1 W p fun v => k v
      | _ => False
    | .indexAddr t x i => obp (ev x) fun vx => obp (ev i) fun vi => match vi with
      | .int _ m => match getT T.ts t with
        | none => False
        | some ti => match ti.desc with
          | .slice e => match getT T.ts e with
            | none => False
            | some ei => match vx with | .slice A len _ => Ix A len m ei.size fun ad => k (.pointer (some ad)) | _ => False
          | .array len e => match getT T.ts e with
            | none => False
            | some ei => match vx with | .pointer (some p) => Ix (some p) len m ei.size fun ad => k (.pointer (some ad)) | _ => False
          | _ => False
      | _ => False
    | .index t x i => obp (ev x) fun vx => obp (ev i) fun vi => QSm P (Instr.index t vx vi) W k
    | .slice t x lo hi mx => obp (ev x) fun vx => obo (optL ev lo) fun a => obo (optL ev hi) fun b => obo (optL ev mx) fun c => QSm P (Instr.sliceAt t vx a b c) W k
    | .binOp b t x y _ => obp (ev x) fun vx => obp (ev y) fun vy => QSm P (do eqGuard b t x y vx vy; binOp b t vx vy) W k
    | .call c => alo (allSome (c.args.toList.map ev)) fun args => match c.callee with
      | .builtin b => match b with
        | .len => QSm P (Builtin.len_ c.argTypes o.type args.toArray) W k
        | .cap => QSm P (Builtin.cap_ c.argTypes o.type args.toArray) W k
        | _ => False
      | _ => False
    | _ => False
variable {P T n W}
def RunT (P : Program) (W : World → Prop) (ev : Operand → Option Value) (o : Oper) (v : Value) : Prop :=
  ∀ a : Act, (∀ x u, ev x = some u → a.eval x = u) → ∀ w, W w → (execOp a.eval o).run P w = Result.ok (.value v) w
theorem runt_val {ev : Operand → Option Value} {o : Oper} {v : Value} {k : Value → Prop} (hr : ∀ a : Act, (∀ x u, ev x = some u → a.eval x = u) → ∀ w, W w → (execOp a.eval o).run P w = Result.ok (.value v) w) (h : k v) : ∃ v, k v ∧ RunT P W ev o v := ⟨v, h, hr⟩
theorem runt_sm {ev : Operand → Option Value} {o : Oper} {s : Sem Value} {k : Value → Prop} (hr : ∀ a : Act, (∀ x u, ev x = some u → a.eval x = u) → execOp a.eval o = (do pure (.value (← s)))) (h : QSm P s W k) : ∃ v, k v ∧ RunT P W ev o v := by
  obtain ⟨v, h1, h2⟩ := h
  exact ⟨v, h2, fun a hev w hw => by rw [hr a hev]; simp [h1 w hw]⟩
theorem tkOp_run (hT : TabOk P T) {ev : Operand → Option Value} {o : Oper} {k : Value → Prop} (h : tkOp P T W ev o k) : ∃ v, k v ∧ RunT P W ev o v := by
  unfold tkOp at h
  split at h
  · rename_i v hv
    exact runt_val (fun a hev w _ => pu_sound hT.1 w hev hv) h
  · rename_i hnone; clear hnone
    split at h
    · -- pick
      rename_i c x y e
      replace h := obp_some h; obtain ⟨vc, hc, h⟩ := h
      replace h := obp_some h; obtain ⟨vx, hx, h⟩ := h
      replace h := obp_some h; obtain ⟨vy, hy, h⟩ := h
      split at h <;> try (exact h.elim)
      rename_i t
      cases t
      · exact runt_val (v := vy) (fun a hev w _ => by unfold execOp; simp [e, hev _ _ hc, hev _ _ hx, hev _ _ hy, asBool]) (h.2 rfl)
      · exact runt_val (v := vx) (fun a hev w _ => by unfold execOp; simp [e, hev _ _ hc, hev _ _ hx, hev _ _ hy, asBool]) (h.1 rfl)
    · -- load
      rename_i t x e
      replace h := obp_some h; obtain ⟨v, hx, h⟩ := h
      split at h <;> try (exact h.elim)
      rename_i p
      split at h <;> try (exact h.elim)
      rename_i i hi
      split at h
      · rename_i hag
        obtain ⟨vs, hc, h⟩ := h
        refine runt_val (v := .agg vs.toArray) (fun a hev w hw => ?_) h
        have := run_loadCells_list (P := P) w p vs (hc w hw).2
        rw [(hc w hw).1] at this
        unfold execOp
        simp [e, hev _ _ hx, Instr.loadAt, Instr.sureAddr, loadVar, run_isAgg hT.1 w hi, hag, run_size hT.1 hi, this]
      · rename_i hag
        obtain ⟨u, hu, h⟩ := h
        refine runt_val (v := u) (fun a hev w hw => ?_) h
        unfold execOp
        simp [e, hev _ _ hx, Instr.loadAt, Instr.sureAddr, loadVar, run_isAgg hT.1 w hi, hag, hu w hw]
    · -- indexAddr
      rename_i t x y e
      replace h := obp_some h; obtain ⟨v, hx, h⟩ := h
      replace h := obp_some h; obtain ⟨u, hy, h⟩ := h
      split at h <;> try (exact h.elim)
      rename_i kk n
      split at h <;> try (exact h.elim)
      rename_i ti hti
      split at h
      · rename_i el hd
        split at h <;> try (exact h.elim)
        rename_i ei hei
        split at h <;> try (exact h.elim)
        rename_i A len cap
        obtain ⟨hn, h0, h1, h⟩ := h
        obtain ⟨ad, rfl⟩ : ∃ ad, A = some ad := Option.ne_none_iff_exists'.1 hn
        simp only [gA] at h
        refine runt_val (v := .pointer (some (ad.add (n.toNat * ei.size)))) (fun a hev w hw => ?_) h
        unfold execOp
        simp [e, hev _ _ hx, hev _ _ hy, Instr.indexAt, asIntOf, run_und hT.1 hti, hd, h0, h1, run_size hT.1 hei]
      · rename_i len el hd
        split at h <;> try (exact h.elim)
        rename_i ei hei
        split at h <;> try (exact h.elim)
        rename_i p
        obtain ⟨_, h0, h1, h⟩ := h
        simp only [gA] at h
        refine runt_val (v := .pointer (some (p.add (n.toNat * ei.size)))) (fun a hev w hw => ?_) h
        unfold execOp
        simp [e, hev _ _ hx, hev _ _ hy, Instr.indexAt, asIntOf, run_und hT.1 hti, hd, h0, h1, run_size hT.1 hei, Instr.sureAddr]
      · exact h.elim
    · rename_i t x y e
      replace h := obp_some h; obtain ⟨v0, h0, h⟩ := h
      replace h := obp_some h; obtain ⟨v1, h1, h⟩ := h
      exact runt_sm (fun a hev => by unfold execOp; simp only [e, hev _ _ h0, hev _ _ h1]) h
    · rename_i t x lo hi mx e
      replace h := obp_some h; obtain ⟨v0, h0, h⟩ := h
      replace h := obo_some h; obtain ⟨v1, h1, h⟩ := h
      replace h := obo_some h; obtain ⟨v2, h2, h⟩ := h
      replace h := obo_some h; obtain ⟨v3, h3, h⟩ := h
      exact runt_sm (fun a hev => by unfold execOp; simp only [e, hev _ _ h0, optL_ev hev h1, optL_ev hev h2, optL_ev hev h3]) h
    · rename_i b t x y yt e
      replace h := obp_some h; obtain ⟨v0, h0, h⟩ := h
      replace h := obp_some h; obtain ⟨v1, h1, h⟩ := h
      exact runt_sm (fun a hev => by unfold execOp; simp only [e, hev _ _ h0, hev _ _ h1]) h
    · -- call
      rename_i c e
      replace h := alo_some h; obtain ⟨args, hargs, h⟩ := h
      split at h
      · rename_i b hc
        split at h
        · exact runt_sm (fun a hev => by unfold execOp; simp only [e, resolve, hc, map_ev hev hargs, pure_bind, invoke, builtin]) h
        · exact runt_sm (fun a hev => by unfold execOp; simp only [e, resolve, hc, map_ev hev hargs, pure_bind, invoke, builtin]) h
        · exact h.elim
      · exact h.elim
    · exact h.elim
section
variable (P : Program) (T : Tab) (n : Nat) (W : World → Prop)
def stepLn (all : List Oper) (aL : List Nat) (o : Oper) (_r : List Oper) (ih : Nat → Fr → World → (Fr → World → Prop) → Prop) (k : Nat) (F : Fr) (w : World) (kk : Fr → World → Prop) : Prop :=
  match dstOk n o.dst with
  | false => False
  | true => match memN aL k with
    | true => match o.guard with
      | none => exOp P T (evR o F) o w (fun v w' => W w' ∧ ih (k + 1) (F.put o.dst v) w' kk) (fun _ _ => False)
      | some _ => False
    | false => match o.guard with
      | none => tkOp P T W (evR o F) o (fun v => ih (k + 1) (F.put o.dst v) w kk)
      | some (j, want) => match guardV all F j with
        | none => False
        | some (d, v) => match v with
          | .bool b => match want with
            | true => Gd b (tkOp P T W (evR o (F.put (some d) (.bool true))) o (fun v => ih (k + 1) ((F.put (some d) (.bool true)).put o.dst v) w kk)) (ih (k + 1) ((F.put (some d) (.bool false)).put o.dst undef) w kk)
            | false => Gd b (ih (k + 1) ((F.put (some d) (.bool true)).put o.dst undef) w kk) (tkOp P T W (evR o (F.put (some d) (.bool false))) o (fun v => ih (k + 1) ((F.put (some d) (.bool false)).put o.dst v) w kk))
          | .tuple _ => ih (k + 1) (F.put o.dst undef) w kk
          | _ => False
def lnOps (all : List Oper) (aL : List Nat) (l : List Oper) : Nat → Fr → World → (Fr → World → Prop) → Prop :=
  List.rec (motive := fun _ => Nat → Fr → World → (Fr → World → Prop) → Prop) (fun _ F w k => k F w) (stepLn P T n W all aL) l
end
def linB (ops : Array Oper) (aL : List Nat) : Nat → Nat → Array Bool → Bool
  | 0, _, listed => (Region.ready .any ops listed).isEmpty
  | g + 1, k, listed => (match memN aL k with | true => decide (Region.ready .any ops listed = [k]) | false => (Region.ready .any ops listed).contains k && Region.free .any ops listed k) && linB ops aL g (k + 1) (listed.setIfInBounds k true)
def linAll (ops : Array Oper) (aL : List Nat) : Bool := Region.noSelect ops && linB ops aL ops.size 0 (Array.replicate ops.size false)
def Qn (n : Nat) (K : Fr → World → Prop) : Exit → Act → World → Prop := fun e a w => e = .normal ∧ ∃ F, Agr n F a ∧ K F w
theorem lnOps_sound (hT : TabOk P T) (all : List Oper) (aL : List Nat) (hsel : Region.noSelect all.toArray = true) {K : Fr → World → Prop} : ∀ (l : List Oper) (k : Nat) (listed : Array Bool) (F : Fr) (a : Act) (w : World),
    Agr n F a → W w → (∀ j, l[j]? = all.toArray[k + j]?) → linB all.toArray aL l.length k listed = true → lnOps P T n W all aL l k F w K → wpAnyH P .any all.toArray (Qn n K) W l.length listed a w
  | [], k, listed, F, a, w, ha, _, _, hB, h => ⟨List.isEmpty_iff.1 hB, rfl, F, ha, h⟩
  | o :: r, k, listed, F, a, w, ha, hw, hl, hB, h => by
    have ih := lnOps_sound hT all aL hsel (K := K) r (k + 1) (listed.setIfInBounds k true)
    have h0 : all.toArray[k]? = some o := by simpa using (hl 0).symm
    have hl' : ∀ j, r[j]? = all.toArray[k + 1 + j]? := fun j => by have := hl (j + 1); simpa [Nat.add_assoc, Nat.add_comm 1 j] using this
    change stepLn P T n W all aL o r (lnOps P T n W all aL r) k F w K at h
    unfold stepLn at h
    simp only [List.length_cons, linB, Bool.and_eq_true] at hB
    obtain ⟨hB1, hB2⟩ := hB
    split at h; · exact h.elim
    rename_i hd
    have tk : memN aL k = false → ∀ v, YieldsIf P all.toArray W o v a → (Agr n (F.put o.dst v) (a.put o.dst v) → wpAnyH P .any all.toArray (Qn n K) W r.length (listed.setIfInBounds k true) (a.put o.dst v) w) → wpAnyH P .any all.toArray (Qn n K) W (r.length + 1) listed a w := fun hm v hy hn => by
      rw [hm] at hB1
      simp only [Bool.and_eq_true] at hB1
      exact wpAnyH_take h0 hsel hB1.2 hB1.1 (fun c a w q => nomatch q.1) hy hw (hn (ha.put hd v))
    split at h
    · rename_i hm
      rw [hm] at hB1
      simp only [decide_eq_true_eq] at hB1
      split at h
      · rename_i hg
        refine ⟨fun e => absurd (e.symm.trans hB1) (by simp), fun i hi => ?_⟩
        rw [hB1] at hi
        have hik : i = k := by simpa using hi
        subst hik
        unfold wpOp
        simp only [h0]
        rw [if_pos (wanted_none hg)]
        refine .inl (exOp_sound hT (fun x v h => ha.ev x v (evR_evF h)) h (fun v w' q => ⟨q.1, ih _ _ _ (ha.put hd v) q.1 hl' hB2 q.2⟩) (fun ch w' q => q.elim))
      · exact h.elim
    · rename_i hm
      split at h
      · rename_i hg
        obtain ⟨v, hk, hr⟩ := tkOp_run hT h
        exact tk hm v (.inl ⟨wanted_none hg, hr a (fun x v h => ha.ev x v (evR_evF h))⟩) fun ha' => ih _ _ _ ha' hw hl' hB2 hk
      · rename_i j want hg
        split at h; · exact h.elim
        rename_i d v hgv
        obtain ⟨hld, hy⟩ := guard_yield ha hgv
        split at h
        · rename_i b
          simp only at hy
          split at h
          · cases b
            · exact tk hm undef (.inr ⟨by simp [Region.wanted, hg, hy], rfl⟩) fun _ => ih _ _ _ ((ha.same hld).put hd _) hw hl' hB2 (h.2 rfl)
            · obtain ⟨v, hk, hr⟩ := tkOp_run hT (h.1 rfl)
              exact tk hm v (.inl ⟨by simp [Region.wanted, hg, hy], hr a (fun x v h => (ha.same hld).ev x v (evR_evF h))⟩) fun _ => ih _ _ _ ((ha.same hld).put hd _) hw hl' hB2 hk
          · cases b
            · obtain ⟨v, hk, hr⟩ := tkOp_run hT (h.2 rfl)
              exact tk hm v (.inl ⟨by simp [Region.wanted, hg, hy], hr a (fun x v h => (ha.same hld).ev x v (evR_evF h))⟩) fun _ => ih _ _ _ ((ha.same hld).put hd _) hw hl' hB2 hk
            · exact tk hm undef (.inr ⟨by simp [Region.wanted, hg, hy], rfl⟩) fun _ => ih _ _ _ ((ha.same hld).put hd _) hw hl' hB2 (h.1 rfl)
        · simp only at hy
          exact tk hm undef (.inr ⟨by simp [Region.wanted, hg, hy], rfl⟩) fun ha' => ih _ _ _ ha' hw hl' hB2 h
        · exact h.elim
theorem wpOp_monoQ {P : Program} {ops : Array Oper} {Q Q' : Exit → Act → World → Prop} (hp : ∀ c a w, Q (.panic c) a w → Q' (.panic c) a w) (ho : ∀ a w, Q .outgrown a w → Q' .outgrown a w) {i : Nat} {a : Act} {w : World} {K : Act → World → Prop} (h : wpOp P ops Q i K a w) : wpOp P ops Q' i K a w := by
  unfold wpOp at *
  split
  · simpa [*] using h
  · rename_i o hoi
    simp only [hoi] at h
    split
    · rename_i hw
      simp only [hw, if_true] at h
      rcases h with h | ⟨h1, a', w', h2⟩
      · refine .inl ?_
        unfold Oper.wp at *
        generalize (execOp a.eval o).run P w = r at *
        cases r with
        | ok n w' =>
          cases n <;> simp only [Oper.upon] at h ⊢ <;>
            first
              | exact h
              | exact Calls.mono h (fun e w'' he => by cases e <;> first | exact he | exact hp _ _ _ he | exact (fun ⟨a', w', h'⟩ => ⟨a', w', ho _ _ h'⟩ : LetsOut Q → LetsOut Q') he)
              | exact Rows.mono h (fun _ _ he => he)
        | halt x w' => cases x <;> simp only [Oper.upon] at h ⊢ <;> first | exact hp _ _ _ h | exact h
      · exact .inr ⟨h1, a', w', ho _ _ h2⟩
    · rename_i hw
      simp only [hw] at h
      exact h
theorem wpAny_monoQ {P : Program} {md : Region.Mode} {ops : Array Oper} {Q Q' : Exit → Act → World → Prop} (hn : ∀ a w, Q .normal a w → Q' .normal a w) (hp : ∀ c a w, Q (.panic c) a w → Q' (.panic c) a w) (ho : ∀ a w, Q .outgrown a w → Q' .outgrown a w) : ∀ (fuel : Nat) (listed : Array Bool) (a : Act) (w : World), wpAny P md ops Q fuel listed a w → wpAny P md ops Q' fuel listed a w
  | 0, _, _, _, h => ⟨h.1, hn _ _ h.2⟩
  | f + 1, listed, a, w, h => ⟨fun e => hn _ _ (h.1 e), fun i hi => wpOp_monoQ hp ho (wpOp_mono (fun a w => wpAny_monoQ hn hp ho f _ a w) (h.2 i hi))⟩
theorem Dr.lin (hT : TabOk P T) (hm : P.follows .mixedOrders = true) (aL : List Nat) {id : Nat} {ops : Array Oper} {F : Fr} {w : World} {K : Exit → Fr → World → Prop} (hB : linAll ops aL = true)
    (h : ∀ W w1, QW W w Ext → (∀ w', Ext w w' → W w') → Ext w w1 → w1.heap.size = w.heap.size → lnOps P T n W ops.toList aL ops.toList 0 F w1 (fun F w => K .normal F w)) : Dr P n id ops F w K := by
  refine ⟨fun a ha => ?_⟩
  obtain ⟨l⟩ := ops
  simp only [linAll, Bool.and_eq_true] at hB
  have e1 : Ext w { w with drawn := w.drawn + 1 } := ⟨rfl, rfl, rfl, Nat.le_refl _, fun _ _ => rfl⟩
  have H := lnOps_sound (W := fun w' => Ext w w') hT l aL hB.1 l 0 (Array.replicate l.toArray.size false) F a { w with drawn := w.drawn + 1 } ha e1 (fun j => by simp) (by simpa using hB.2)
    (h (fun w' => Ext w w') _ ⟨fun _ q => q, fun a b q r => Ext.trans q r⟩ (fun _ q => q) e1 rfl)
  refine wp_region_any hm ?_
  refine wpAny_monoQ (fun a w q => ?_) (fun c a w q => ?_) (fun a w q => ?_) _ _ _ _ (wpAny_of_held _ _ _ _ H)
  · exact q.2
  · exact nomatch q.1
  · exact nomatch q.1
end
end Go.Sh
namespace Go.Proofs.YtbbadmlekagloaaDoor
open Go Go.Sh
set_option linter.unusedVariables false
set_option linter.unusedSimpArgs false
attribute [local irreducible] Blk Ext RdS
theorem flw_range (f : Fn) (slot : Int) (i : Nat) : 0 ≤ flw f slot i ∧ flw f slot i ≤ 7 := by
  unfold flw
  split <;> split <;> split <;> omega
theorem bits_s (s : Int) (w : World) : Cl Tryd.prog 38 #[.int .i64 s] w (fun v w' => v = .int .i64 (bitS s) ∧ w' = w) (fun _ _ => False) := by
  refine calls_ex (args := [.int .i64 s]) T.ok Tryd.func38 rfl rfl rfl rfl ?_
  have H := Hp.begin nw w
  repeat' ((conv => whnf); first | (((with_reducible show Gd _ _ _); first | with_reducible refine Gd.t ?_ | with_reducible refine Gd.f ?_ | with_reducible refine Gd.dec (fun _ => ?_) (fun _ => ?_) | with_reducible refine Gd.beq (fun _ => ?_) (fun _ => ?_) | with_reducible refine Gd.bne (fun _ => ?_) (fun _ => ?_) | with_reducible refine Gd.not ?_ | refine Gd.t ?_ | refine Gd.f ?_ | with_reducible refine Gd.var (fun _ => ?_) (fun _ => ?_)) <;> first | (exfalso; omega) | skip) | with_reducible refine Sq.mk ?_ | ((with_reducible show Ld1 _ _ _); first | refine Ld1.h H ?_ | refine Ld1.rF ?_ | refine Ld1.r ?_) | ((with_reducible show Ld _ _ _ _); first | refine Ld.h H ?_ | refine Ld.r ?_) | ((with_reducible show Ix _ _ _ _ _); (first | refine Ix.h ?_ | refine Ix.ha ?_)) | (refine Al.hp H ?_; clear H; intro _ _ H _) | (refine St.h H ?_; clear H; intro _ H))
  all_goals (refine ⟨i_eq ?_, rfl⟩; simp_all [bitS])
set_option maxHeartbeats 4000000 in
theorem progShown_c (A : Option Addr) (l : List FE) (c : Nat) (fn at_ : Int) (w : World) (hA : RdP w A l) (hG : RdG w) :
    Cl Tryd.prog 10 #[pv A l.length c, .int .i64 fn, .int .i64 at_] w (fun v w' => v = .bool true ∧ Ext w w') (fun _ _ => False) := by
  have hfl := fns_len l
  refine calls_ex (args := [pv A l.length c, .int .i64 fn, .int .i64 at_]) T.ok Tryd.func10 rfl rfl rfl rfl ?_
  have H := Hp.begin nw w
  refine Sq.mk ?_
  ((conv => whnf); refine Al.hp H ?_; clear H; intro pp _ H _)
  repeat' ((conv => whnf); first | (((with_reducible show Gd _ _ _); first | with_reducible refine Gd.t ?_ | with_reducible refine Gd.f ?_ | with_reducible refine Gd.dec (fun _ => ?_) (fun _ => ?_) | with_reducible refine Gd.beq (fun _ => ?_) (fun _ => ?_) | with_reducible refine Gd.bne (fun _ => ?_) (fun _ => ?_) | with_reducible refine Gd.not ?_ | refine Gd.t ?_ | refine Gd.f ?_ | with_reducible refine Gd.var (fun _ => ?_) (fun _ => ?_)) <;> first | (exfalso; omega) | skip) | with_reducible refine Sq.mk ?_ | ((with_reducible show Ld1 _ _ _); first | refine Ld1.h H ?_ | refine Ld1.rF ?_ | refine Ld1.r ?_) | ((with_reducible show Ld _ _ _ _); first | refine Ld.h H ?_ | refine Ld.r ?_) | ((with_reducible show Ix _ _ _ _ _); (first | refine Ix.h ?_ | refine Ix.ha ?_)) | (refine Al.hp H ?_; clear H; intro _ _ H _) | (refine St.h H ?_; clear H; intro _ H))
  (((conv => whnf); refine Cl.mk (Check_c A l c _ (RdS.from H.e hG) (hA.ext H.e)) ?_); rintro _ _ ⟨rfl, hx⟩; replace H := H.ext hx; clear hx)
  ((conv => whnf); refine Al.hp H ?_; clear H; intro pr _ H _)
  repeat' (first | ((conv => whnf); first | (((with_reducible show Gd _ _ _); first | with_reducible refine Gd.t ?_ | with_reducible refine Gd.f ?_ | with_reducible refine Gd.dec (fun _ => ?_) (fun _ => ?_) | with_reducible refine Gd.beq (fun _ => ?_) (fun _ => ?_) | with_reducible refine Gd.bne (fun _ => ?_) (fun _ => ?_) | with_reducible refine Gd.not ?_ | refine Gd.t ?_ | refine Gd.f ?_ | with_reducible refine Gd.var (fun _ => ?_) (fun _ => ?_)) <;> first | (exfalso; omega) | skip) | with_reducible refine Sq.mk ?_ | ((with_reducible show Ld1 _ _ _); first | refine Ld1.h H ?_ | refine Ld1.rF ?_ | refine Ld1.r ?_) | ((with_reducible show Ld _ _ _ _); first | refine Ld.h H ?_ | refine Ld.r ?_) | ((with_reducible show Ix _ _ _ _ _); (first | refine Ix.h ?_ | refine Ix.ha ?_)) | (refine Al.hp H ?_; clear H; intro _ _ H _) | (refine St.h H ?_; clear H; intro _ H)) | (((conv => whnf); refine Cl.mk (head_c _ (RdS.from H.e hG)) ?_); rintro _ _ ⟨rfl, hx⟩; replace H := H.ext hx; clear hx))
  · exact ⟨rfl, H.e⟩
  · exact ⟨rfl, H.e⟩
  rename_i hz hle
  have hz : (checkL (fns l)).1 = 0 := by first | exact Classical.not_not.1 hz | exact hz
  have hV := check_ok.1 hz
  have hlen := hV.len
  have hml := modN_lt fn (show 0 < l.length by omega)
  generalize hk : modN fn l.length = k at hml
  obtain ⟨x, hx⟩ : ∃ x, l[k]? = some x := ⟨_, List.getElem?_eq_getElem hml⟩
  have hxm := List.mem_of_getElem? hx
  have hfm : x.1 ∈ fns l := List.mem_map.2 ⟨x, hxm, rfl⟩
  have hS := hV.sound hfm
  have hsh := hV.shaped x.1 hfm
  obtain ⟨hl1, hl2⟩ := shaped_len hsh
  obtain ⟨m, hm, hm8⟩ := slots_nat hsh
  have hins := hV.ins x.1 hfm
  have hmod : ∀ w', Cl Tryd.prog 34 #[.int .i64 fn, .int .i64 (l.length : Int)] w' (fun v w'' => v = .int .i64 (k : Int) ∧ Ext w' w'') (fun _ _ => False) := fun w' => by
    have := mod_c fn l.length w' (by omega) (by omega)
    rw [hk] at this
    exact this
  have hml2 := modN_lt at_ (show 0 < x.1.code.length by omega)
  generalize hk2 : modN at_ x.1.code.length = j at hml2
  have hmod2 : ∀ w', Cl Tryd.prog 34 #[.int .i64 at_, .int .i64 (x.1.code.length : Int)] w' (fun v w'' => v = .int .i64 (j : Int) ∧ Ext w' w'') (fun _ _ => False) := fun w' => by
    have := mod_c at_ x.1.code.length w' (by omega) (by omega)
    rw [hk2] at this
    exact this
  have hA5 := RdS.from H.e hA.top
  repeat' ((conv => whnf); first | (((with_reducible show Gd _ _ _); first | with_reducible refine Gd.t ?_ | with_reducible refine Gd.f ?_ | with_reducible refine Gd.dec (fun _ => ?_) (fun _ => ?_) | with_reducible refine Gd.beq (fun _ => ?_) (fun _ => ?_) | with_reducible refine Gd.bne (fun _ => ?_) (fun _ => ?_) | with_reducible refine Gd.not ?_ | refine Gd.t ?_ | refine Gd.f ?_ | with_reducible refine Gd.var (fun _ => ?_) (fun _ => ?_)) <;> first | (exfalso; omega) | skip) | with_reducible refine Sq.mk ?_ | ((with_reducible show Ld1 _ _ _); first | refine Ld1.h H ?_ | refine Ld1.rF ?_ | refine Ld1.r ?_) | ((with_reducible show Ld _ _ _ _); first | refine Ld.h H ?_ | refine Ld.r ?_) | ((with_reducible show Ix _ _ _ _ _); (first | refine Ix.h ?_ | refine Ix.ha ?_)) | (refine Al.hp H ?_; clear H; intro _ _ H _) | (refine St.h H ?_; clear H; intro _ H))
  ((conv => whnf); refine Dr.al T.ok mixed 9 (by kernel_rfl) rfl rfl rfl rfl rfl rfl rfl rfl (fun W hW => ?_))
  repeat' (first | ((conv => whnf); first | (((with_reducible show Gd _ _ _); first | with_reducible refine Gd.t ?_ | with_reducible refine Gd.f ?_ | with_reducible refine Gd.dec (fun _ => ?_) (fun _ => ?_) | with_reducible refine Gd.beq (fun _ => ?_) (fun _ => ?_) | with_reducible refine Gd.bne (fun _ => ?_) (fun _ => ?_) | with_reducible refine Gd.not ?_ | refine Gd.t ?_ | refine Gd.f ?_ | with_reducible refine Gd.var (fun _ => ?_) (fun _ => ?_)) <;> first | (exfalso; omega) | skip) | ((with_reducible show QLd1 _ _ _); first | refine QLd1.h hW H ?_ | refine QLd1.rF hW ?_ | refine QLd1.r hW ?_) | ((with_reducible show QLd _ _ _ _); first | refine QLd.h hW H ?_ | refine QLd.r hW ?_) | ((with_reducible show Ix _ _ _ _ _); (first | refine Ix.h ?_ | refine Ix.ha ?_))) | ((conv => whnf); refine QCl.mk hW (fun _ ee => Cl.mk (hmod _) (fun _ _ h => h)) ?_))
  clear hA5
  (intro pf _ hlo eT hbT; replace H := H.fr0 (Hp.one (Tch.of_ext eT) (bk_ok hbT) (fun k hk => .inr (by subst hk; exact hlo))) (.inl rfl); clear hbT eT hW)
  repeat' ((conv => whnf); first | (((with_reducible show Gd _ _ _); first | with_reducible refine Gd.t ?_ | with_reducible refine Gd.f ?_ | with_reducible refine Gd.dec (fun _ => ?_) (fun _ => ?_) | with_reducible refine Gd.beq (fun _ => ?_) (fun _ => ?_) | with_reducible refine Gd.bne (fun _ => ?_) (fun _ => ?_) | with_reducible refine Gd.not ?_ | refine Gd.t ?_ | refine Gd.f ?_ | with_reducible refine Gd.var (fun _ => ?_) (fun _ => ?_)) <;> first | (exfalso; omega) | skip) | with_reducible refine Sq.mk ?_ | ((with_reducible show Ld1 _ _ _); first | refine Ld1.h H ?_ | refine Ld1.rF ?_ | refine Ld1.r ?_) | ((with_reducible show Ld _ _ _ _); first | refine Ld.h H ?_ | refine Ld.r ?_) | ((with_reducible show Ix _ _ _ _ _); (first | refine Ix.h ?_ | refine Ix.ha ?_)) | (refine Al.hp H ?_; clear H; intro _ _ H _) | (refine St.h H ?_; clear H; intro _ H))
  ((conv => whnf); refine Cl.mk (pFlow_yes x.1 x.2.1 x.2.2 m _ (RdS.from H.e (hA.code x hxm)) (RdS.from H.e hG) hS hm hm8) ?_)
  rintro _ w2 ⟨p, ps, rfl, hpl2, hM, e⟩
  replace H := H.fr0 (mx_new hM e) (.inl rfl)
  clear hM e
  have hjn : ((x.1.code.length : Nat) : Int) ≠ 0 := by omega
  repeat' (first | ((conv => whnf); first | (((with_reducible show Gd _ _ _); first | with_reducible refine Gd.t ?_ | with_reducible refine Gd.f ?_ | with_reducible refine Gd.dec (fun _ => ?_) (fun _ => ?_) | with_reducible refine Gd.beq (fun _ => ?_) (fun _ => ?_) | with_reducible refine Gd.bne (fun _ => ?_) (fun _ => ?_) | with_reducible refine Gd.not ?_ | refine Gd.t ?_ | refine Gd.f ?_ | with_reducible refine Gd.var (fun _ => ?_) (fun _ => ?_)) <;> first | (exfalso; omega) | skip) | with_reducible refine Sq.mk ?_ | ((with_reducible show Ld1 _ _ _); first | refine Ld1.h H ?_ | refine Ld1.rF ?_ | refine Ld1.r ?_) | ((with_reducible show Ld _ _ _ _); first | refine Ld.h H ?_ | refine Ld.r ?_) | ((with_reducible show Ix _ _ _ _ _); (first | refine Ix.h ?_ | refine Ix.ha ?_)) | (refine Al.hp H ?_; clear H; intro _ _ H _) | (refine St.h H ?_; clear H; intro _ H)) | (((conv => whnf); refine Cl.mk (hmod2 _) ?_); rintro _ _ ⟨rfl, hx⟩; replace H := H.ext hx; clear hx))
  all_goals first | (exfalso; omega) | skip
  replace H := H.sel [0, 0, 1] rfl
  obtain ⟨bb, H⟩ : ∃ bb, Hp nw w _ [mxk bb p x.1.code.length m ps (flwG x.1), bk pf 24 (x.1.v x.2.1 x.2.2).cells.toList, bk pp 46 (pv A l.length c).cells.toList] := ⟨_, H⟩
  refine Lp.g0 T.ok (σ := Nat) (fun s => [(10, .int .i64 (s : Int)), (9, .slice (some ⟨p, 0, none⟩) x.1.code.length x.1.code.length), (8, .pointer (some ⟨pf, 0, none⟩)), (3, .pointer (some ⟨pp, 0, none⟩)), (2, .int .i64 (j : Int))])
    (fun s w' => s ≤ m ∧ Hp nw w w' [mxk bb p x.1.code.length m ps (flwG x.1), bk pf 24 (x.1.v x.2.1 x.2.2).cells.toList, bk pp 46 (pv A l.length c).cells.toList]) (fun s _ => m - s) 0 rfl ⟨rfl, rfl, rfl, rfl, rfl, trivial⟩ ⟨Nat.zero_le _, H⟩ ?_
  clear H
  rintro s w5 ⟨hs, H⟩
  by_cases hsm : s < m
  case neg =>
    repeat' ((conv => whnf); first | (((with_reducible show Gd _ _ _); first | with_reducible refine Gd.t ?_ | with_reducible refine Gd.f ?_ | with_reducible refine Gd.dec (fun _ => ?_) (fun _ => ?_) | with_reducible refine Gd.beq (fun _ => ?_) (fun _ => ?_) | with_reducible refine Gd.bne (fun _ => ?_) (fun _ => ?_) | with_reducible refine Gd.not ?_ | refine Gd.t ?_ | refine Gd.f ?_ | with_reducible refine Gd.var (fun _ => ?_) (fun _ => ?_)) <;> first | (exfalso; omega) | skip) | with_reducible refine Sq.mk ?_ | ((with_reducible show Ld1 _ _ _); first | refine Ld1.h H ?_ | refine Ld1.rF ?_ | refine Ld1.r ?_) | ((with_reducible show Ld _ _ _ _); first | refine Ld.h H ?_ | refine Ld.r ?_) | ((with_reducible show Ix _ _ _ _ _); (first | refine Ix.h ?_ | refine Ix.ha ?_)) | (refine Al.hp H ?_; clear H; intro _ _ H _) | (refine St.h H ?_; clear H; intro _ H))
    exact ⟨rfl, H.e⟩
  obtain ⟨q, hq⟩ : ∃ q, ps[j]? = some q := ⟨_, List.getElem?_eq_getElem (by omega)⟩
  have hMf : ∀ w', Hp nw w w' [mxk bb p x.1.code.length m ps (flwG x.1), bk pf 24 (x.1.v x.2.1 x.2.2).cells.toList, bk pp 46 (pv A l.length c).cells.toList] → Mx w' bb p x.1.code.length m ps (flwG x.1) := fun w' h => h.atC 0 rfl
  have hg := rowL_at (g := flwG x.1 j) hsm
  have hlen2 := rowL_len m (flwG x.1 j)
  obtain ⟨hge0, hge7⟩ := flw_range x.1 s j
  replace hge0 : 0 ≤ flwG x.1 j s := hge0
  replace hge7 : flwG x.1 j s ≤ 7 := hge7
  have hat0 : (j : Int) = 0 → ¬ bitand (flwG x.1 j s) 1 = 0 := fun h0 e => by
    have hj0 : j = 0 := by omega
    subst hj0
    exact (flw_and (f := x.1) (slot := s) (i := 0) (.inl rfl)).1 e Reach.start
  have hM := hMf _ H
  have hrr := hM.rd (by omega)
  have hat := hM.at hq
  have hlm := hM.len
  have hrow := rd_full (hM.row j q hq) (fun _ _ => rfl)
  rcases Nat.eq_zero_or_pos j with hj0 | hj0
  · repeat' ((conv => whnf); first | (((with_reducible show Gd _ _ _); first | with_reducible refine Gd.t ?_ | with_reducible refine Gd.f ?_ | with_reducible refine Gd.dec (fun _ => ?_) (fun _ => ?_) | with_reducible refine Gd.beq (fun _ => ?_) (fun _ => ?_) | with_reducible refine Gd.bne (fun _ => ?_) (fun _ => ?_) | with_reducible refine Gd.not ?_ | refine Gd.t ?_ | refine Gd.f ?_ | with_reducible refine Gd.var (fun _ => ?_) (fun _ => ?_)) <;> first | (exfalso; omega) | skip) | with_reducible refine Sq.mk ?_ | ((with_reducible show Ld1 _ _ _); first | refine Ld1.h H ?_ | refine Ld1.rF ?_ | refine Ld1.r ?_) | ((with_reducible show Ld _ _ _ _); first | refine Ld.h H ?_ | refine Ld.r ?_) | ((with_reducible show Ix _ _ _ _ _); (first | refine Ix.h ?_ | refine Ix.ha ?_)) | (refine Al.hp H ?_; clear H; intro _ _ H _) | (refine St.h H ?_; clear H; intro _ H))
    ((conv => whnf); refine Dr.quiet T.ok mixed (by kernel_rfl) (fun W hW => ?_))
    repeat' ((conv => whnf); first | (((with_reducible show Gd _ _ _); first | with_reducible refine Gd.t ?_ | with_reducible refine Gd.f ?_ | with_reducible refine Gd.dec (fun _ => ?_) (fun _ => ?_) | with_reducible refine Gd.beq (fun _ => ?_) (fun _ => ?_) | with_reducible refine Gd.bne (fun _ => ?_) (fun _ => ?_) | with_reducible refine Gd.not ?_ | refine Gd.t ?_ | refine Gd.f ?_ | with_reducible refine Gd.var (fun _ => ?_) (fun _ => ?_)) <;> first | (exfalso; omega) | skip) | ((with_reducible show QLd1 _ _ _); first | refine QLd1.h hW H ?_ | refine QLd1.rF hW ?_ | refine QLd1.r hW ?_) | ((with_reducible show QLd _ _ _ _); first | refine QLd.h hW H ?_ | refine QLd.r hW ?_) | ((with_reducible show Ix _ _ _ _ _); (first | refine Ix.h ?_ | refine Ix.ha ?_)))
    all_goals first | (exfalso; omega) | (exfalso; exact hat0 (by assumption) (by assumption)) | skip
    (intro _ eT; replace H := H.ext eT; clear hW eT)
    clear hrr hM hrow
    repeat' ((conv => whnf); first | (((with_reducible show Gd _ _ _); first | with_reducible refine Gd.t ?_ | with_reducible refine Gd.f ?_ | with_reducible refine Gd.dec (fun _ => ?_) (fun _ => ?_) | with_reducible refine Gd.beq (fun _ => ?_) (fun _ => ?_) | with_reducible refine Gd.bne (fun _ => ?_) (fun _ => ?_) | with_reducible refine Gd.not ?_ | refine Gd.t ?_ | refine Gd.f ?_ | with_reducible refine Gd.var (fun _ => ?_) (fun _ => ?_)) <;> first | (exfalso; omega) | skip) | with_reducible refine Sq.mk ?_ | ((with_reducible show Ld1 _ _ _); first | refine Ld1.h H ?_ | refine Ld1.rF ?_ | refine Ld1.r ?_) | ((with_reducible show Ld _ _ _ _); first | refine Ld.h H ?_ | refine Ld.r ?_) | ((with_reducible show Ix _ _ _ _ _); (first | refine Ix.h ?_ | refine Ix.ha ?_)) | (refine Al.hp H ?_; clear H; intro _ _ H _) | (refine St.h H ?_; clear H; intro _ H))
    all_goals first | (exfalso; omega) | (exfalso; exact hat0 (by omega) (by assumption)) | skip
    refine Lp.g0 T.ok (σ := Nat) (fun k => [(11, .int .i64 (k : Int)), (10, .int .i64 (s : Int)), (9, .slice (some ⟨p, 0, none⟩) x.1.code.length x.1.code.length), (8, .pointer (some ⟨pf, 0, none⟩)), (3, .pointer (some ⟨pp, 0, none⟩)), (2, .int .i64 (j : Int))])
      (fun k w' => k ≤ 3 ∧ Hp nw w w' [mxk bb p x.1.code.length m ps (flwG x.1), bk pf 24 (x.1.v x.2.1 x.2.2).cells.toList, bk pp 46 (pv A l.length c).cells.toList]) (fun k _ => 3 - k) 0 rfl ⟨rfl, rfl, rfl, rfl, rfl, rfl, trivial⟩ ⟨Nat.zero_le _, H⟩ ?_
    clear H
    rintro k w6 ⟨hk3, H⟩
    by_cases hkl : k < 3
    case neg =>
      repeat' ((conv => whnf); first | (((with_reducible show Gd _ _ _); first | with_reducible refine Gd.t ?_ | with_reducible refine Gd.f ?_ | with_reducible refine Gd.dec (fun _ => ?_) (fun _ => ?_) | with_reducible refine Gd.beq (fun _ => ?_) (fun _ => ?_) | with_reducible refine Gd.bne (fun _ => ?_) (fun _ => ?_) | with_reducible refine Gd.not ?_ | refine Gd.t ?_ | refine Gd.f ?_ | with_reducible refine Gd.var (fun _ => ?_) (fun _ => ?_)) <;> first | (exfalso; omega) | skip) | with_reducible refine Sq.mk ?_ | ((with_reducible show Ld1 _ _ _); first | refine Ld1.h H ?_ | refine Ld1.rF ?_ | refine Ld1.r ?_) | ((with_reducible show Ld _ _ _ _); first | refine Ld.h H ?_ | refine Ld.r ?_) | ((with_reducible show Ix _ _ _ _ _); (first | refine Ix.h ?_ | refine Ix.ha ?_)) | (refine Al.hp H ?_; clear H; intro _ _ H _) | (refine St.h H ?_; clear H; intro _ H))
      exact ⟨s + 1, ⟨at_int rfl (w64 (by simp) (by omega) (by omega)), rfl, rfl, rfl, rfl, trivial⟩, rfl, ⟨by omega, H⟩, by omega⟩
    repeat' ((conv => whnf); first | (((with_reducible show Gd _ _ _); first | with_reducible refine Gd.t ?_ | with_reducible refine Gd.f ?_ | with_reducible refine Gd.dec (fun _ => ?_) (fun _ => ?_) | with_reducible refine Gd.beq (fun _ => ?_) (fun _ => ?_) | with_reducible refine Gd.bne (fun _ => ?_) (fun _ => ?_) | with_reducible refine Gd.not ?_ | refine Gd.t ?_ | refine Gd.f ?_ | with_reducible refine Gd.var (fun _ => ?_) (fun _ => ?_)) <;> first | (exfalso; omega) | skip) | with_reducible refine Sq.mk ?_ | ((with_reducible show Ld1 _ _ _); first | refine Ld1.h H ?_ | refine Ld1.rF ?_ | refine Ld1.r ?_) | ((with_reducible show Ld _ _ _ _); first | refine Ld.h H ?_ | refine Ld.r ?_) | ((with_reducible show Ix _ _ _ _ _); (first | refine Ix.h ?_ | refine Ix.ha ?_)) | (refine Al.hp H ?_; clear H; intro _ _ H _) | (refine St.h H ?_; clear H; intro _ H))
    refine Dr.lin T.ok mixed [4, 5] (by kernel_rfl) (fun W w0 hW hmk eT _ => ?_)
    repeat' ((conv => whnf); first | (((with_reducible show Gd _ _ _); first | with_reducible refine Gd.t ?_ | with_reducible refine Gd.f ?_ | with_reducible refine Gd.dec (fun _ => ?_) (fun _ => ?_) | with_reducible refine Gd.beq (fun _ => ?_) (fun _ => ?_) | with_reducible refine Gd.bne (fun _ => ?_) (fun _ => ?_) | with_reducible refine Gd.not ?_ | refine Gd.t ?_ | refine Gd.f ?_ | with_reducible refine Gd.var (fun _ => ?_) (fun _ => ?_)) <;> first | (exfalso; omega) | skip) | ((with_reducible show QLd1 _ _ _); first | refine QLd1.h hW H ?_ | refine QLd1.rF hW ?_ | refine QLd1.r hW ?_) | ((with_reducible show QLd _ _ _ _); first | refine QLd.h hW H ?_ | refine QLd.r hW ?_) | ((with_reducible show Ix _ _ _ _ _); (first | refine Ix.h ?_ | refine Ix.ha ?_)))
    have H1 := H.ext eT
    ((conv => whnf); refine Cl.mk (bits_s k _) ?_)
    rintro _ _ ⟨rfl, rfl⟩
    refine ⟨hmk _ eT, ?_⟩
    (conv => whnf)
    ((conv => whnf); refine Cl.mk (Trail_c x.1 x.2.1 x.2.2 j s (bitS k) _ (RdS.from H1.e (hA.code x hxm)) (RdS.from H1.e hG)) ?_)
    rintro _ w1 ⟨A1, l1, c1, e1, rfl, hr1, ex1, hv1, _⟩
    refine ⟨hmk _ (Ext.trans eT ex1), ?_⟩
    repeat' ((conv => whnf); first | (((with_reducible show Gd _ _ _); first | with_reducible refine Gd.t ?_ | with_reducible refine Gd.f ?_ | with_reducible refine Gd.dec (fun _ => ?_) (fun _ => ?_) | with_reducible refine Gd.beq (fun _ => ?_) (fun _ => ?_) | with_reducible refine Gd.bne (fun _ => ?_) (fun _ => ?_) | with_reducible refine Gd.not ?_ | refine Gd.t ?_ | refine Gd.f ?_ | with_reducible refine Gd.var (fun _ => ?_) (fun _ => ?_)) <;> first | (exfalso; omega) | skip) | ((with_reducible show QLd1 _ _ _); first | refine QLd1.h hW H ?_ | refine QLd1.rF hW ?_ | refine QLd1.r hW ?_) | ((with_reducible show QLd _ _ _ _); first | refine QLd.h hW H ?_ | refine QLd.r hW ?_) | ((with_reducible show Ix _ _ _ _ _); (first | refine Ix.h ?_ | refine Ix.ha ?_)))
    replace H := H1.ext ex1
    clear H1 hW hmk eT
    have hM := hMf _ H
    have hrr := hM.rd (by omega)
    have hat := hM.at hq
    have hlm := hM.len
    have hrow := rd_full (hM.row j q hq) (fun _ _ => rfl)
    rcases trail_or hv1 hS hml2 (by omega) (okS_bit k) with ⟨rfl, hR1, hg1⟩ | ⟨rfl, hR1, rfl⟩
    · have hbit : ¬ bitand (flwG x.1 j s) (bitS k) = 0 := fun e => (flw_and (f := x.1) (slot := s) (i := j) (okS_bit k)).1 e hR1
      repeat' ((conv => whnf); first | (((with_reducible show Gd _ _ _); first | with_reducible refine Gd.t ?_ | with_reducible refine Gd.f ?_ | with_reducible refine Gd.dec (fun _ => ?_) (fun _ => ?_) | with_reducible refine Gd.beq (fun _ => ?_) (fun _ => ?_) | with_reducible refine Gd.bne (fun _ => ?_) (fun _ => ?_) | with_reducible refine Gd.not ?_ | refine Gd.t ?_ | refine Gd.f ?_ | with_reducible refine Gd.var (fun _ => ?_) (fun _ => ?_)) <;> first | (exfalso; omega) | skip) | with_reducible refine Sq.mk ?_ | ((with_reducible show Ld1 _ _ _); first | refine Ld1.h H ?_ | refine Ld1.rF ?_ | refine Ld1.r ?_) | ((with_reducible show Ld _ _ _ _); first | refine Ld.h H ?_ | refine Ld.r ?_) | ((with_reducible show Ix _ _ _ _ _); (first | refine Ix.h ?_ | refine Ix.ha ?_)) | (refine Al.hp H ?_; clear H; intro _ _ H _) | (refine St.h H ?_; clear H; intro _ H))
      ((conv => whnf); refine Dr.quiet T.ok mixed (by kernel_rfl) (fun W hW => ?_))
      repeat' (first | ((conv => whnf); first | (((with_reducible show Gd _ _ _); first | with_reducible refine Gd.t ?_ | with_reducible refine Gd.f ?_ | with_reducible refine Gd.dec (fun _ => ?_) (fun _ => ?_) | with_reducible refine Gd.beq (fun _ => ?_) (fun _ => ?_) | with_reducible refine Gd.bne (fun _ => ?_) (fun _ => ?_) | with_reducible refine Gd.not ?_ | refine Gd.t ?_ | refine Gd.f ?_ | with_reducible refine Gd.var (fun _ => ?_) (fun _ => ?_)) <;> first | (exfalso; omega) | skip) | ((with_reducible show QLd1 _ _ _); first | refine QLd1.h hW H ?_ | refine QLd1.rF hW ?_ | refine QLd1.r hW ?_) | ((with_reducible show QLd _ _ _ _); first | refine QLd.h hW H ?_ | refine QLd.r hW ?_) | ((with_reducible show Ix _ _ _ _ _); (first | refine Ix.h ?_ | refine Ix.ha ?_))) | ((conv => whnf); refine QCl.mk hW (fun _ ee => Cl.mk (bits_c k _) (fun _ _ h => h)) ?_))
      intro _ eT; replace H := H.ext eT; replace hr1 := RdS.from eT hr1; clear hW eT
      clear hrr hM hrow
      repeat' ((conv => whnf); first | (((with_reducible show Gd _ _ _); first | with_reducible refine Gd.t ?_ | with_reducible refine Gd.f ?_ | with_reducible refine Gd.dec (fun _ => ?_) (fun _ => ?_) | with_reducible refine Gd.beq (fun _ => ?_) (fun _ => ?_) | with_reducible refine Gd.bne (fun _ => ?_) (fun _ => ?_) | with_reducible refine Gd.not ?_ | refine Gd.t ?_ | refine Gd.f ?_ | with_reducible refine Gd.var (fun _ => ?_) (fun _ => ?_)) <;> first | (exfalso; omega) | skip) | with_reducible refine Sq.mk ?_ | ((with_reducible show Ld1 _ _ _); first | refine Ld1.h H ?_ | refine Ld1.rF ?_ | refine Ld1.r ?_) | ((with_reducible show Ld _ _ _ _); first | refine Ld.h H ?_ | refine Ld.r ?_) | ((with_reducible show Ix _ _ _ _ _); (first | refine Ix.h ?_ | refine Ix.ha ?_)) | (refine Al.hp H ?_; clear H; intro _ _ H _) | (refine St.h H ?_; clear H; intro _ H))
      ((conv => whnf); refine Dr.quiet T.ok mixed (by kernel_rfl) (fun W hW => ?_))
      repeat' (first | ((conv => whnf); first | (((with_reducible show Gd _ _ _); first | with_reducible refine Gd.t ?_ | with_reducible refine Gd.f ?_ | with_reducible refine Gd.dec (fun _ => ?_) (fun _ => ?_) | with_reducible refine Gd.beq (fun _ => ?_) (fun _ => ?_) | with_reducible refine Gd.bne (fun _ => ?_) (fun _ => ?_) | with_reducible refine Gd.not ?_ | refine Gd.t ?_ | refine Gd.f ?_ | with_reducible refine Gd.var (fun _ => ?_) (fun _ => ?_)) <;> first | (exfalso; omega) | skip) | ((with_reducible show QLd1 _ _ _); first | refine QLd1.h hW H ?_ | refine QLd1.rF hW ?_ | refine QLd1.r hW ?_) | ((with_reducible show QLd _ _ _ _); first | refine QLd.h hW H ?_ | refine QLd.r hW ?_) | ((with_reducible show Ix _ _ _ _ _); (first | refine Ix.h ?_ | refine Ix.ha ?_))) | ((conv => whnf); refine QCl.mk hW (fun _ ee => Cl.mk (bits_c k _) (fun _ _ h => h)) ?_) | ((conv => whnf); refine QCl.mk hW (fun _ ee => Cl.mk (leads_c x A l c l1 A1 c1 j s (bitS k) _ (hA.ext (Ext.trans H.e ee)) hxm (RdS.from ee hr1) hS hins (by omega) hg1) (fun _ _ h => h)) ?_))
      all_goals first | (exfalso; exact hbit (by assumption)) | skip
      (intro _ eT; replace H := H.ext eT; clear hW eT)
      repeat' ((conv => whnf); first | (((with_reducible show Gd _ _ _); first | with_reducible refine Gd.t ?_ | with_reducible refine Gd.f ?_ | with_reducible refine Gd.dec (fun _ => ?_) (fun _ => ?_) | with_reducible refine Gd.beq (fun _ => ?_) (fun _ => ?_) | with_reducible refine Gd.bne (fun _ => ?_) (fun _ => ?_) | with_reducible refine Gd.not ?_ | refine Gd.t ?_ | refine Gd.f ?_ | with_reducible refine Gd.var (fun _ => ?_) (fun _ => ?_)) <;> first | (exfalso; omega) | skip) | with_reducible refine Sq.mk ?_ | ((with_reducible show Ld1 _ _ _); first | refine Ld1.h H ?_ | refine Ld1.rF ?_ | refine Ld1.r ?_) | ((with_reducible show Ld _ _ _ _); first | refine Ld.h H ?_ | refine Ld.r ?_) | ((with_reducible show Ix _ _ _ _ _); (first | refine Ix.h ?_ | refine Ix.ha ?_)) | (refine Al.hp H ?_; clear H; intro _ _ H _) | (refine St.h H ?_; clear H; intro _ H))
      all_goals first | (exfalso; exact hbit (by assumption)) | skip
      exact ⟨k + 1, ⟨at_int rfl (w64 (by simp) (by omega) (by omega)), rfl, rfl, rfl, rfl, rfl, trivial⟩, rfl, ⟨by omega, H⟩, by omega⟩
    · have hz0 : ((([] : List Int).length : Nat) : Int) = 0 := rfl
      have hbit : bitand (flwG x.1 j s) (bitS k) = 0 := (flw_and (f := x.1) (slot := s) (i := j) (okS_bit k)).2 hR1
      repeat' ((conv => whnf); first | (((with_reducible show Gd _ _ _); first | with_reducible refine Gd.t ?_ | with_reducible refine Gd.f ?_ | with_reducible refine Gd.dec (fun _ => ?_) (fun _ => ?_) | with_reducible refine Gd.beq (fun _ => ?_) (fun _ => ?_) | with_reducible refine Gd.bne (fun _ => ?_) (fun _ => ?_) | with_reducible refine Gd.not ?_ | refine Gd.t ?_ | refine Gd.f ?_ | with_reducible refine Gd.var (fun _ => ?_) (fun _ => ?_)) <;> first | (exfalso; omega) | skip) | with_reducible refine Sq.mk ?_ | ((with_reducible show Ld1 _ _ _); first | refine Ld1.h H ?_ | refine Ld1.rF ?_ | refine Ld1.r ?_) | ((with_reducible show Ld _ _ _ _); first | refine Ld.h H ?_ | refine Ld.r ?_) | ((with_reducible show Ix _ _ _ _ _); (first | refine Ix.h ?_ | refine Ix.ha ?_)) | (refine Al.hp H ?_; clear H; intro _ _ H _) | (refine St.h H ?_; clear H; intro _ H))
      ((conv => whnf); refine Dr.quiet T.ok mixed (by kernel_rfl) (fun W hW => ?_))
      repeat' (first | ((conv => whnf); first | (((with_reducible show Gd _ _ _); first | with_reducible refine Gd.t ?_ | with_reducible refine Gd.f ?_ | with_reducible refine Gd.dec (fun _ => ?_) (fun _ => ?_) | with_reducible refine Gd.beq (fun _ => ?_) (fun _ => ?_) | with_reducible refine Gd.bne (fun _ => ?_) (fun _ => ?_) | with_reducible refine Gd.not ?_ | refine Gd.t ?_ | refine Gd.f ?_ | with_reducible refine Gd.var (fun _ => ?_) (fun _ => ?_)) <;> first | (exfalso; omega) | skip) | ((with_reducible show QLd1 _ _ _); first | refine QLd1.h hW H ?_ | refine QLd1.rF hW ?_ | refine QLd1.r hW ?_) | ((with_reducible show QLd _ _ _ _); first | refine QLd.h hW H ?_ | refine QLd.r hW ?_) | ((with_reducible show Ix _ _ _ _ _); (first | refine Ix.h ?_ | refine Ix.ha ?_))) | ((conv => whnf); refine QCl.mk hW (fun _ ee => Cl.mk (bits_c k _) (fun _ _ h => h)) ?_))
      (intro _ eT; replace H := H.ext eT; clear hW eT)
      clear hrr hM hrow
      repeat' ((conv => whnf); first | (((with_reducible show Gd _ _ _); first | with_reducible refine Gd.t ?_ | with_reducible refine Gd.f ?_ | with_reducible refine Gd.dec (fun _ => ?_) (fun _ => ?_) | with_reducible refine Gd.beq (fun _ => ?_) (fun _ => ?_) | with_reducible refine Gd.bne (fun _ => ?_) (fun _ => ?_) | with_reducible refine Gd.not ?_ | refine Gd.t ?_ | refine Gd.f ?_ | with_reducible refine Gd.var (fun _ => ?_) (fun _ => ?_)) <;> first | (exfalso; omega) | skip) | with_reducible refine Sq.mk ?_ | ((with_reducible show Ld1 _ _ _); first | refine Ld1.h H ?_ | refine Ld1.rF ?_ | refine Ld1.r ?_) | ((with_reducible show Ld _ _ _ _); first | refine Ld.h H ?_ | refine Ld.r ?_) | ((with_reducible show Ix _ _ _ _ _); (first | refine Ix.h ?_ | refine Ix.ha ?_)) | (refine Al.hp H ?_; clear H; intro _ _ H _) | (refine St.h H ?_; clear H; intro _ H))
      ((conv => whnf); refine Dr.quiet T.ok mixed (by kernel_rfl) (fun W hW => ?_))
      repeat' (first | ((conv => whnf); first | (((with_reducible show Gd _ _ _); first | with_reducible refine Gd.t ?_ | with_reducible refine Gd.f ?_ | with_reducible refine Gd.dec (fun _ => ?_) (fun _ => ?_) | with_reducible refine Gd.beq (fun _ => ?_) (fun _ => ?_) | with_reducible refine Gd.bne (fun _ => ?_) (fun _ => ?_) | with_reducible refine Gd.not ?_ | refine Gd.t ?_ | refine Gd.f ?_ | with_reducible refine Gd.var (fun _ => ?_) (fun _ => ?_)) <;> first | (exfalso; omega) | skip) | ((with_reducible show QLd1 _ _ _); first | refine QLd1.h hW H ?_ | refine QLd1.rF hW ?_ | refine QLd1.r hW ?_) | ((with_reducible show QLd _ _ _ _); first | refine QLd.h hW H ?_ | refine QLd.r hW ?_) | ((with_reducible show Ix _ _ _ _ _); (first | refine Ix.h ?_ | refine Ix.ha ?_))) | ((conv => whnf); refine QCl.mk hW (fun _ ee => Cl.mk (bits_c k _) (fun _ _ h => h)) ?_))
      all_goals first | (exfalso; exact absurd hbit (by assumption)) | skip
      (intro _ eT; replace H := H.ext eT; clear hW eT)
      repeat' ((conv => whnf); first | (((with_reducible show Gd _ _ _); first | with_reducible refine Gd.t ?_ | with_reducible refine Gd.f ?_ | with_reducible refine Gd.dec (fun _ => ?_) (fun _ => ?_) | with_reducible refine Gd.beq (fun _ => ?_) (fun _ => ?_) | with_reducible refine Gd.bne (fun _ => ?_) (fun _ => ?_) | with_reducible refine Gd.not ?_ | refine Gd.t ?_ | refine Gd.f ?_ | with_reducible refine Gd.var (fun _ => ?_) (fun _ => ?_)) <;> first | (exfalso; omega) | skip) | with_reducible refine Sq.mk ?_ | ((with_reducible show Ld1 _ _ _); first | refine Ld1.h H ?_ | refine Ld1.rF ?_ | refine Ld1.r ?_) | ((with_reducible show Ld _ _ _ _); first | refine Ld.h H ?_ | refine Ld.r ?_) | ((with_reducible show Ix _ _ _ _ _); (first | refine Ix.h ?_ | refine Ix.ha ?_)) | (refine Al.hp H ?_; clear H; intro _ _ H _) | (refine St.h H ?_; clear H; intro _ H))
      all_goals first | (exfalso; exact absurd hbit (by assumption)) | skip
      exact ⟨k + 1, ⟨at_int rfl (w64 (by simp) (by omega) (by omega)), rfl, rfl, rfl, rfl, rfl, trivial⟩, rfl, ⟨by omega, H⟩, by omega⟩
  · repeat' ((conv => whnf); first | (((with_reducible show Gd _ _ _); first | with_reducible refine Gd.t ?_ | with_reducible refine Gd.f ?_ | with_reducible refine Gd.dec (fun _ => ?_) (fun _ => ?_) | with_reducible refine Gd.beq (fun _ => ?_) (fun _ => ?_) | with_reducible refine Gd.bne (fun _ => ?_) (fun _ => ?_) | with_reducible refine Gd.not ?_ | refine Gd.t ?_ | refine Gd.f ?_ | with_reducible refine Gd.var (fun _ => ?_) (fun _ => ?_)) <;> first | (exfalso; omega) | skip) | with_reducible refine Sq.mk ?_ | ((with_reducible show Ld1 _ _ _); first | refine Ld1.h H ?_ | refine Ld1.rF ?_ | refine Ld1.r ?_) | ((with_reducible show Ld _ _ _ _); first | refine Ld.h H ?_ | refine Ld.r ?_) | ((with_reducible show Ix _ _ _ _ _); (first | refine Ix.h ?_ | refine Ix.ha ?_)) | (refine Al.hp H ?_; clear H; intro _ _ H _) | (refine St.h H ?_; clear H; intro _ H))
    ((conv => whnf); refine Dr.quiet T.ok mixed (by kernel_rfl) (fun W hW => ?_))
    repeat' ((conv => whnf); first | (((with_reducible show Gd _ _ _); first | with_reducible refine Gd.t ?_ | with_reducible refine Gd.f ?_ | with_reducible refine Gd.dec (fun _ => ?_) (fun _ => ?_) | with_reducible refine Gd.beq (fun _ => ?_) (fun _ => ?_) | with_reducible refine Gd.bne (fun _ => ?_) (fun _ => ?_) | with_reducible refine Gd.not ?_ | refine Gd.t ?_ | refine Gd.f ?_ | with_reducible refine Gd.var (fun _ => ?_) (fun _ => ?_)) <;> first | (exfalso; omega) | skip) | ((with_reducible show QLd1 _ _ _); first | refine QLd1.h hW H ?_ | refine QLd1.rF hW ?_ | refine QLd1.r hW ?_) | ((with_reducible show QLd _ _ _ _); first | refine QLd.h hW H ?_ | refine QLd.r hW ?_) | ((with_reducible show Ix _ _ _ _ _); (first | refine Ix.h ?_ | refine Ix.ha ?_)))
    all_goals first | (exfalso; omega) | (exfalso; exact hat0 (by assumption) (by assumption)) | skip
    (intro _ eT; replace H := H.ext eT; clear hW eT)
    clear hrr hM hrow
    repeat' ((conv => whnf); first | (((with_reducible show Gd _ _ _); first | with_reducible refine Gd.t ?_ | with_reducible refine Gd.f ?_ | with_reducible refine Gd.dec (fun _ => ?_) (fun _ => ?_) | with_reducible refine Gd.beq (fun _ => ?_) (fun _ => ?_) | with_reducible refine Gd.bne (fun _ => ?_) (fun _ => ?_) | with_reducible refine Gd.not ?_ | refine Gd.t ?_ | refine Gd.f ?_ | with_reducible refine Gd.var (fun _ => ?_) (fun _ => ?_)) <;> first | (exfalso; omega) | skip) | with_reducible refine Sq.mk ?_ | ((with_reducible show Ld1 _ _ _); first | refine Ld1.h H ?_ | refine Ld1.rF ?_ | refine Ld1.r ?_) | ((with_reducible show Ld _ _ _ _); first | refine Ld.h H ?_ | refine Ld.r ?_) | ((with_reducible show Ix _ _ _ _ _); (first | refine Ix.h ?_ | refine Ix.ha ?_)) | (refine Al.hp H ?_; clear H; intro _ _ H _) | (refine St.h H ?_; clear H; intro _ H))
    all_goals first | (exfalso; omega) | (exfalso; exact hat0 (by omega) (by assumption)) | skip
    refine Lp.g0 T.ok (σ := Nat) (fun k => [(11, .int .i64 (k : Int)), (10, .int .i64 (s : Int)), (9, .slice (some ⟨p, 0, none⟩) x.1.code.length x.1.code.length), (8, .pointer (some ⟨pf, 0, none⟩)), (3, .pointer (some ⟨pp, 0, none⟩)), (2, .int .i64 (j : Int))])
      (fun k w' => k ≤ 3 ∧ Hp nw w w' [mxk bb p x.1.code.length m ps (flwG x.1), bk pf 24 (x.1.v x.2.1 x.2.2).cells.toList, bk pp 46 (pv A l.length c).cells.toList]) (fun k _ => 3 - k) 0 rfl ⟨rfl, rfl, rfl, rfl, rfl, rfl, trivial⟩ ⟨Nat.zero_le _, H⟩ ?_
    clear H
    rintro k w6 ⟨hk3, H⟩
    by_cases hkl : k < 3
    case neg =>
      repeat' ((conv => whnf); first | (((with_reducible show Gd _ _ _); first | with_reducible refine Gd.t ?_ | with_reducible refine Gd.f ?_ | with_reducible refine Gd.dec (fun _ => ?_) (fun _ => ?_) | with_reducible refine Gd.beq (fun _ => ?_) (fun _ => ?_) | with_reducible refine Gd.bne (fun _ => ?_) (fun _ => ?_) | with_reducible refine Gd.not ?_ | refine Gd.t ?_ | refine Gd.f ?_ | with_reducible refine Gd.var (fun _ => ?_) (fun _ => ?_)) <;> first | (exfalso; omega) | skip) | with_reducible refine Sq.mk ?_ | ((with_reducible show Ld1 _ _ _); first | refine Ld1.h H ?_ | refine Ld1.rF ?_ | refine Ld1.r ?_) | ((with_reducible show Ld _ _ _ _); first | refine Ld.h H ?_ | refine Ld.r ?_) | ((with_reducible show Ix _ _ _ _ _); (first | refine Ix.h ?_ | refine Ix.ha ?_)) | (refine Al.hp H ?_; clear H; intro _ _ H _) | (refine St.h H ?_; clear H; intro _ H))
      exact ⟨s + 1, ⟨at_int rfl (w64 (by simp) (by omega) (by omega)), rfl, rfl, rfl, rfl, trivial⟩, rfl, ⟨by omega, H⟩, by omega⟩
    repeat' ((conv => whnf); first | (((with_reducible show Gd _ _ _); first | with_reducible refine Gd.t ?_ | with_reducible refine Gd.f ?_ | with_reducible refine Gd.dec (fun _ => ?_) (fun _ => ?_) | with_reducible refine Gd.beq (fun _ => ?_) (fun _ => ?_) | with_reducible refine Gd.bne (fun _ => ?_) (fun _ => ?_) | with_reducible refine Gd.not ?_ | refine Gd.t ?_ | refine Gd.f ?_ | with_reducible refine Gd.var (fun _ => ?_) (fun _ => ?_)) <;> first | (exfalso; omega) | skip) | with_reducible refine Sq.mk ?_ | ((with_reducible show Ld1 _ _ _); first | refine Ld1.h H ?_ | refine Ld1.rF ?_ | refine Ld1.r ?_) | ((with_reducible show Ld _ _ _ _); first | refine Ld.h H ?_ | refine Ld.r ?_) | ((with_reducible show Ix _ _ _ _ _); (first | refine Ix.h ?_ | refine Ix.ha ?_)) | (refine Al.hp H ?_; clear H; intro _ _ H _) | (refine St.h H ?_; clear H; intro _ H))
    refine Dr.lin T.ok mixed [4, 5] (by kernel_rfl) (fun W w0 hW hmk eT _ => ?_)
    repeat' ((conv => whnf); first | (((with_reducible show Gd _ _ _); first | with_reducible refine Gd.t ?_ | with_reducible refine Gd.f ?_ | with_reducible refine Gd.dec (fun _ => ?_) (fun _ => ?_) | with_reducible refine Gd.beq (fun _ => ?_) (fun _ => ?_) | with_reducible refine Gd.bne (fun _ => ?_) (fun _ => ?_) | with_reducible refine Gd.not ?_ | refine Gd.t ?_ | refine Gd.f ?_ | with_reducible refine Gd.var (fun _ => ?_) (fun _ => ?_)) <;> first | (exfalso; omega) | skip) | ((with_reducible show QLd1 _ _ _); first | refine QLd1.h hW H ?_ | refine QLd1.rF hW ?_ | refine QLd1.r hW ?_) | ((with_reducible show QLd _ _ _ _); first | refine QLd.h hW H ?_ | refine QLd.r hW ?_) | ((with_reducible show Ix _ _ _ _ _); (first | refine Ix.h ?_ | refine Ix.ha ?_)))
    have H1 := H.ext eT
    ((conv => whnf); refine Cl.mk (bits_s k _) ?_)
    rintro _ _ ⟨rfl, rfl⟩
    refine ⟨hmk _ eT, ?_⟩
    (conv => whnf)
    ((conv => whnf); refine Cl.mk (Trail_c x.1 x.2.1 x.2.2 j s (bitS k) _ (RdS.from H1.e (hA.code x hxm)) (RdS.from H1.e hG)) ?_)
    rintro _ w1 ⟨A1, l1, c1, e1, rfl, hr1, ex1, hv1, _⟩
    refine ⟨hmk _ (Ext.trans eT ex1), ?_⟩
    repeat' ((conv => whnf); first | (((with_reducible show Gd _ _ _); first | with_reducible refine Gd.t ?_ | with_reducible refine Gd.f ?_ | with_reducible refine Gd.dec (fun _ => ?_) (fun _ => ?_) | with_reducible refine Gd.beq (fun _ => ?_) (fun _ => ?_) | with_reducible refine Gd.bne (fun _ => ?_) (fun _ => ?_) | with_reducible refine Gd.not ?_ | refine Gd.t ?_ | refine Gd.f ?_ | with_reducible refine Gd.var (fun _ => ?_) (fun _ => ?_)) <;> first | (exfalso; omega) | skip) | ((with_reducible show QLd1 _ _ _); first | refine QLd1.h hW H ?_ | refine QLd1.rF hW ?_ | refine QLd1.r hW ?_) | ((with_reducible show QLd _ _ _ _); first | refine QLd.h hW H ?_ | refine QLd.r hW ?_) | ((with_reducible show Ix _ _ _ _ _); (first | refine Ix.h ?_ | refine Ix.ha ?_)))
    replace H := H1.ext ex1
    clear H1 hW hmk eT
    have hM := hMf _ H
    have hrr := hM.rd (by omega)
    have hat := hM.at hq
    have hlm := hM.len
    have hrow := rd_full (hM.row j q hq) (fun _ _ => rfl)
    rcases trail_or hv1 hS hml2 (by omega) (okS_bit k) with ⟨rfl, hR1, hg1⟩ | ⟨rfl, hR1, rfl⟩
    · have hbit : ¬ bitand (flwG x.1 j s) (bitS k) = 0 := fun e => (flw_and (f := x.1) (slot := s) (i := j) (okS_bit k)).1 e hR1
      repeat' ((conv => whnf); first | (((with_reducible show Gd _ _ _); first | with_reducible refine Gd.t ?_ | with_reducible refine Gd.f ?_ | with_reducible refine Gd.dec (fun _ => ?_) (fun _ => ?_) | with_reducible refine Gd.beq (fun _ => ?_) (fun _ => ?_) | with_reducible refine Gd.bne (fun _ => ?_) (fun _ => ?_) | with_reducible refine Gd.not ?_ | refine Gd.t ?_ | refine Gd.f ?_ | with_reducible refine Gd.var (fun _ => ?_) (fun _ => ?_)) <;> first | (exfalso; omega) | skip) | with_reducible refine Sq.mk ?_ | ((with_reducible show Ld1 _ _ _); first | refine Ld1.h H ?_ | refine Ld1.rF ?_ | refine Ld1.r ?_) | ((with_reducible show Ld _ _ _ _); first | refine Ld.h H ?_ | refine Ld.r ?_) | ((with_reducible show Ix _ _ _ _ _); (first | refine Ix.h ?_ | refine Ix.ha ?_)) | (refine Al.hp H ?_; clear H; intro _ _ H _) | (refine St.h H ?_; clear H; intro _ H))
      ((conv => whnf); refine Dr.quiet T.ok mixed (by kernel_rfl) (fun W hW => ?_))
      repeat' (first | ((conv => whnf); first | (((with_reducible show Gd _ _ _); first | with_reducible refine Gd.t ?_ | with_reducible refine Gd.f ?_ | with_reducible refine Gd.dec (fun _ => ?_) (fun _ => ?_) | with_reducible refine Gd.beq (fun _ => ?_) (fun _ => ?_) | with_reducible refine Gd.bne (fun _ => ?_) (fun _ => ?_) | with_reducible refine Gd.not ?_ | refine Gd.t ?_ | refine Gd.f ?_ | with_reducible refine Gd.var (fun _ => ?_) (fun _ => ?_)) <;> first | (exfalso; omega) | skip) | ((with_reducible show QLd1 _ _ _); first | refine QLd1.h hW H ?_ | refine QLd1.rF hW ?_ | refine QLd1.r hW ?_) | ((with_reducible show QLd _ _ _ _); first | refine QLd.h hW H ?_ | refine QLd.r hW ?_) | ((with_reducible show Ix _ _ _ _ _); (first | refine Ix.h ?_ | refine Ix.ha ?_))) | ((conv => whnf); refine QCl.mk hW (fun _ ee => Cl.mk (bits_c k _) (fun _ _ h => h)) ?_))
      intro _ eT; replace H := H.ext eT; replace hr1 := RdS.from eT hr1; clear hW eT
      clear hrr hM hrow
      repeat' ((conv => whnf); first | (((with_reducible show Gd _ _ _); first | with_reducible refine Gd.t ?_ | with_reducible refine Gd.f ?_ | with_reducible refine Gd.dec (fun _ => ?_) (fun _ => ?_) | with_reducible refine Gd.beq (fun _ => ?_) (fun _ => ?_) | with_reducible refine Gd.bne (fun _ => ?_) (fun _ => ?_) | with_reducible refine Gd.not ?_ | refine Gd.t ?_ | refine Gd.f ?_ | with_reducible refine Gd.var (fun _ => ?_) (fun _ => ?_)) <;> first | (exfalso; omega) | skip) | with_reducible refine Sq.mk ?_ | ((with_reducible show Ld1 _ _ _); first | refine Ld1.h H ?_ | refine Ld1.rF ?_ | refine Ld1.r ?_) | ((with_reducible show Ld _ _ _ _); first | refine Ld.h H ?_ | refine Ld.r ?_) | ((with_reducible show Ix _ _ _ _ _); (first | refine Ix.h ?_ | refine Ix.ha ?_)) | (refine Al.hp H ?_; clear H; intro _ _ H _) | (refine St.h H ?_; clear H; intro _ H))
      ((conv => whnf); refine Dr.quiet T.ok mixed (by kernel_rfl) (fun W hW => ?_))
      repeat' (first | ((conv => whnf); first | (((with_reducible show Gd _ _ _); first | with_reducible refine Gd.t ?_ | with_reducible refine Gd.f ?_ | with_reducible refine Gd.dec (fun _ => ?_) (fun _ => ?_) | with_reducible refine Gd.beq (fun _ => ?_) (fun _ => ?_) | with_reducible refine Gd.bne (fun _ => ?_) (fun _ => ?_) | with_reducible refine Gd.not ?_ | refine Gd.t ?_ | refine Gd.f ?_ | with_reducible refine Gd.var (fun _ => ?_) (fun _ => ?_)) <;> first | (exfalso; omega) | skip) | ((with_reducible show QLd1 _ _ _); first | refine QLd1.h hW H ?_ | refine QLd1.rF hW ?_ | refine QLd1.r hW ?_) | ((with_reducible show QLd _ _ _ _); first | refine QLd.h hW H ?_ | refine QLd.r hW ?_) | ((with_reducible show Ix _ _ _ _ _); (first | refine Ix.h ?_ | refine Ix.ha ?_))) | ((conv => whnf); refine QCl.mk hW (fun _ ee => Cl.mk (bits_c k _) (fun _ _ h => h)) ?_) | ((conv => whnf); refine QCl.mk hW (fun _ ee => Cl.mk (leads_c x A l c l1 A1 c1 j s (bitS k) _ (hA.ext (Ext.trans H.e ee)) hxm (RdS.from ee hr1) hS hins (by omega) hg1) (fun _ _ h => h)) ?_))
      all_goals first | (exfalso; exact hbit (by assumption)) | skip
      (intro _ eT; replace H := H.ext eT; clear hW eT)
      repeat' ((conv => whnf); first | (((with_reducible show Gd _ _ _); first | with_reducible refine Gd.t ?_ | with_reducible refine Gd.f ?_ | with_reducible refine Gd.dec (fun _ => ?_) (fun _ => ?_) | with_reducible refine Gd.beq (fun _ => ?_) (fun _ => ?_) | with_reducible refine Gd.bne (fun _ => ?_) (fun _ => ?_) | with_reducible refine Gd.not ?_ | refine Gd.t ?_ | refine Gd.f ?_ | with_reducible refine Gd.var (fun _ => ?_) (fun _ => ?_)) <;> first | (exfalso; omega) | skip) | with_reducible refine Sq.mk ?_ | ((with_reducible show Ld1 _ _ _); first | refine Ld1.h H ?_ | refine Ld1.rF ?_ | refine Ld1.r ?_) | ((with_reducible show Ld _ _ _ _); first | refine Ld.h H ?_ | refine Ld.r ?_) | ((with_reducible show Ix _ _ _ _ _); (first | refine Ix.h ?_ | refine Ix.ha ?_)) | (refine Al.hp H ?_; clear H; intro _ _ H _) | (refine St.h H ?_; clear H; intro _ H))
      all_goals first | (exfalso; exact hbit (by assumption)) | skip
      exact ⟨k + 1, ⟨at_int rfl (w64 (by simp) (by omega) (by omega)), rfl, rfl, rfl, rfl, rfl, trivial⟩, rfl, ⟨by omega, H⟩, by omega⟩
    · have hz0 : ((([] : List Int).length : Nat) : Int) = 0 := rfl
      have hbit : bitand (flwG x.1 j s) (bitS k) = 0 := (flw_and (f := x.1) (slot := s) (i := j) (okS_bit k)).2 hR1
      repeat' ((conv => whnf); first | (((with_reducible show Gd _ _ _); first | with_reducible refine Gd.t ?_ | with_reducible refine Gd.f ?_ | with_reducible refine Gd.dec (fun _ => ?_) (fun _ => ?_) | with_reducible refine Gd.beq (fun _ => ?_) (fun _ => ?_) | with_reducible refine Gd.bne (fun _ => ?_) (fun _ => ?_) | with_reducible refine Gd.not ?_ | refine Gd.t ?_ | refine Gd.f ?_ | with_reducible refine Gd.var (fun _ => ?_) (fun _ => ?_)) <;> first | (exfalso; omega) | skip) | with_reducible refine Sq.mk ?_ | ((with_reducible show Ld1 _ _ _); first | refine Ld1.h H ?_ | refine Ld1.rF ?_ | refine Ld1.r ?_) | ((with_reducible show Ld _ _ _ _); first | refine Ld.h H ?_ | refine Ld.r ?_) | ((with_reducible show Ix _ _ _ _ _); (first | refine Ix.h ?_ | refine Ix.ha ?_)) | (refine Al.hp H ?_; clear H; intro _ _ H _) | (refine St.h H ?_; clear H; intro _ H))
      ((conv => whnf); refine Dr.quiet T.ok mixed (by kernel_rfl) (fun W hW => ?_))
      repeat' (first | ((conv => whnf); first | (((with_reducible show Gd _ _ _); first | with_reducible refine Gd.t ?_ | with_reducible refine Gd.f ?_ | with_reducible refine Gd.dec (fun _ => ?_) (fun _ => ?_) | with_reducible refine Gd.beq (fun _ => ?_) (fun _ => ?_) | with_reducible refine Gd.bne (fun _ => ?_) (fun _ => ?_) | with_reducible refine Gd.not ?_ | refine Gd.t ?_ | refine Gd.f ?_ | with_reducible refine Gd.var (fun _ => ?_) (fun _ => ?_)) <;> first | (exfalso; omega) | skip) | ((with_reducible show QLd1 _ _ _); first | refine QLd1.h hW H ?_ | refine QLd1.rF hW ?_ | refine QLd1.r hW ?_) | ((with_reducible show QLd _ _ _ _); first | refine QLd.h hW H ?_ | refine QLd.r hW ?_) | ((with_reducible show Ix _ _ _ _ _); (first | refine Ix.h ?_ | refine Ix.ha ?_))) | ((conv => whnf); refine QCl.mk hW (fun _ ee => Cl.mk (bits_c k _) (fun _ _ h => h)) ?_))
      (intro _ eT; replace H := H.ext eT; clear hW eT)
      clear hrr hM hrow
      repeat' ((conv => whnf); first | (((with_reducible show Gd _ _ _); first | with_reducible refine Gd.t ?_ | with_reducible refine Gd.f ?_ | with_reducible refine Gd.dec (fun _ => ?_) (fun _ => ?_) | with_reducible refine Gd.beq (fun _ => ?_) (fun _ => ?_) | with_reducible refine Gd.bne (fun _ => ?_) (fun _ => ?_) | with_reducible refine Gd.not ?_ | refine Gd.t ?_ | refine Gd.f ?_ | with_reducible refine Gd.var (fun _ => ?_) (fun _ => ?_)) <;> first | (exfalso; omega) | skip) | with_reducible refine Sq.mk ?_ | ((with_reducible show Ld1 _ _ _); first | refine Ld1.h H ?_ | refine Ld1.rF ?_ | refine Ld1.r ?_) | ((with_reducible show Ld _ _ _ _); first | refine Ld.h H ?_ | refine Ld.r ?_) | ((with_reducible show Ix _ _ _ _ _); (first | refine Ix.h ?_ | refine Ix.ha ?_)) | (refine Al.hp H ?_; clear H; intro _ _ H _) | (refine St.h H ?_; clear H; intro _ H))
      ((conv => whnf); refine Dr.quiet T.ok mixed (by kernel_rfl) (fun W hW => ?_))
      repeat' (first | ((conv => whnf); first | (((with_reducible show Gd _ _ _); first | with_reducible refine Gd.t ?_ | with_reducible refine Gd.f ?_ | with_reducible refine Gd.dec (fun _ => ?_) (fun _ => ?_) | with_reducible refine Gd.beq (fun _ => ?_) (fun _ => ?_) | with_reducible refine Gd.bne (fun _ => ?_) (fun _ => ?_) | with_reducible refine Gd.not ?_ | refine Gd.t ?_ | refine Gd.f ?_ | with_reducible refine Gd.var (fun _ => ?_) (fun _ => ?_)) <;> first | (exfalso; omega) | skip) | ((with_reducible show QLd1 _ _ _); first | refine QLd1.h hW H ?_ | refine QLd1.rF hW ?_ | refine QLd1.r hW ?_) | ((with_reducible show QLd _ _ _ _); first | refine QLd.h hW H ?_ | refine QLd.r hW ?_) | ((with_reducible show Ix _ _ _ _ _); (first | refine Ix.h ?_ | refine Ix.ha ?_))) | ((conv => whnf); refine QCl.mk hW (fun _ ee => Cl.mk (bits_c k _) (fun _ _ h => h)) ?_))
      all_goals first | (exfalso; exact absurd hbit (by assumption)) | skip
      (intro _ eT; replace H := H.ext eT; clear hW eT)
      repeat' ((conv => whnf); first | (((with_reducible show Gd _ _ _); first | with_reducible refine Gd.t ?_ | with_reducible refine Gd.f ?_ | with_reducible refine Gd.dec (fun _ => ?_) (fun _ => ?_) | with_reducible refine Gd.beq (fun _ => ?_) (fun _ => ?_) | with_reducible refine Gd.bne (fun _ => ?_) (fun _ => ?_) | with_reducible refine Gd.not ?_ | refine Gd.t ?_ | refine Gd.f ?_ | with_reducible refine Gd.var (fun _ => ?_) (fun _ => ?_)) <;> first | (exfalso; omega) | skip) | with_reducible refine Sq.mk ?_ | ((with_reducible show Ld1 _ _ _); first | refine Ld1.h H ?_ | refine Ld1.rF ?_ | refine Ld1.r ?_) | ((with_reducible show Ld _ _ _ _); first | refine Ld.h H ?_ | refine Ld.r ?_) | ((with_reducible show Ix _ _ _ _ _); (first | refine Ix.h ?_ | refine Ix.ha ?_)) | (refine Al.hp H ?_; clear H; intro _ _ H _) | (refine St.h H ?_; clear H; intro _ H))
      all_goals first | (exfalso; exact absurd hbit (by assumption)) | skip
      exact ⟨k + 1, ⟨at_int rfl (w64 (by simp) (by omega) (by omega)), rfl, rfl, rfl, rfl, rfl, trivial⟩, rfl, ⟨by omega, H⟩, by omega⟩
end Go.Proofs.YtbbadmlekagloaaDoor
