/- own work: ShI, TyH, TyI, TyJ, TyK, TyL, TyM, TyN, TyP, TyQ, TyS, TxD, TyT, ShQ, TyU, PtA, TxE, TvC, TvA, TvB -/
import Derived.Test.YtfnjodpehomgfaaGreatDoorProg
import Derived.WalkKit
import Derived.LaidEql
import Derived.Stop.Asserts
import Derived.RowKitTokens
import Derived.Shelf.Strconv.Itoa4
import Derived.Lib.ItoaNum
import Derived.ReadAgain
import Derived.ChangeArms
import Derived.ChangeSame
import Derived.ChangeShapes
import Derived.Lib.LaidTab
import Derived.Test.YtfnjodpehomgfaaGreatDoorRows
import Derived.OpenShut
import Derived.LaidLaws
import Derived.Test.YtfnjodpehomgfaaGreatDoorCards
import Derived.Test.YtfnjodpehomgfaaGreatDoorTie
import Derived.DataShut
import Derived.ProofKit
import Derived.LaidHandle
import Derived.Stop.LaidErr
import Derived.Deep.DeepHandedRow
import Derived.Deep.DeepWitnessRowRef
import Derived.Test.YtfnjodpehomgfaaGreatDoorMP1
import Derived.Test.YtfnjodpehomgfaaGreatDoorMP2
set_option linter.unusedVariables false
set_option linter.unusedSimpArgs false
set_option linter.unusedSectionVars false
namespace Go.Sh
open Go.RowKit
section
variable {P : Program} {T : Tab} {n : Nat} {ops : Array Oper}
def keepE (ops : Array Oper) : Env → Env
  | [] => []
  | (t, v) :: r => match (ops.toList.any fun o => match o.dst with | some d => Nat.beq d t | none => false) with
    | true => keepE ops r
    | false => (t, v) :: keepE ops r
theorem look_keepE {ops : Array Oper} : ∀ {E : Env} {t : Nat} {u : Value}, look (keepE ops E) t = some u → look E t = some u ∧ ∀ o ∈ ops.toList, o.dst ≠ some t
  | [], t, u, h => by simp [keepE, look] at h
  | (d, v) :: r, t, u, h => by
    unfold keepE at h
    split at h
    · rename_i hany
      obtain ⟨h1, h2⟩ := look_keepE h
      refine ⟨?_, h2⟩
      unfold look
      split
      · rename_i hb
        have hd := Nat.eq_of_beq_eq_true hb
        subst hd
        obtain ⟨o, ho, hb2⟩ := List.any_eq_true.1 hany
        split at hb2
        · rename_i d2 hd2
          have := Nat.eq_of_beq_eq_true hb2
          subst this
          exact absurd hd2 (h2 o ho)
        · simp at hb2
      · exact h1
    · rename_i hany
      unfold look at h ⊢
      split at h
      · rename_i hb
        refine ⟨h, fun o ho hd => ?_⟩
        have hdt := Nat.eq_of_beq_eq_true hb
        subst hdt
        have : (ops.toList.any fun o => match o.dst with | some d2 => Nat.beq d2 d | none => false) = true := List.any_eq_true.2 ⟨o, ho, by rw [hd]; simp⟩
        rw [this] at hany
        simp at hany
      · rename_i hb
        obtain ⟨h1, h2⟩ := look_keepE h
        exact ⟨h1, h2⟩
theorem keepE_dst {ops : Array Oper} {t : Nat} (h : ∀ o ∈ ops.toList, o.dst ≠ some t) (i : Nat) : dstOf ops i ≠ some t := by
  unfold dstOf
  intro e
  cases ho : ops[i]? with
  | none => rw [ho] at e; simp at e
  | some o =>
    rw [ho] at e
    exact h o (Array.mem_toList_iff.2 (Array.mem_of_getElem? ho)) (by simpa using e)
def stepChX (P : Program) (T : Tab) (n : Nat) (W : World → Prop) (Xc : List PanicEntry → World → Prop) (o : Oper) (_r : List Oper) (ih : Fr → World → (Fr → World → Prop) → Prop) (F : Fr) (w : World) (k : Fr → World → Prop) : Prop :=
  W w ∧ match dstOk n o.dst with
    | false => False
    | true => match o.guard with
      | some _ => False
      | none => exOp P T (evR o F) o w (fun v w' => ih (F.put o.dst v) w' k) Xc
def chOpsX (P : Program) (T : Tab) (n : Nat) (W : World → Prop) (Xc : List PanicEntry → World → Prop) (l : List Oper) : Fr → World → (Fr → World → Prop) → Prop :=
  List.rec (motive := fun _ => Fr → World → (Fr → World → Prop) → Prop) (fun F w k => k F w) (stepChX P T n W Xc) l
theorem Dr.chXk (hT : TabOk P T) (hm : P.follows .mixedOrders = true) (qis cs : List Nat) {id : Nat} {F : Fr} {w : World} {K : Exit → Fr → World → Prop} {ql cl : List Oper}
    (hB : chB ops qis cs = true) (hql : pickO ops qis = some ql) (hcl : pickO ops cs = some cl) (W : World → Prop) (Xc : List PanicEntry → World → Prop)
    (hX : ∀ ch w', Xc ch w' → K (.panic ch) ⟨keepE ops F.env, F.ds⟩ w')
    (h : ∀ w1, Ext w w1 → w1.heap.size = w.heap.size → quOps P T n W (fun a b => b = a) ops.toList ql F (fun F' => chOpsX P T n W Xc cl F' w1 (fun F w => K .normal F w))) : Dr P n id ops F w K := by
  obtain ⟨hac0, hcov, hqc, hclt, hqs, hcs, hcan, hlc, hlast0, huq0, hrq, hrc⟩ := chB_spec hB
  have hac : ∀ i, i < ops.size → ∀ j ∈ afterOf ops i, j < i := fun i hi => hac0 i (List.mem_range.2 hi)
  have hlast : ∀ j, j < ops.size - 1 → j ∈ ancF ops ops.size (ops.size - 1) := fun j hj => hlast0 j (List.mem_range.2 hj)
  have huq : ∀ i, i < ops.size → ∀ j, j < ops.size → i ≠ j → ∀ t, dstOf ops i = some t → dstOf ops j ≠ some t := fun i hi j hj hne t ht => by
    have := huq0 i (List.mem_range.2 hi) j (List.mem_range.2 hj) hne (by rw [ht]; simp)
    rwa [ht] at this
  have e1 : Ext w { w with drawn := w.drawn + 1 } := ⟨rfl, rfl, rfl, Nat.le_refl _, fun _ _ => rfl⟩
  obtain ⟨vals, F', hY, hlook, hds, hfin⟩ := quOps_trace hT ql F _ (h { w with drawn := w.drawn + 1 } e1 rfl)
  have hN : ops.size - 1 < ops.size := hclt _ hlc
  have hqget : ∀ m : Nat, (ql[m]?).bind (·.dst) = (qis[m]?).bind (dstOf ops) := fun m => by
    rw [pickO_get hql m]
    cases qis[m]? <;> rfl
  have hqpos : ∀ i, i ∈ qis → ∃ m, qis[m]? = some i := fun i hi => List.getElem?_of_mem hi
  have hqlt : ∀ (m m' i i' : Nat), qis[m]? = some i → qis[m']? = some i' → m < m' → i < i' := fun m m' i i' h1 h2 hlt => by
    obtain ⟨a1, a2⟩ := List.getElem?_eq_some_iff.1 h1
    obtain ⟨b1, b2⟩ := List.getElem?_eq_some_iff.1 h2
    have := List.pairwise_iff_getElem.1 hqs m m' a1 b1 hlt
    omega
  have hqinj : ∀ (m m' i : Nat), qis[m]? = some i → qis[m']? = some i → m = m' := fun m m' i h1 h2 => by
    rcases Nat.lt_trichotomy m m' with e | e | e
    · have := hqlt m m' i i h1 h2 e; omega
    · exact e
    · have := hqlt m' m i i h2 h1 e; omega
  refine ⟨fun a0 ha0 => ?_⟩
  refine wp_region_any hm ?_
  have main : ∀ (fuel : Nat) (listed : Array Bool) (a : Act) (w' : World) (j : Nat) (Fj : Fr), listed.size = ops.size → Closed ops listed → cnt listed ops.size ≤ fuel → ¬ Lst listed (ops.size - 1) →
      a.tmps.size = n → a.defers = F.ds → Fj.ds = F.ds → chOpsX P T n W Xc (cl.drop j) Fj w' (fun F w => K .normal F w) →
      (∀ m i, cs[m]? = some i → (Lst listed i ↔ m < j)) →
      (∀ m i, qis[m]? = some i → Lst listed i → ∀ d, dstOf ops i = some d → a.tmps[d]? = some (vals m)) →
      (∀ t u, look F.env t = some u → (∀ i, i < ops.size → Lst listed i → dstOf ops i ≠ some t) → a.tmps[t]? = some u) →
      (∀ t u, look Fj.env t = some u → (∃ i, i ∈ qis ∧ ¬ Lst listed i ∧ dstOf ops i = some t) ∨ a.tmps[t]? = some u) →
      (∀ t, (∀ i, i ∈ cs → dstOf ops i ≠ some t) → look Fj.env t = look F'.env t) →
      wpAny P .any ops (Lift n K) fuel listed a w' := by
    intro fuel
    induction fuel with
    | zero => intro listed a w' j Fj _ _ hc hnl; exact absurd (cnt_pos listed _ hnl ops.size hN) (by omega)
    | succ fuel ih =>
      intro listed a w' j Fj hs hcl' hc hnl hsz hdf hdj hch hcj hA hB' hG hFj
      refine ⟨fun hr => ?_, fun i hi => ?_⟩
      · exfalso
        have : ∃ i, i < ops.size ∧ ¬ Lst listed i ∧ ∀ j, j < i → Lst listed j := by
          have : ∀ m, m ≤ ops.size - 1 → (∀ j, j < m → Lst listed j) ∨ ∃ i, i < ops.size ∧ ¬ Lst listed i ∧ ∀ j, j < i → Lst listed j := by
            intro m
            induction m with
            | zero => intro _; exact .inl fun j hj => by omega
            | succ m ihm =>
              intro hm
              rcases ihm (by omega) with h1 | h1
              · by_cases hl : Lst listed m
                · exact .inl fun j hj => (Nat.lt_or_ge j m).elim (h1 j) fun h2 => (show j = m by omega) ▸ hl
                · exact .inr ⟨m, by omega, hl, h1⟩
              · exact .inr h1
          rcases this (ops.size - 1) (Nat.le_refl _) with h1 | h1
          · exact ⟨ops.size - 1, hN, hnl, h1⟩
          · exact h1
        obtain ⟨i, h1, h2, h3⟩ := this
        have := (mem_ready hs hac).2 ⟨h1, h2, fun j hj => h3 j (hac i h1 j hj)⟩
        rw [hr] at this
        exact absurd this (by simp)
      · obtain ⟨hi1, hi2, hi3⟩ := (mem_ready hs hac).1 hi
        have hs' : (listed.setIfInBounds i true).size = ops.size := by simpa using hs
        have hLs : ∀ j, Lst (listed.setIfInBounds i true) j ↔ j = i ∨ Lst listed j := fun j => by
          unfold Lst; rw [getD_set _ _ _ (by omega)]; by_cases e : j = i <;> simp [e]
        have hcl'' : Closed ops (listed.setIfInBounds i true) := fun m hm hl j hj => by
          rw [hLs] at hl ⊢
          rcases hl with rfl | hl
          · exact .inr (hi3 j hj)
          · exact .inr (hcl' m hm hl j hj)
        have hc' : cnt (listed.setIfInBounds i true) ops.size ≤ fuel := by
          have := cnt_set listed i (by omega) hi2 ops.size
          rw [if_pos hi1] at this; omega
        have hanc : ∀ j, j ∈ ancF ops ops.size i → Lst listed j := fun j hj => by
          have := closed_anc hcl'' hac ops.size i j hi1 ((hLs i).2 (.inl rfl)) hj
          rcases (hLs j).1 this with rfl | h1
          · exfalso
            have lt : ∀ (f m j : Nat), m < ops.size → j ∈ ancF ops f m → j < m := by
              intro f
              induction f with
              | zero => intro m j _ h; simp [ancF] at h
              | succ f ihf =>
                intro m j hm h
                simp only [ancF, List.mem_flatMap, List.mem_cons] at h
                obtain ⟨q, hq, h⟩ := h
                have hqm := hac m hm q hq
                rcases h with rfl | h
                · exact hqm
                · have := ihf q j (by omega) h; omega
            have := lt _ _ _ hi1 hj; omega
          · exact h1
        obtain ⟨o, ho⟩ : ∃ o, ops[i]? = some o := ⟨ops[i], Array.getElem?_eq_getElem hi1⟩
        have hdi : dstOf ops i = o.dst := by simp [dstOf, ho]
        have hrdi : rdOf ops i = tmpsOf o ++ gdOf ops o := by unfold rdOf; simp only [ho]
        have hjlt : j < cs.length := by
          obtain ⟨m, hm⟩ := List.getElem?_of_mem hlc
          have h1 := (List.getElem?_eq_some_iff.1 hm).1
          have h2 := hcj m _ hm
          exact Nat.lt_of_not_le fun h3 => hnl (h2.2 (by omega))
        obtain ⟨ci, hci⟩ : ∃ c, cs[j]? = some c := ⟨cs[j], List.getElem?_eq_getElem hjlt⟩
        obtain ⟨oc, hoc⟩ : ∃ o, ops[ci]? = some o := ⟨_, Array.getElem?_eq_getElem (hclt ci (List.mem_of_getElem? hci))⟩
        have hclj : cl[j]? = some oc := by rw [pickO_get hcl j, hci]; exact hoc
        have hdrop : cl.drop j = oc :: cl.drop (j + 1) := by
          obtain ⟨h1, h2⟩ := List.getElem?_eq_some_iff.1 hclj
          rw [List.drop_eq_getElem_cons h1, h2]
        rw [hdrop] at hch
        have hch' : stepChX P T n W Xc oc (cl.drop (j + 1)) (chOpsX P T n W Xc (cl.drop (j + 1))) Fj w' (fun F w => K .normal F w) := hch
        obtain ⟨hWw, hrest⟩ := hch'
        unfold wpOp
        simp only [ho]
        by_cases hic : i ∈ cs
        · -- the chain's next
          have hii : i = ci := by
            obtain ⟨m, hm⟩ := List.getElem?_of_mem hic
            have hmj : ¬ m < j := fun e => hi2 ((hcj m i hm).2 e)
            rcases Nat.lt_or_ge j m with e | e
            · exfalso
              have h1 := (List.getElem?_eq_some_iff.1 hm)
              have h2 := (List.getElem?_eq_some_iff.1 hci)
              obtain ⟨h1a, h1b⟩ := h1
              obtain ⟨h2a, h2b⟩ := h2
              have hlt := List.pairwise_iff_getElem.1 hcs j m h2a h1a e
              rw [h1b, h2b] at hlt
              have := hanc ci (hcan ci (List.mem_of_getElem? hci) i hic hlt)
              have := (hcj j ci hci).1 this
              omega
            · have : m = j := by omega
              subst this
              rw [hci] at hm; simpa using hm.symm
          subst hii
          rw [ho] at hoc
          obtain rfl : o = oc := by simpa using hoc
          split at hrest
          · exact hrest.elim
          rename_i hdo
          split at hrest
          · exact hrest.elim
          rename_i hgn
          rw [if_pos (wanted_none hgn)]
          refine .inl ?_
          have hev : ∀ x u, evR o Fj x = some u → a.eval x = u := ev_of_phi (Φ := look Fj.env) (fun t => rfl) fun t ht u hu => by
            rcases hG t u hu with ⟨q, hq1, hq2, hq3⟩ | hu'
            · exfalso
              have hqi : q ≠ i := fun e => (hqc q hq1).1 (e ▸ hic)
              exact hq2 (hanc q (hrc i hic q (List.mem_range.2 (hqc q hq1).2) hqi t (by rw [hrdi]; exact List.mem_append_left _ ht) hq3))
            · exact hu'
          refine exOp_sound hT hev hrest (fun v w2 hnx => ?_) (fun ch w2 q => ⟨⟨keepE ops F.env, F.ds⟩, ⟨hsz, hdf, fun t v h => hB' t v (look_keepE h).1 fun i hi _ => keepE_dst (look_keepE h).2 i⟩, hX _ _ q⟩)
          have hG2 : ∀ t u, look (Fj.put o.dst v).env t = some u → (∃ q, q ∈ qis ∧ ¬ Lst (listed.setIfInBounds i true) q ∧ dstOf ops q = some t) ∨ (a.put o.dst v).tmps[t]? = some u := fun t u ht => by
            by_cases hd : o.dst = some t
            · rw [hd] at ht hdo ⊢
              rw [look_put_eq] at ht
              simp at ht; subst ht
              exact .inr (act_put_eq (by rw [hsz]; exact hdo))
            · rw [act_put_ne hd]
              have ht' : look Fj.env t = some u := by rw [look_put_ne hd] at ht; exact ht
              rcases hG t u ht' with ⟨q, hq1, hq2, hq3⟩ | hu
              · refine .inl ⟨q, hq1, fun e => ?_, hq3⟩
                rcases (hLs q).1 e with e | e
                · exact (hqc q hq1).1 (e ▸ hic)
                · exact hq2 e
              · exact .inr hu
          have hds2 : (Fj.put o.dst v).ds = F.ds := by cases o.dst <;> exact hdj
          by_cases hl' : i = ops.size - 1
          · -- the last
            have hall : ∀ q, q < ops.size → Lst (listed.setIfInBounds i true) q := fun q hq => by
              rw [hLs]
              by_cases e : q = i
              · exact .inl e
              · exact .inr (hanc q (by rw [hl']; exact hlast q (by omega)))
            have hready : Region.ready .any ops (listed.setIfInBounds i true) = [] := by
              rw [List.eq_nil_iff_forall_not_mem]
              intro q hq
              obtain ⟨h1, h2, _⟩ := (mem_ready hs' hac).1 hq
              exact h2 (hall q h1)
            have hagr : Agr n (Fj.put o.dst v) (a.put o.dst v) := ⟨by rw [act_put_size, hsz], by rw [act_put_defers, hds2, hdf], fun t u ht => by
              rcases hG2 t u ht with ⟨q, hq1, hq2, hq3⟩ | hu
              · exact absurd (hall q (hqc q hq1).2) hq2
              · exact hu⟩
            have hend : cl.drop (j + 1) = [] := by
              refine List.drop_eq_nil_of_le ?_
              rw [pickO_len hcl]
              refine Nat.le_of_not_lt fun hlt => ?_
              obtain ⟨c2, hc2⟩ : ∃ c, cs[j + 1]? = some c := ⟨cs[j + 1], List.getElem?_eq_getElem hlt⟩
              obtain ⟨h1a, h1b⟩ := List.getElem?_eq_some_iff.1 hc2
              obtain ⟨h2a, h2b⟩ := List.getElem?_eq_some_iff.1 hci
              have h3 := List.pairwise_iff_getElem.1 hcs j (j + 1) h2a h1a (by omega)
              rw [h1b, h2b] at h3
              have := hclt c2 (List.mem_of_getElem? hc2)
              omega
            rw [hend] at hnx
            have q : Lift n K .normal (a.put o.dst v) w2 := ⟨_, hagr, hnx⟩
            cases fuel with
            | zero => exact ⟨hready, q⟩
            | succ f => exact ⟨fun _ => q, fun j hj => by rw [hready] at hj; exact absurd hj (by simp)⟩
          · refine ih _ _ _ (j + 1) (Fj.put o.dst v) hs' hcl'' hc' (fun e => ?_) (by rw [act_put_size, hsz]) (by rw [act_put_defers, hdf]) hds2 hnx (fun m q hq => ?_) (fun m q hq hl d hd => ?_) (fun t u ht hno => ?_) hG2 (fun t ht => ?_)
            · rcases (hLs _).1 e with e | e
              · exact hl' e.symm
              · exact hnl e
            · rw [hLs, hcj m q hq]
              constructor
              · rintro (e | e)
                · subst e
                  have hmj : m = j := by
                    rcases Nat.lt_trichotomy m j with e | e | e
                    · exact absurd ((hcj m _ hq).2 e) hi2
                    · exact e
                    · obtain ⟨h1a, h1b⟩ := List.getElem?_eq_some_iff.1 hq
                      obtain ⟨h2a, h2b⟩ := List.getElem?_eq_some_iff.1 hci
                      have h3 := List.pairwise_iff_getElem.1 hcs j m h2a h1a e
                      omega
                  omega
                · omega
              · intro e
                by_cases hmj : m = j
                · subst hmj; rw [hci] at hq; simp at hq; exact .inl hq.symm
                · exact .inr (by omega)
            · have hqm := List.mem_of_getElem? hq
              have hqi : q ≠ i := fun e => (hqc q hqm).1 (e ▸ hic)
              rw [act_put_ne (fun e => huq q (hqc q hqm).2 i hi1 hqi d hd (by rw [hdi, e]))]
              exact hA m q hq (((hLs q).1 hl).resolve_left hqi) d hd
            · rw [act_put_ne (fun e => hno i hi1 ((hLs i).2 (.inl rfl)) (by rw [hdi, e]))]
              exact hB' t u ht fun q hq hl => hno q hq ((hLs q).2 (.inr hl))
            · rw [← hFj t ht, look_put_ne (fun e => ht i hic (by rw [hdi, e]))]
        · -- a quiet one
          have hiq : i ∈ qis := (hcov i (List.mem_range.2 hi1)).resolve_right hic
          obtain ⟨m, hmi⟩ := hqpos i hiq
          obtain ⟨hdo, hy⟩ := hY m o (by rw [pickO_get hql m, hmi]; exact ho)
          have hreads : ∀ t ∈ tmpsOf o ++ gdOf ops o, ∀ u, PhiF F ql vals m t = some u → a.tmps[t]? = some u := by
            intro t ht u hu
            rw [← hrdi] at ht
            rcases PhiF_cases m hu with ⟨k, hk, hkd, rfl⟩ | ⟨hno, hu'⟩
            · rw [hqget] at hkd
              cases hqk : qis[k]? with
              | none => rw [hqk] at hkd; simp at hkd
              | some q =>
                rw [hqk] at hkd
                have hqlt' := hqlt k m q i hqk hmi hk
                have hqm := List.mem_of_getElem? hqk
                rcases (hrq i hiq q (List.mem_range.2 (hqc q hqm).2) (by omega) t ht hkd).2 with ⟨_, h2⟩ | ⟨h2, _⟩
                · exact hA k q hqk (hanc q h2) t hkd
                · omega
            · refine hB' t u hu' fun q hq hl hd => ?_
              by_cases hqi : q = i
              · subst hqi; exact hi2 hl
              obtain ⟨h1, h2⟩ := hrq i hiq q (List.mem_range.2 hq) hqi t ht hd
              obtain ⟨k, hk⟩ := hqpos q h1
              rcases h2 with ⟨h2, h3⟩ | ⟨h2, h3⟩
              · have hkm : k < m := by
                  rcases Nat.lt_trichotomy k m with e | e | e
                  · exact e
                  · subst e; rw [hmi] at hk; simp at hk; omega
                  · have := hqlt m k i q hmi hk e; omega
                exact hno k hkm (by rw [hqget, hk]; exact hd)
              · exact hi2 (closed_anc hcl' hac ops.size q i hq hl h3)
          have hnext : wpAny P .any ops (Lift n K) fuel (listed.setIfInBounds i true) (a.put o.dst (vals m)) w' := by
            refine ih _ _ _ j Fj hs' hcl'' hc' (fun e => ?_) (by rw [act_put_size, hsz]) (by rw [act_put_defers, hdf]) hdj (by rw [hdrop]; exact hch) (fun k q hq => ?_) (fun k q hq hl d hd => ?_) (fun t u ht hno => ?_) (fun t u ht => ?_) hFj
            · rcases (hLs _).1 e with e | e
              · exact hic (e ▸ hlc)
              · exact hnl e
            · rw [hLs, ← hcj k q hq]
              exact ⟨fun e => e.resolve_left (fun e => hic (e ▸ List.mem_of_getElem? hq)), .inr⟩
            · by_cases e : q = i
              · subst e
                have := hqinj k m q hq hmi
                subst this
                rw [hdi] at hd
                rw [hd] at hdo ⊢
                exact act_put_eq (by rw [hsz]; exact hdo)
              · have hqm := List.mem_of_getElem? hq
                rw [act_put_ne (fun e' => huq q (hqc q hqm).2 i hi1 e d hd (by rw [hdi, e']))]
                exact hA k q hq (((hLs q).1 hl).resolve_left e) d hd
            · rw [act_put_ne (fun e => hno i hi1 ((hLs i).2 (.inl rfl)) (by rw [hdi, e]))]
              exact hB' t u ht fun q hq hl => hno q hq ((hLs q).2 (.inr hl))
            · by_cases hd : o.dst = some t
              · refine .inr ?_
                have hF' : look F'.env t = some u := by
                  rw [← hFj t (fun q hq e => huq i hi1 q (hclt q hq) (fun e' => hic (e' ▸ hq)) t (by rw [hdi, hd]) e)]
                  exact ht
                rw [hlook] at hF'
                rcases PhiF_cases _ hF' with ⟨k, hk, hkd, rfl⟩ | ⟨hno, _⟩
                · rw [hqget] at hkd
                  cases hqk : qis[k]? with
                  | none => rw [hqk] at hkd; simp at hkd
                  | some q =>
                    rw [hqk] at hkd
                    have hqm := List.mem_of_getElem? hqk
                    have hqi : q = i := Classical.byContradiction fun e => huq i hi1 q (hqc q hqm).2 (fun e' => e e'.symm) t (by rw [hdi, hd]) hkd
                    subst hqi
                    have := hqinj k m q hqk hmi
                    subst this
                    rw [hd] at hdo ⊢
                    exact act_put_eq (by rw [hsz]; exact hdo)
                · exact absurd (by rw [hqget, hmi]; show dstOf ops i = some t; rw [hdi, hd]) (hno m (by rw [pickO_len hql]; exact (List.getElem?_eq_some_iff.1 hmi).1))
              · rw [act_put_ne hd]
                rcases hG t u ht with ⟨q, hq1, hq2, hq3⟩ | hu
                · refine .inl ⟨q, hq1, fun e => ?_, hq3⟩
                  rcases (hLs q).1 e with e | e
                  · exact hd (by rw [← hdi, ← e]; exact hq3)
                  · exact hq2 e
                · exact .inr hu
          rcases hy a hreads with ⟨hno, hv⟩ | ⟨hyes, hrun⟩
          · rw [if_neg (by rw [hno]; simp)]
            rw [← hv]
            exact hnext
          · rw [if_pos hyes]
            refine .inl ?_
            unfold Oper.wp
            rcases hrun w' hWw with e | ⟨f, args, e, hcl2⟩
            · exact upon_val e hnext
            · rw [e]
              refine Calls.mono hcl2.out fun en w'' q => ?_
              cases en with
              | returned u => obtain ⟨q1, q2⟩ := q; subst q1; subst q2; exact hnext
              | panicked ch => exact q.elim
              | outgrown => exact q.elim
  have hf : ∀ i, i < ops.size → ¬ Lst (Array.replicate ops.size false) i := fun i hi hl => absurd hl (by unfold Lst; simp [Array.getD_eq_getD_getElem?, hi])
  refine main ops.size _ a0 _ 0 F' (by simp) (fun i hi hl => absurd hl (hf i hi)) ?_ (hf _ hN) ha0.1 ha0.2.1 hds (by rw [List.drop_zero]; exact hfin) (fun m i hi => ⟨fun hl => absurd hl (hf i (hclt i (List.mem_of_getElem? hi))), fun e => by omega⟩)
    (fun m i hi hl => absurd hl (hf i (hqc i (List.mem_of_getElem? hi)).2)) (fun t u ht _ => ha0.2.2 t u ht) (fun t u ht => ?_) (fun _ _ => rfl)
  · have : ∀ m, m ≤ ops.size → cnt (Array.replicate ops.size false) m ≤ m := by
      intro m
      induction m with
      | zero => intro _; simp [cnt]
      | succ m ihm => intro h; have := ihm (by omega); simp only [cnt]; split <;> omega
    exact this _ (Nat.le_refl _)
  · rw [hlook] at ht
    rcases PhiF_cases _ ht with ⟨k, hk, hkd, rfl⟩ | ⟨_, hu⟩
    · rw [hqget] at hkd
      cases hqk : qis[k]? with
      | none => rw [hqk] at hkd; simp at hkd
      | some q =>
        rw [hqk] at hkd
        have hqm := List.mem_of_getElem? hqk
        exact .inl ⟨q, hqm, hf q (hqc q hqm).2, hkd⟩
    · exact .inr (ha0.2.2 t u hu)
theorem Dr.chX (hT : TabOk P T) (hm : P.follows .mixedOrders = true) (qis cs : List Nat) {id : Nat} {F : Fr} {w : World} {K : Exit → Fr → World → Prop} {ql cl : List Oper}
    (hB : chB ops qis cs = true) (hql : pickO ops qis = some ql) (hcl : pickO ops cs = some cl) (W : World → Prop) (Xc : List PanicEntry → World → Prop)
    (hX : ∀ ch F' w', F'.ds = F.ds → Xc ch w' → K (.panic ch) F' w')
    (h : ∀ w1, Ext w w1 → w1.heap.size = w.heap.size → quOps P T n W (fun a b => b = a) ops.toList ql F (fun F' => chOpsX P T n W Xc cl F' w1 (fun F w => K .normal F w))) : Dr P n id ops F w K :=
  Dr.chXk hT hm qis cs hB hql hcl W Xc (fun ch w' q => hX ch _ w' rfl q) h
end
end Go.Sh
namespace Go.Proofs.YtfnjodpehomgfaaGreatDoor
open Go Go.Sh Go.Tx
attribute [local irreducible] Blk Ext RdS
section
variable {src : Bs} {pr : Nat} {wb : World} {F : PF} (X : Txt src pr wb) (C : Con src pr wb F)
include X C
set_option maxHeartbeats 2000000 in
theorem args_c (d : Nat) (ts : List Tk) (w : World) (hd : d ≤ 41) (hwb : Ext wb w) (h : Rdr src pr ts w) (hne : argsP F d (ts.length + 1) [] ts ≠ .out) :
    Cl Tryz.prog 133 #[.pointer (some ⟨pr, 0, none⟩), .int .i64 (d : Int)] w (OkL src pr (argsP F d (ts.length + 1) [] ts) w) (PanX (argsP F d (ts.length + 1) [] ts) pr w) := by
  have HB := X.ok hwb
  have hN := h.len
  have hsl := X.len
  obtain ⟨R, hR⟩ : ∃ R, R = argsP F d (ts.length + 1) [] ts := ⟨_, rfl⟩
  rw [← hR] at hne ⊢
  generalize hN0 : ts.length + 1 = N at hR
  have hNb : N ≤ 1000010 := by omega
  refine calls_ex (args := [.pointer (some ⟨pr, 0, none⟩), .int .i64 (d : Int)]) T.ok Tryz.func133 rfl rfl rfl rfl ?_
  have H := Hp.start (S := (· = pr)) (rdr_ok h) (fun k hk => hk)
  replace H := Hp.nil (Hp.trs0 H) ET.enc 6 74
  repeat' ((conv => whnf); first | refine ztS ?_ | (refine ztB ?_ ?_ <;> intro _ <;> try (exfalso; omega)) | (refine ztA ?_; clear H; intro _ _ H _) | fail)
  refine Lp.g0 T.ok (σ := Nat × Option Addr × Nat × List ET × List Tk) (fun q => [(5, .slice q.2.1 q.2.2.2.1.length q.2.2.1), (4, .slice none 0 0), (0, .pointer (some ⟨pr, 0, none⟩)), (1, .int .i64 (d : Int))])
    (fun q w' => R = argsP F d q.1 (ET.es q.2.2.2.1) q.2.2.2.2 ∧ q.1 + q.2.2.2.1.length ≤ N ∧ Hp (· = pr) w w' [qu ET.enc 6 74 q.2.1 q.2.2.1 q.2.2.2.1, trs q.2.2.2.1, rdr src pr q.2.2.2.2]) (fun q _ => q.1) (N, none, 0, [], ts) rfl ⟨rfl, rfl, rfl, rfl, trivial⟩ ⟨hR, Nat.le_refl _, H⟩ ?_
  clear H hR hN0 hN h
  rintro ⟨f, A, c, l, ts⟩ w5 ⟨hR, hN, H⟩
  simp only at hR hN H ⊢
  cases f with
  | zero => exact absurd hR hne
  | succ f =>
  simp only [argsP, ET.es_len] at hR
  (obtain ⟨nx, t0, r0, rfl, hnx, hr0, hb0⟩ := H.atC (c := rdr src pr ts) 2 rfl; replace H := Hp.ofR H hb0; clear hb0)
  by_cases hk : t0.kind = s_rp
  · rw [if_pos (show curK (t0 :: r0) = s_rp from hk)] at hR
    repeat' ((conv => whnf); first | refine ztT ?_ | (refine ztB ?_ ?_ <;> intro _ <;> try (exfalso; omega)) | (refine ztA ?_; clear H; intro _ _ H _) | fail)
    (replace H := Hp.toR H hnx hr0; clear hnx hr0)
    (((conv => whnf); refine Cl.mkX (take_c s_rp src pr (t0 :: r0) wb _ (H.base2 HB) X.lo X.tb X.len (H.atC 2 rfl) (by decide)) ?_ ?_; rotate_left; (rintro ch w9 ⟨e9, p9, q9, h9, rfl, H'⟩; exact ⟨e9, p9, q9, (by rw [hR, h9]; rfl), rfl, Hp.pan H H' (.inl rfl)⟩)); rintro _ w8 ⟨t1, ts1, h1, rfl, H'⟩; replace H := H.upd (c := rdr src pr (t0 :: r0)) H' rfl (.inl rfl); clear H'; rw [h1, Res.bind_ok] at hR; clear h1)
    repeat' ((conv => whnf); first | refine ztT ?_ | (refine ztB ?_ ?_ <;> intro _ <;> try (exfalso; omega)) | (refine ztA ?_; clear H; intro _ _ H _) | fail)
    exact ⟨A, c, l, ts1, hR, rfl, by omega, H⟩
  rw [if_neg (show ¬ curK (t0 :: r0) = s_rp from hk)] at hR
  by_cases hl0 : l.length = 0
  · rw [if_neg (by omega), Res.bind_ok] at hR
    repeat' ((conv => whnf); first | refine ztT ?_ | (refine ztB ?_ ?_ <;> intro _ <;> try (exfalso; omega)) | (refine ztA ?_; clear H; intro _ _ H _) | fail)
    all_goals first | (exfalso; omega) | skip
    (replace H := Hp.toR H hnx hr0; clear hnx hr0)
    replace hR : R = (F.expr 0 d (t0 :: r0)).bind fun e ts2 => argsP F d f (ET.es l ++ [e]) ts2 := hR
    repeat' ((conv => whnf); first | refine ztT ?_ | (refine ztB ?_ ?_ <;> intro _ <;> try (exfalso; omega)) | (refine ztA ?_; clear H; intro _ _ H _) | fail)
    ((conv => whnf); refine Cl.mkX (C.expr 0 d (t0 :: r0) _ (by omega) hd (H.base2 HB) (H.atC 2 rfl) (Res.bind_out (by rw [← hR]; exact hne))) ?_ ?_; rotate_left; (rintro ch w9 ⟨e9, p9, q9, h9, rfl, H'⟩; exact ⟨e9, p9, q9, (by rw [hR, h9]; rfl), rfl, Hp.pan H H' (.inl rfl)⟩))
    rintro _ w3 ⟨⟨kd, o, n, nm, cb, A2, c2, l2⟩, ts2, h2, rfl, H'⟩
    replace H := H.updn (c := rdr src pr (t0 :: r0)) (Hp.swap H') rfl (.inl rfl) (.inl rfl)
    clear H'
    rw [h2, Res.bind_ok] at hR
    refine Sm.lith (cs := ET.enc (.mk kd o n nm cb A2 c2 l2)) H T.ok (fun p5 w4 H _ => ?_)
    refine Sm.ap1 (enc := ET.enc) (.mk kd o n nm cb A2 c2 l2) H T.ok ?_ ?_ (fun A' c' w6 H => ?_)
    · show (l.length + 1) * 80 ≤ _; omega
    · omega
    simp only [List.cons_append, List.nil_append] at H
    repeat' ((conv => whnf); first | refine ztT ?_ | (refine ztB ?_ ?_ <;> intro _ <;> try (exfalso; omega)) | (refine ztA ?_; clear H; intro _ _ H _) | fail)
    refine ⟨(f, A', c', l ++ [.mk kd o n nm cb A2 c2 l2], ts2), ⟨at_val rfl (by simp), rfl, rfl, rfl, trivial⟩, rfl, ⟨?_, ?_, ?_⟩, Nat.lt_succ_self f⟩
    · rw [hR, ET.es_app]; rfl
    · simp only [List.length_append, List.length_cons, List.length_nil]; omega
    · exact Hp.swap (Hp.trsS (H.sel [0, 1, 0, 0] rfl))
  · rw [if_pos hl0] at hR
    replace hR : R = (takeP s_comma (t0 :: r0)).bind fun _ ts1 => (F.expr 0 d ts1).bind fun e ts2 => argsP F d f (ET.es l ++ [e]) ts2 := by
      rw [hR]
      cases takeP s_comma (t0 :: r0) <;> rfl
    repeat' ((conv => whnf); first | refine ztT ?_ | (refine ztB ?_ ?_ <;> intro _ <;> try (exfalso; omega)) | (refine ztA ?_; clear H; intro _ _ H _) | fail)
    all_goals first | (exfalso; omega) | skip
    (replace H := Hp.toR H hnx hr0; clear hnx hr0)
    (((conv => whnf); refine Cl.mkX (take_c s_comma src pr (t0 :: r0) wb _ (H.base2 HB) X.lo X.tb X.len (H.atC 2 rfl) (by decide)) ?_ ?_; rotate_left; (rintro ch w9 ⟨e9, p9, q9, h9, rfl, H'⟩; exact ⟨e9, p9, q9, (by rw [hR, h9]; rfl), rfl, Hp.pan H H' (.inl rfl)⟩)); rintro _ w8 ⟨t1, ts1, h1, rfl, H'⟩; replace H := H.upd (c := rdr src pr (t0 :: r0)) H' rfl (.inl rfl); clear H'; rw [h1, Res.bind_ok] at hR; clear h1)
    replace hR : R = (F.expr 0 d ts1).bind fun e ts2 => argsP F d f (ET.es l ++ [e]) ts2 := hR
    repeat' ((conv => whnf); first | refine ztT ?_ | (refine ztB ?_ ?_ <;> intro _ <;> try (exfalso; omega)) | (refine ztA ?_; clear H; intro _ _ H _) | fail)
    ((conv => whnf); refine Cl.mkX (C.expr 0 d ts1 _ (by omega) hd (H.base2 HB) (H.atC 2 rfl) (Res.bind_out (by rw [← hR]; exact hne))) ?_ ?_; rotate_left; (rintro ch w9 ⟨e9, p9, q9, h9, rfl, H'⟩; exact ⟨e9, p9, q9, (by rw [hR, h9]; rfl), rfl, Hp.pan H H' (.inl rfl)⟩))
    rintro _ w3 ⟨⟨kd, o, n, nm, cb, A2, c2, l2⟩, ts2, h2, rfl, H'⟩
    replace H := H.updn (c := rdr src pr ts1) (Hp.swap H') rfl (.inl rfl) (.inl rfl)
    clear H'
    rw [h2, Res.bind_ok] at hR
    refine Sm.lith (cs := ET.enc (.mk kd o n nm cb A2 c2 l2)) H T.ok (fun p5 w4 H _ => ?_)
    refine Sm.ap1 (enc := ET.enc) (.mk kd o n nm cb A2 c2 l2) H T.ok ?_ ?_ (fun A' c' w6 H => ?_)
    · show (l.length + 1) * 80 ≤ _; omega
    · omega
    simp only [List.cons_append, List.nil_append] at H
    repeat' ((conv => whnf); first | refine ztT ?_ | (refine ztB ?_ ?_ <;> intro _ <;> try (exfalso; omega)) | (refine ztA ?_; clear H; intro _ _ H _) | fail)
    refine ⟨(f, A', c', l ++ [.mk kd o n nm cb A2 c2 l2], ts2), ⟨at_val rfl (by simp), rfl, rfl, rfl, trivial⟩, rfl, ⟨?_, ?_, ?_⟩, Nat.lt_succ_self f⟩
    · rw [hR, ET.es_app]; rfl
    · simp only [List.length_append, List.length_cons, List.length_nil]; omega
    · exact Hp.swap (Hp.trsS (H.sel [0, 1, 0, 0] rfl))
set_option maxHeartbeats 4000000 in
theorem form_c (k : Bs) (d : Nat) (ts : List Tk) (w : World) (hd : d ≤ 41) (hwb : Ext wb w) (h : Rdr src pr ts w) (hne : formP F k d ts ≠ .out) :
    Cl Tryz.prog 150 #[.pointer (some ⟨pr, 0, none⟩), .string (bs k), .int .i64 (d : Int)] w (OkE src pr (formP F k d ts) w) (PanX (formP F k d ts) pr w) := by
  have HB := X.ok hwb
  have hsl := X.len
  obtain ⟨R, hR⟩ : ∃ R, R = formP F k d ts := ⟨_, rfl⟩
  rw [← hR] at hne ⊢
  unfold formP at hR
  refine calls_ex (args := [.pointer (some ⟨pr, 0, none⟩), .string (bs k), .int .i64 (d : Int)]) T.ok Tryz.func150 rfl rfl rfl rfl ?_
  have H := Hp.start (S := (· = pr)) (rdr_ok h) (fun k hk => hk)
  clear h
  refine Sq.mk ?_
  ((conv => whnf); refine Al.hp H ?_; clear H; intro p6 _ H _)
  repeat' ((conv => whnf); first | refine ztS ?_ | (refine ztB ?_ ?_ <;> intro _ <;> try (exfalso; omega)) | (refine ztW ?_; clear H; intro _ _ H _) | fail)
  ((conv => whnf); refine Al.hp H ?_; clear H; intro p7 _ H _)
  by_cases hk1 : k = k_reduce
  · rw [if_pos hk1] at hR
    repeat' ((conv => whnf); first | refine ztT ?_ | (refine ztB ?_ ?_ <;> intro _ <;> try (exfalso; omega)) | (refine ztA ?_; clear H; intro _ _ H _) | fail)
    (((conv => whnf); refine Cl.mkX (take_c k_name src pr (ts) wb _ (H.base2 HB) X.lo X.tb X.len (H.atC 2 rfl) (by decide)) ?_ ?_; rotate_left; (rintro ch w9 ⟨e9, p9, q9, h9, rfl, H'⟩; exact ⟨e9, p9, q9, (by rw [hR, h9]; rfl), rfl, Hp.pan H H' (.inl rfl)⟩)); rintro _ w8 ⟨t1, ts1, h1, rfl, H'⟩; replace H := H.upd (c := rdr src pr (ts)) H' rfl (.inl rfl); clear H'; rw [h1, Res.bind_ok] at hR; clear h1)
    repeat' ((conv => whnf); first | refine ztT ?_ | (refine ztB ?_ ?_ <;> intro _ <;> try (exfalso; omega)) | (refine ztA ?_; clear H; intro _ _ H _) | fail)
    (((conv => whnf); refine Cl.mkX (take_c s_comma src pr (ts1) wb _ (H.base2 HB) X.lo X.tb X.len (H.atC 2 rfl) (by decide)) ?_ ?_; rotate_left; (rintro ch w9 ⟨e9, p9, q9, h9, rfl, H'⟩; exact ⟨e9, p9, q9, (by rw [hR, h9]; rfl), rfl, Hp.pan H H' (.inl rfl)⟩)); rintro _ w8 ⟨t2, ts2, h1, rfl, H'⟩; replace H := H.upd (c := rdr src pr (ts1)) H' rfl (.inl rfl); clear H'; rw [h1, Res.bind_ok] at hR; clear h1)
    repeat' ((conv => whnf); first | refine ztT ?_ | (refine ztB ?_ ?_ <;> intro _ <;> try (exfalso; omega)) | (refine ztA ?_; clear H; intro _ _ H _) | fail)
    (((conv => whnf); refine Cl.mkX (take_c k_name src pr (ts2) wb _ (H.base2 HB) X.lo X.tb X.len (H.atC 2 rfl) (by decide)) ?_ ?_; rotate_left; (rintro ch w9 ⟨e9, p9, q9, h9, rfl, H'⟩; exact ⟨e9, p9, q9, (by rw [hR, h9]; rfl), rfl, Hp.pan H H' (.inl rfl)⟩)); rintro _ w8 ⟨t3, ts3, h1, rfl, H'⟩; replace H := H.upd (c := rdr src pr (ts2)) H' rfl (.inl rfl); clear H'; rw [h1, Res.bind_ok] at hR; clear h1)
    repeat' ((conv => whnf); first | refine ztT ?_ | (refine ztB ?_ ?_ <;> intro _ <;> try (exfalso; omega)) | (refine ztA ?_; clear H; intro _ _ H _) | fail)
    (((conv => whnf); refine Cl.mkX (take_c s_comma src pr (ts3) wb _ (H.base2 HB) X.lo X.tb X.len (H.atC 2 rfl) (by decide)) ?_ ?_; rotate_left; (rintro ch w9 ⟨e9, p9, q9, h9, rfl, H'⟩; exact ⟨e9, p9, q9, (by rw [hR, h9]; rfl), rfl, Hp.pan H H' (.inl rfl)⟩)); rintro _ w8 ⟨t4, ts4, h1, rfl, H'⟩; replace H := H.upd (c := rdr src pr (ts3)) H' rfl (.inl rfl); clear H'; rw [h1, Res.bind_ok] at hR; clear h1)
    repeat' ((conv => whnf); first | refine ztT ?_ | (refine ztB ?_ ?_ <;> intro _ <;> try (exfalso; omega)) | (refine ztA ?_; clear H; intro _ _ H _) | fail)
    have hfix : ∀ w', Hp (· = pr) w w' [bk p7 74 (ET.enc (.mk (6) (0) 0 (t1.text) (t3.text) none 0 [])), bk p6 74 T.t74.zero.cells.toList, rdr src pr (ts4)] → Hp (· = pr) w w' [bk p7 74 (ET.enc (.mk (6) (0) 0 (t1.text) (t3.text) none 0 [])), bk p6 74 T.t74.zero.cells.toList, rdr src pr (ts4)] := fun _ h => h
    replace H := hfix _ H
    clear hfix
    replace H := Hp.nil (Hp.trs0 H) ET.enc 6 74
    refine Lp.g0 T.ok (σ := Nat × Option Addr × Nat × List ET × List Tk) (fun q => [(38, .int .i64 (q.1 : Int)), (37, .int .i64 (3 : Int)), (7, .pointer (some ⟨p7, 0, none⟩)), (6, .pointer (some ⟨p6, 0, none⟩)), (2, .int .i64 (d : Int)), (0, .pointer (some ⟨pr, 0, none⟩))])
      (fun q w' => R = (kidsP F d 3 (3 - q.1) (ET.es q.2.2.2.1) q.2.2.2.2).bind (fun l ts5 => .ok (.mk (6) (0) 0 (t1.text) (t3.text) l) ts5) ∧ q.1 ≤ 3 ∧ q.2.2.2.1.length = q.1 ∧ Hp (· = pr) w w' [qu ET.enc 6 74 q.2.1 q.2.2.1 q.2.2.2.1, trs q.2.2.2.1, bk p7 74 (ET.enc (.mk (6) (0) 0 (t1.text) (t3.text) q.2.1 q.2.2.1 q.2.2.2.1)), bk p6 74 T.t74.zero.cells.toList, rdr src pr q.2.2.2.2]) (fun q _ => 3 - q.1) (0, none, 0, [], ts4) rfl ⟨rfl, rfl, rfl, rfl, rfl, rfl, trivial⟩ ⟨hR, Nat.zero_le _, rfl, H⟩ ?_
    clear H hR
    rintro ⟨i, A, c, l, ts⟩ w5 ⟨hR, hi, hli, H⟩
    simp only at hR hi hli H ⊢
    by_cases hin : i < 3
    case neg =>
      have hi : i = 3 := by omega
      subst hi
      replace hR : R = ((takeP s_rp ts).bind fun _ ts1 => .ok (ET.es l) ts1).bind (fun l ts5 => .ok (.mk (6) (0) 0 (t1.text) (t3.text) l) ts5) := hR
      rw [Res.bind_assoc] at hR
      repeat' ((conv => whnf); first | refine ztT ?_ | (refine ztB ?_ ?_ <;> intro _ <;> try (exfalso; omega)) | (refine ztA ?_; clear H; intro _ _ H _) | fail)
      (((conv => whnf); refine Cl.mkX (take_c s_rp src pr (ts) wb _ (H.base2 HB) X.lo X.tb X.len (H.atC 4 rfl) (by decide)) ?_ ?_; rotate_left; (rintro ch w9 ⟨e9, p9, q9, h9, rfl, H'⟩; exact ⟨e9, p9, q9, (by rw [hR, h9]; rfl), rfl, Hp.pan H H' (.inl rfl)⟩)); rintro _ w8 ⟨t9, ts9, h1, rfl, H'⟩; replace H := H.upd (c := rdr src pr (ts)) H' rfl (.inl rfl); clear H'; rw [h1, Res.bind_ok] at hR; clear h1)
      repeat' ((conv => whnf); first | refine ztT ?_ | (refine ztB ?_ ?_ <;> intro _ <;> try (exfalso; omega)) | (refine ztA ?_; clear H; intro _ _ H _) | fail)
      exact ⟨.mk (6) (0) 0 (t1.text) (t3.text) A c l, ts9, hR, et_v rfl, Hp.trsN (6) (0) 0 (t1.text) (t3.text) (H.sel [0, 0, 2] rfl)⟩
    have hni : 3 - i = (3 - (i + 1)) + 1 := by omega
    rw [hni] at hR
    simp only [kidsP] at hR
    by_cases hi0 : i = 0
    · rw [if_neg (by omega), Res.bind_ok, Res.bind_assoc] at hR
      repeat' ((conv => whnf); first | refine ztT ?_ | (refine ztB ?_ ?_ <;> intro _ <;> try (exfalso; omega)) | (refine ztA ?_; clear H; intro _ _ H _) | fail)
      all_goals first | (exfalso; omega) | skip
      (conv => whnf)
      refine Dr.chX T.ok mixed [0, 1, 2, 3, 7] [4, 5, 6, 8] (by kernel_rfl) rfl rfl (fun w' => Blk w' p7 74 (ET.enc (.mk (6) (0) 0 (t1.text) (t3.text) A c l))) (PanX R pr w) (fun ch F' w' hds h => by (conv => whnf); rw [show F'.ds = [] from hds]; exact h) (fun w1 eT _ => ?_)
      replace H := H.ext eT
      repeat' ((conv => whnf); refine QLd1.own (fun _ hw => hw) ?_)
      (conv => whnf)
      refine ⟨H.blk 2 rfl, ?_⟩
      ((conv => whnf); refine Cl.mkX (C.expr 0 d (ts) _ (by omega) hd (H.base2 HB) (H.atC 4 rfl) (Res.bind_out (by rw [← hR]; exact hne))) ?_ ?_; rotate_left; (rintro ch w9 ⟨e9, p9, q9, h9, rfl, H'⟩; exact ⟨e9, p9, q9, (by rw [hR, h9]; rfl), rfl, Hp.pan H H' (.inl rfl)⟩))
      rintro _ w3 ⟨⟨kd, o, n, nm, cb, A2, c2, l2⟩, ts2, h2, rfl, H'⟩
      replace H := H.updn (c := rdr src pr (ts)) (Hp.swap H') rfl (.inl rfl) (.inl rfl)
      clear H'
      rw [h2, Res.bind_ok] at hR
      (conv => whnf)
      refine ⟨H.blk 3 rfl, ?_⟩
      refine Sm.lith (cs := ET.enc (.mk kd o n nm cb A2 c2 l2)) H T.ok (fun p5 w4 H _ => ?_)
      (conv => whnf)
      refine ⟨H.blk 4 rfl, ?_⟩
      refine Sm.ap1 (enc := ET.enc) (.mk kd o n nm cb A2 c2 l2) H T.ok ?_ ?_ (fun A' c' w6 H => ?_)
      · show (l.length + 1) * 80 ≤ _; omega
      · omega
      simp only [List.cons_append, List.nil_append] at H
      (conv => whnf)
      refine ⟨H.blk 3 rfl, ?_⟩
      repeat' ((conv => whnf); first | refine ztT ?_ | (refine ztB ?_ ?_ <;> intro _ <;> try (exfalso; omega)) | (refine ztA ?_; clear H; intro _ _ H _) | fail)
      refine ⟨(i + 1, A', c', l ++ [.mk kd o n nm cb A2 c2 l2], ts2), ⟨at_int (m := ((i + 1 : Nat) : Int)) rfl (w64 (by simp) (by omega) (by omega)), rfl, rfl, rfl, rfl, rfl, trivial⟩, rfl, ⟨?_, by simp only; omega, by simp only [List.length_append, List.length_cons, List.length_nil]; omega, ?_⟩, by simp only; omega⟩
      · rw [hR, ET.es_app]; rfl
      · replace H := Hp.swap (Hp.trsS (H.sel [0, 1, 0, 0, 0, 0] rfl))
        have hl1 : (l ++ [ET.mk kd o n nm cb A2 c2 l2]).length = l.length + 1 := by simp
        simp only [ET.enc, hl1]
        exact H
    · rw [if_pos (by omega)] at hR
      replace hR : R = (takeP s_comma ts).bind fun _ ts1 => (F.expr 0 d ts1).bind fun e ts2 => (kidsP F d 3 (3 - (i + 1)) (ET.es l ++ [e]) ts2).bind (fun l ts5 => .ok (.mk (6) (0) 0 (t1.text) (t3.text) l) ts5) := by
        rw [hR]
        cases takeP s_comma ts with
        | out => rfl
        | err e p => rfl
        | ok a ts1 => simp only [Res.bind_ok, Res.bind_assoc]
      repeat' ((conv => whnf); first | refine ztT ?_ | (refine ztB ?_ ?_ <;> intro _ <;> try (exfalso; omega)) | (refine ztA ?_; clear H; intro _ _ H _) | fail)
      all_goals first | (exfalso; omega) | skip
      (((conv => whnf); refine Cl.mkX (take_c s_comma src pr (ts) wb _ (H.base2 HB) X.lo X.tb X.len (H.atC 4 rfl) (by decide)) ?_ ?_; rotate_left; (rintro ch w9 ⟨e9, p9, q9, h9, rfl, H'⟩; exact ⟨e9, p9, q9, (by rw [hR, h9]; rfl), rfl, Hp.pan H H' (.inl rfl)⟩)); rintro _ w8 ⟨t9, ts9, h1, rfl, H'⟩; replace H := H.upd (c := rdr src pr (ts)) H' rfl (.inl rfl); clear H'; rw [h1, Res.bind_ok] at hR; clear h1)
      repeat' ((conv => whnf); first | refine ztT ?_ | (refine ztB ?_ ?_ <;> intro _ <;> try (exfalso; omega)) | (refine ztA ?_; clear H; intro _ _ H _) | fail)
      (conv => whnf)
      refine Dr.chX T.ok mixed [0, 1, 2, 3, 7] [4, 5, 6, 8] (by kernel_rfl) rfl rfl (fun w' => Blk w' p7 74 (ET.enc (.mk (6) (0) 0 (t1.text) (t3.text) A c l))) (PanX R pr w) (fun ch F' w' hds h => by (conv => whnf); rw [show F'.ds = [] from hds]; exact h) (fun w1 eT _ => ?_)
      replace H := H.ext eT
      repeat' ((conv => whnf); refine QLd1.own (fun _ hw => hw) ?_)
      (conv => whnf)
      refine ⟨H.blk 2 rfl, ?_⟩
      ((conv => whnf); refine Cl.mkX (C.expr 0 d (ts9) _ (by omega) hd (H.base2 HB) (H.atC 4 rfl) (Res.bind_out (by rw [← hR]; exact hne))) ?_ ?_; rotate_left; (rintro ch w9 ⟨e9, p9, q9, h9, rfl, H'⟩; exact ⟨e9, p9, q9, (by rw [hR, h9]; rfl), rfl, Hp.pan H H' (.inl rfl)⟩))
      rintro _ w3 ⟨⟨kd, o, n, nm, cb, A2, c2, l2⟩, ts2, h2, rfl, H'⟩
      replace H := H.updn (c := rdr src pr (ts9)) (Hp.swap H') rfl (.inl rfl) (.inl rfl)
      clear H'
      rw [h2, Res.bind_ok] at hR
      (conv => whnf)
      refine ⟨H.blk 3 rfl, ?_⟩
      refine Sm.lith (cs := ET.enc (.mk kd o n nm cb A2 c2 l2)) H T.ok (fun p5 w4 H _ => ?_)
      (conv => whnf)
      refine ⟨H.blk 4 rfl, ?_⟩
      refine Sm.ap1 (enc := ET.enc) (.mk kd o n nm cb A2 c2 l2) H T.ok ?_ ?_ (fun A' c' w6 H => ?_)
      · show (l.length + 1) * 80 ≤ _; omega
      · omega
      simp only [List.cons_append, List.nil_append] at H
      (conv => whnf)
      refine ⟨H.blk 3 rfl, ?_⟩
      repeat' ((conv => whnf); first | refine ztT ?_ | (refine ztB ?_ ?_ <;> intro _ <;> try (exfalso; omega)) | (refine ztA ?_; clear H; intro _ _ H _) | fail)
      refine ⟨(i + 1, A', c', l ++ [.mk kd o n nm cb A2 c2 l2], ts2), ⟨at_int (m := ((i + 1 : Nat) : Int)) rfl (w64 (by simp) (by omega) (by omega)), rfl, rfl, rfl, rfl, rfl, trivial⟩, rfl, ⟨?_, by simp only; omega, by simp only [List.length_append, List.length_cons, List.length_nil]; omega, ?_⟩, by simp only; omega⟩
      · rw [hR, ET.es_app]; rfl
      · replace H := Hp.swap (Hp.trsS (H.sel [0, 1, 0, 0, 0, 0] rfl))
        have hl1 : (l ++ [ET.mk kd o n nm cb A2 c2 l2]).length = l.length + 1 := by simp
        simp only [ET.enc, hl1]
        exact H
  · rw [if_neg hk1] at hR
    by_cases hk2 : k = k_each
    · rw [if_pos hk2] at hR
      repeat' ((conv => whnf); first | refine ztT ?_ | (refine ztB ?_ ?_ <;> intro _ <;> try (exfalso; omega)) | (refine ztA ?_; clear H; intro _ _ H _) | fail)
      (((conv => whnf); refine Cl.mkX (take_c k_name src pr (ts) wb _ (H.base2 HB) X.lo X.tb X.len (H.atC 2 rfl) (by decide)) ?_ ?_; rotate_left; (rintro ch w9 ⟨e9, p9, q9, h9, rfl, H'⟩; exact ⟨e9, p9, q9, (by rw [hR, h9]; rfl), rfl, Hp.pan H H' (.inl rfl)⟩)); rintro _ w8 ⟨t1, ts1, h1, rfl, H'⟩; replace H := H.upd (c := rdr src pr (ts)) H' rfl (.inl rfl); clear H'; rw [h1, Res.bind_ok] at hR; clear h1)
      repeat' ((conv => whnf); first | refine ztT ?_ | (refine ztB ?_ ?_ <;> intro _ <;> try (exfalso; omega)) | (refine ztA ?_; clear H; intro _ _ H _) | fail)
      (((conv => whnf); refine Cl.mkX (take_c s_comma src pr (ts1) wb _ (H.base2 HB) X.lo X.tb X.len (H.atC 2 rfl) (by decide)) ?_ ?_; rotate_left; (rintro ch w9 ⟨e9, p9, q9, h9, rfl, H'⟩; exact ⟨e9, p9, q9, (by rw [hR, h9]; rfl), rfl, Hp.pan H H' (.inl rfl)⟩)); rintro _ w8 ⟨t2, ts2, h1, rfl, H'⟩; replace H := H.upd (c := rdr src pr (ts1)) H' rfl (.inl rfl); clear H'; rw [h1, Res.bind_ok] at hR; clear h1)
      repeat' ((conv => whnf); first | refine ztT ?_ | (refine ztB ?_ ?_ <;> intro _ <;> try (exfalso; omega)) | (refine ztA ?_; clear H; intro _ _ H _) | fail)
      have hfix : ∀ w', Hp (· = pr) w w' [bk p7 74 (ET.enc (.mk (7) (0) 0 (t1.text) (([] : Bs)) none 0 [])), bk p6 74 T.t74.zero.cells.toList, rdr src pr (ts2)] → Hp (· = pr) w w' [bk p7 74 (ET.enc (.mk (7) (0) 0 (t1.text) (([] : Bs)) none 0 [])), bk p6 74 T.t74.zero.cells.toList, rdr src pr (ts2)] := fun _ h => h
      replace H := hfix _ H
      clear hfix
      replace H := Hp.nil (Hp.trs0 H) ET.enc 6 74
      refine Lp.g0 T.ok (σ := Nat × Option Addr × Nat × List ET × List Tk) (fun q => [(38, .int .i64 (q.1 : Int)), (37, .int .i64 (2 : Int)), (7, .pointer (some ⟨p7, 0, none⟩)), (6, .pointer (some ⟨p6, 0, none⟩)), (2, .int .i64 (d : Int)), (0, .pointer (some ⟨pr, 0, none⟩))])
        (fun q w' => R = (kidsP F d 2 (2 - q.1) (ET.es q.2.2.2.1) q.2.2.2.2).bind (fun l ts5 => .ok (.mk (7) (0) 0 (t1.text) (([] : Bs)) l) ts5) ∧ q.1 ≤ 2 ∧ q.2.2.2.1.length = q.1 ∧ Hp (· = pr) w w' [qu ET.enc 6 74 q.2.1 q.2.2.1 q.2.2.2.1, trs q.2.2.2.1, bk p7 74 (ET.enc (.mk (7) (0) 0 (t1.text) (([] : Bs)) q.2.1 q.2.2.1 q.2.2.2.1)), bk p6 74 T.t74.zero.cells.toList, rdr src pr q.2.2.2.2]) (fun q _ => 2 - q.1) (0, none, 0, [], ts2) rfl ⟨rfl, rfl, rfl, rfl, rfl, rfl, trivial⟩ ⟨hR, Nat.zero_le _, rfl, H⟩ ?_
      clear H hR
      rintro ⟨i, A, c, l, ts⟩ w5 ⟨hR, hi, hli, H⟩
      simp only at hR hi hli H ⊢
      by_cases hin : i < 2
      case neg =>
        have hi : i = 2 := by omega
        subst hi
        replace hR : R = ((takeP s_rp ts).bind fun _ ts1 => .ok (ET.es l) ts1).bind (fun l ts5 => .ok (.mk (7) (0) 0 (t1.text) (([] : Bs)) l) ts5) := hR
        rw [Res.bind_assoc] at hR
        repeat' ((conv => whnf); first | refine ztT ?_ | (refine ztB ?_ ?_ <;> intro _ <;> try (exfalso; omega)) | (refine ztA ?_; clear H; intro _ _ H _) | fail)
        (((conv => whnf); refine Cl.mkX (take_c s_rp src pr (ts) wb _ (H.base2 HB) X.lo X.tb X.len (H.atC 4 rfl) (by decide)) ?_ ?_; rotate_left; (rintro ch w9 ⟨e9, p9, q9, h9, rfl, H'⟩; exact ⟨e9, p9, q9, (by rw [hR, h9]; rfl), rfl, Hp.pan H H' (.inl rfl)⟩)); rintro _ w8 ⟨t9, ts9, h1, rfl, H'⟩; replace H := H.upd (c := rdr src pr (ts)) H' rfl (.inl rfl); clear H'; rw [h1, Res.bind_ok] at hR; clear h1)
        repeat' ((conv => whnf); first | refine ztT ?_ | (refine ztB ?_ ?_ <;> intro _ <;> try (exfalso; omega)) | (refine ztA ?_; clear H; intro _ _ H _) | fail)
        exact ⟨.mk (7) (0) 0 (t1.text) (([] : Bs)) A c l, ts9, hR, et_v rfl, Hp.trsN (7) (0) 0 (t1.text) (([] : Bs)) (H.sel [0, 0, 2] rfl)⟩
      have hni : 2 - i = (2 - (i + 1)) + 1 := by omega
      rw [hni] at hR
      simp only [kidsP] at hR
      by_cases hi0 : i = 0
      · rw [if_neg (by omega), Res.bind_ok, Res.bind_assoc] at hR
        repeat' ((conv => whnf); first | refine ztT ?_ | (refine ztB ?_ ?_ <;> intro _ <;> try (exfalso; omega)) | (refine ztA ?_; clear H; intro _ _ H _) | fail)
        all_goals first | (exfalso; omega) | skip
        (conv => whnf)
        refine Dr.chX T.ok mixed [0, 1, 2, 3, 7] [4, 5, 6, 8] (by kernel_rfl) rfl rfl (fun w' => Blk w' p7 74 (ET.enc (.mk (7) (0) 0 (t1.text) (([] : Bs)) A c l))) (PanX R pr w) (fun ch F' w' hds h => by (conv => whnf); rw [show F'.ds = [] from hds]; exact h) (fun w1 eT _ => ?_)
        replace H := H.ext eT
        repeat' ((conv => whnf); refine QLd1.own (fun _ hw => hw) ?_)
        (conv => whnf)
        refine ⟨H.blk 2 rfl, ?_⟩
        ((conv => whnf); refine Cl.mkX (C.expr 0 d (ts) _ (by omega) hd (H.base2 HB) (H.atC 4 rfl) (Res.bind_out (by rw [← hR]; exact hne))) ?_ ?_; rotate_left; (rintro ch w9 ⟨e9, p9, q9, h9, rfl, H'⟩; exact ⟨e9, p9, q9, (by rw [hR, h9]; rfl), rfl, Hp.pan H H' (.inl rfl)⟩))
        rintro _ w3 ⟨⟨kd, o, n, nm, cb, A2, c2, l2⟩, ts2, h2, rfl, H'⟩
        replace H := H.updn (c := rdr src pr (ts)) (Hp.swap H') rfl (.inl rfl) (.inl rfl)
        clear H'
        rw [h2, Res.bind_ok] at hR
        (conv => whnf)
        refine ⟨H.blk 3 rfl, ?_⟩
        refine Sm.lith (cs := ET.enc (.mk kd o n nm cb A2 c2 l2)) H T.ok (fun p5 w4 H _ => ?_)
        (conv => whnf)
        refine ⟨H.blk 4 rfl, ?_⟩
        refine Sm.ap1 (enc := ET.enc) (.mk kd o n nm cb A2 c2 l2) H T.ok ?_ ?_ (fun A' c' w6 H => ?_)
        · show (l.length + 1) * 80 ≤ _; omega
        · omega
        simp only [List.cons_append, List.nil_append] at H
        (conv => whnf)
        refine ⟨H.blk 3 rfl, ?_⟩
        repeat' ((conv => whnf); first | refine ztT ?_ | (refine ztB ?_ ?_ <;> intro _ <;> try (exfalso; omega)) | (refine ztA ?_; clear H; intro _ _ H _) | fail)
        refine ⟨(i + 1, A', c', l ++ [.mk kd o n nm cb A2 c2 l2], ts2), ⟨at_int (m := ((i + 1 : Nat) : Int)) rfl (w64 (by simp) (by omega) (by omega)), rfl, rfl, rfl, rfl, rfl, trivial⟩, rfl, ⟨?_, by simp only; omega, by simp only [List.length_append, List.length_cons, List.length_nil]; omega, ?_⟩, by simp only; omega⟩
        · rw [hR, ET.es_app]; rfl
        · replace H := Hp.swap (Hp.trsS (H.sel [0, 1, 0, 0, 0, 0] rfl))
          have hl1 : (l ++ [ET.mk kd o n nm cb A2 c2 l2]).length = l.length + 1 := by simp
          simp only [ET.enc, hl1]
          exact H
      · rw [if_pos (by omega)] at hR
        replace hR : R = (takeP s_comma ts).bind fun _ ts1 => (F.expr 0 d ts1).bind fun e ts2 => (kidsP F d 2 (2 - (i + 1)) (ET.es l ++ [e]) ts2).bind (fun l ts5 => .ok (.mk (7) (0) 0 (t1.text) (([] : Bs)) l) ts5) := by
          rw [hR]
          cases takeP s_comma ts with
          | out => rfl
          | err e p => rfl
          | ok a ts1 => simp only [Res.bind_ok, Res.bind_assoc]
        repeat' ((conv => whnf); first | refine ztT ?_ | (refine ztB ?_ ?_ <;> intro _ <;> try (exfalso; omega)) | (refine ztA ?_; clear H; intro _ _ H _) | fail)
        all_goals first | (exfalso; omega) | skip
        (((conv => whnf); refine Cl.mkX (take_c s_comma src pr (ts) wb _ (H.base2 HB) X.lo X.tb X.len (H.atC 4 rfl) (by decide)) ?_ ?_; rotate_left; (rintro ch w9 ⟨e9, p9, q9, h9, rfl, H'⟩; exact ⟨e9, p9, q9, (by rw [hR, h9]; rfl), rfl, Hp.pan H H' (.inl rfl)⟩)); rintro _ w8 ⟨t9, ts9, h1, rfl, H'⟩; replace H := H.upd (c := rdr src pr (ts)) H' rfl (.inl rfl); clear H'; rw [h1, Res.bind_ok] at hR; clear h1)
        repeat' ((conv => whnf); first | refine ztT ?_ | (refine ztB ?_ ?_ <;> intro _ <;> try (exfalso; omega)) | (refine ztA ?_; clear H; intro _ _ H _) | fail)
        (conv => whnf)
        refine Dr.chX T.ok mixed [0, 1, 2, 3, 7] [4, 5, 6, 8] (by kernel_rfl) rfl rfl (fun w' => Blk w' p7 74 (ET.enc (.mk (7) (0) 0 (t1.text) (([] : Bs)) A c l))) (PanX R pr w) (fun ch F' w' hds h => by (conv => whnf); rw [show F'.ds = [] from hds]; exact h) (fun w1 eT _ => ?_)
        replace H := H.ext eT
        repeat' ((conv => whnf); refine QLd1.own (fun _ hw => hw) ?_)
        (conv => whnf)
        refine ⟨H.blk 2 rfl, ?_⟩
        ((conv => whnf); refine Cl.mkX (C.expr 0 d (ts9) _ (by omega) hd (H.base2 HB) (H.atC 4 rfl) (Res.bind_out (by rw [← hR]; exact hne))) ?_ ?_; rotate_left; (rintro ch w9 ⟨e9, p9, q9, h9, rfl, H'⟩; exact ⟨e9, p9, q9, (by rw [hR, h9]; rfl), rfl, Hp.pan H H' (.inl rfl)⟩))
        rintro _ w3 ⟨⟨kd, o, n, nm, cb, A2, c2, l2⟩, ts2, h2, rfl, H'⟩
        replace H := H.updn (c := rdr src pr (ts9)) (Hp.swap H') rfl (.inl rfl) (.inl rfl)
        clear H'
        rw [h2, Res.bind_ok] at hR
        (conv => whnf)
        refine ⟨H.blk 3 rfl, ?_⟩
        refine Sm.lith (cs := ET.enc (.mk kd o n nm cb A2 c2 l2)) H T.ok (fun p5 w4 H _ => ?_)
        (conv => whnf)
        refine ⟨H.blk 4 rfl, ?_⟩
        refine Sm.ap1 (enc := ET.enc) (.mk kd o n nm cb A2 c2 l2) H T.ok ?_ ?_ (fun A' c' w6 H => ?_)
        · show (l.length + 1) * 80 ≤ _; omega
        · omega
        simp only [List.cons_append, List.nil_append] at H
        (conv => whnf)
        refine ⟨H.blk 3 rfl, ?_⟩
        repeat' ((conv => whnf); first | refine ztT ?_ | (refine ztB ?_ ?_ <;> intro _ <;> try (exfalso; omega)) | (refine ztA ?_; clear H; intro _ _ H _) | fail)
        refine ⟨(i + 1, A', c', l ++ [.mk kd o n nm cb A2 c2 l2], ts2), ⟨at_int (m := ((i + 1 : Nat) : Int)) rfl (w64 (by simp) (by omega) (by omega)), rfl, rfl, rfl, rfl, rfl, trivial⟩, rfl, ⟨?_, by simp only; omega, by simp only [List.length_append, List.length_cons, List.length_nil]; omega, ?_⟩, by simp only; omega⟩
        · rw [hR, ET.es_app]; rfl
        · replace H := Hp.swap (Hp.trsS (H.sel [0, 1, 0, 0, 0, 0] rfl))
          have hl1 : (l ++ [ET.mk kd o n nm cb A2 c2 l2]).length = l.length + 1 := by simp
          simp only [ET.enc, hl1]
          exact H
    · rw [if_neg hk2] at hR
      repeat' ((conv => whnf); first | refine ztT ?_ | (refine ztB ?_ ?_ <;> intro _ <;> try (exfalso; omega)) | (refine ztA ?_; clear H; intro _ _ H _) | fail)
      (((conv => whnf); refine Cl.mk (find_c k _ (X.tb.ext (H.base2 HB))) ?_); rintro _ _ ⟨rfl, hx⟩; replace H := H.ext hx; clear hx)
      repeat' ((conv => whnf); first | refine ztT ?_ | (refine ztB ?_ ?_ <;> intro _ <;> try (exfalso; omega)) | (refine ztA ?_; clear H; intro _ _ H _) | fail)
      have hfix : ∀ w', Hp (· = pr) w w' [bk p7 74 (ET.enc (.mk (4) (findOp k) 0 (([] : Bs)) (([] : Bs)) none 0 [])), bk p6 74 T.t74.zero.cells.toList, rdr src pr (ts)] → Hp (· = pr) w w' [bk p7 74 (ET.enc (.mk (4) (findOp k) 0 (([] : Bs)) (([] : Bs)) none 0 [])), bk p6 74 T.t74.zero.cells.toList, rdr src pr (ts)] := fun _ h => h
      replace H := hfix _ H
      clear hfix
      replace H := Hp.nil (Hp.trs0 H) ET.enc 6 74
      refine Lp.g0 T.ok (σ := Nat × Option Addr × Nat × List ET × List Tk) (fun q => [(38, .int .i64 (q.1 : Int)), (37, .int .i64 (2 : Int)), (7, .pointer (some ⟨p7, 0, none⟩)), (6, .pointer (some ⟨p6, 0, none⟩)), (2, .int .i64 (d : Int)), (0, .pointer (some ⟨pr, 0, none⟩))])
        (fun q w' => R = (kidsP F d 2 (2 - q.1) (ET.es q.2.2.2.1) q.2.2.2.2).bind (fun l ts5 => .ok (.mk (4) (findOp k) 0 (([] : Bs)) (([] : Bs)) l) ts5) ∧ q.1 ≤ 2 ∧ q.2.2.2.1.length = q.1 ∧ Hp (· = pr) w w' [qu ET.enc 6 74 q.2.1 q.2.2.1 q.2.2.2.1, trs q.2.2.2.1, bk p7 74 (ET.enc (.mk (4) (findOp k) 0 (([] : Bs)) (([] : Bs)) q.2.1 q.2.2.1 q.2.2.2.1)), bk p6 74 T.t74.zero.cells.toList, rdr src pr q.2.2.2.2]) (fun q _ => 2 - q.1) (0, none, 0, [], ts) rfl ⟨rfl, rfl, rfl, rfl, rfl, rfl, trivial⟩ ⟨hR, Nat.zero_le _, rfl, H⟩ ?_
      clear H hR
      rintro ⟨i, A, c, l, ts⟩ w5 ⟨hR, hi, hli, H⟩
      simp only at hR hi hli H ⊢
      by_cases hin : i < 2
      case neg =>
        have hi : i = 2 := by omega
        subst hi
        replace hR : R = ((takeP s_rp ts).bind fun _ ts1 => .ok (ET.es l) ts1).bind (fun l ts5 => .ok (.mk (4) (findOp k) 0 (([] : Bs)) (([] : Bs)) l) ts5) := hR
        rw [Res.bind_assoc] at hR
        repeat' ((conv => whnf); first | refine ztT ?_ | (refine ztB ?_ ?_ <;> intro _ <;> try (exfalso; omega)) | (refine ztA ?_; clear H; intro _ _ H _) | fail)
        (((conv => whnf); refine Cl.mkX (take_c s_rp src pr (ts) wb _ (H.base2 HB) X.lo X.tb X.len (H.atC 4 rfl) (by decide)) ?_ ?_; rotate_left; (rintro ch w9 ⟨e9, p9, q9, h9, rfl, H'⟩; exact ⟨e9, p9, q9, (by rw [hR, h9]; rfl), rfl, Hp.pan H H' (.inl rfl)⟩)); rintro _ w8 ⟨t9, ts9, h1, rfl, H'⟩; replace H := H.upd (c := rdr src pr (ts)) H' rfl (.inl rfl); clear H'; rw [h1, Res.bind_ok] at hR; clear h1)
        repeat' ((conv => whnf); first | refine ztT ?_ | (refine ztB ?_ ?_ <;> intro _ <;> try (exfalso; omega)) | (refine ztA ?_; clear H; intro _ _ H _) | fail)
        exact ⟨.mk (4) (findOp k) 0 (([] : Bs)) (([] : Bs)) A c l, ts9, hR, et_v rfl, Hp.trsN (4) (findOp k) 0 (([] : Bs)) (([] : Bs)) (H.sel [0, 0, 2] rfl)⟩
      have hni : 2 - i = (2 - (i + 1)) + 1 := by omega
      rw [hni] at hR
      simp only [kidsP] at hR
      by_cases hi0 : i = 0
      · rw [if_neg (by omega), Res.bind_ok, Res.bind_assoc] at hR
        repeat' ((conv => whnf); first | refine ztT ?_ | (refine ztB ?_ ?_ <;> intro _ <;> try (exfalso; omega)) | (refine ztA ?_; clear H; intro _ _ H _) | fail)
        all_goals first | (exfalso; omega) | skip
        (conv => whnf)
        refine Dr.chX T.ok mixed [0, 1, 2, 3, 7] [4, 5, 6, 8] (by kernel_rfl) rfl rfl (fun w' => Blk w' p7 74 (ET.enc (.mk (4) (findOp k) 0 (([] : Bs)) (([] : Bs)) A c l))) (PanX R pr w) (fun ch F' w' hds h => by (conv => whnf); rw [show F'.ds = [] from hds]; exact h) (fun w1 eT _ => ?_)
        replace H := H.ext eT
        repeat' ((conv => whnf); refine QLd1.own (fun _ hw => hw) ?_)
        (conv => whnf)
        refine ⟨H.blk 2 rfl, ?_⟩
        ((conv => whnf); refine Cl.mkX (C.expr 0 d (ts) _ (by omega) hd (H.base2 HB) (H.atC 4 rfl) (Res.bind_out (by rw [← hR]; exact hne))) ?_ ?_; rotate_left; (rintro ch w9 ⟨e9, p9, q9, h9, rfl, H'⟩; exact ⟨e9, p9, q9, (by rw [hR, h9]; rfl), rfl, Hp.pan H H' (.inl rfl)⟩))
        rintro _ w3 ⟨⟨kd, o, n, nm, cb, A2, c2, l2⟩, ts2, h2, rfl, H'⟩
        replace H := H.updn (c := rdr src pr (ts)) (Hp.swap H') rfl (.inl rfl) (.inl rfl)
        clear H'
        rw [h2, Res.bind_ok] at hR
        (conv => whnf)
        refine ⟨H.blk 3 rfl, ?_⟩
        refine Sm.lith (cs := ET.enc (.mk kd o n nm cb A2 c2 l2)) H T.ok (fun p5 w4 H _ => ?_)
        (conv => whnf)
        refine ⟨H.blk 4 rfl, ?_⟩
        refine Sm.ap1 (enc := ET.enc) (.mk kd o n nm cb A2 c2 l2) H T.ok ?_ ?_ (fun A' c' w6 H => ?_)
        · show (l.length + 1) * 80 ≤ _; omega
        · omega
        simp only [List.cons_append, List.nil_append] at H
        (conv => whnf)
        refine ⟨H.blk 3 rfl, ?_⟩
        repeat' ((conv => whnf); first | refine ztT ?_ | (refine ztB ?_ ?_ <;> intro _ <;> try (exfalso; omega)) | (refine ztA ?_; clear H; intro _ _ H _) | fail)
        refine ⟨(i + 1, A', c', l ++ [.mk kd o n nm cb A2 c2 l2], ts2), ⟨at_int (m := ((i + 1 : Nat) : Int)) rfl (w64 (by simp) (by omega) (by omega)), rfl, rfl, rfl, rfl, rfl, trivial⟩, rfl, ⟨?_, by simp only; omega, by simp only [List.length_append, List.length_cons, List.length_nil]; omega, ?_⟩, by simp only; omega⟩
        · rw [hR, ET.es_app]; rfl
        · replace H := Hp.swap (Hp.trsS (H.sel [0, 1, 0, 0, 0, 0] rfl))
          have hl1 : (l ++ [ET.mk kd o n nm cb A2 c2 l2]).length = l.length + 1 := by simp
          simp only [ET.enc, hl1]
          exact H
      · rw [if_pos (by omega)] at hR
        replace hR : R = (takeP s_comma ts).bind fun _ ts1 => (F.expr 0 d ts1).bind fun e ts2 => (kidsP F d 2 (2 - (i + 1)) (ET.es l ++ [e]) ts2).bind (fun l ts5 => .ok (.mk (4) (findOp k) 0 (([] : Bs)) (([] : Bs)) l) ts5) := by
          rw [hR]
          cases takeP s_comma ts with
          | out => rfl
          | err e p => rfl
          | ok a ts1 => simp only [Res.bind_ok, Res.bind_assoc]
        repeat' ((conv => whnf); first | refine ztT ?_ | (refine ztB ?_ ?_ <;> intro _ <;> try (exfalso; omega)) | (refine ztA ?_; clear H; intro _ _ H _) | fail)
        all_goals first | (exfalso; omega) | skip
        (((conv => whnf); refine Cl.mkX (take_c s_comma src pr (ts) wb _ (H.base2 HB) X.lo X.tb X.len (H.atC 4 rfl) (by decide)) ?_ ?_; rotate_left; (rintro ch w9 ⟨e9, p9, q9, h9, rfl, H'⟩; exact ⟨e9, p9, q9, (by rw [hR, h9]; rfl), rfl, Hp.pan H H' (.inl rfl)⟩)); rintro _ w8 ⟨t9, ts9, h1, rfl, H'⟩; replace H := H.upd (c := rdr src pr (ts)) H' rfl (.inl rfl); clear H'; rw [h1, Res.bind_ok] at hR; clear h1)
        repeat' ((conv => whnf); first | refine ztT ?_ | (refine ztB ?_ ?_ <;> intro _ <;> try (exfalso; omega)) | (refine ztA ?_; clear H; intro _ _ H _) | fail)
        (conv => whnf)
        refine Dr.chX T.ok mixed [0, 1, 2, 3, 7] [4, 5, 6, 8] (by kernel_rfl) rfl rfl (fun w' => Blk w' p7 74 (ET.enc (.mk (4) (findOp k) 0 (([] : Bs)) (([] : Bs)) A c l))) (PanX R pr w) (fun ch F' w' hds h => by (conv => whnf); rw [show F'.ds = [] from hds]; exact h) (fun w1 eT _ => ?_)
        replace H := H.ext eT
        repeat' ((conv => whnf); refine QLd1.own (fun _ hw => hw) ?_)
        (conv => whnf)
        refine ⟨H.blk 2 rfl, ?_⟩
        ((conv => whnf); refine Cl.mkX (C.expr 0 d (ts9) _ (by omega) hd (H.base2 HB) (H.atC 4 rfl) (Res.bind_out (by rw [← hR]; exact hne))) ?_ ?_; rotate_left; (rintro ch w9 ⟨e9, p9, q9, h9, rfl, H'⟩; exact ⟨e9, p9, q9, (by rw [hR, h9]; rfl), rfl, Hp.pan H H' (.inl rfl)⟩))
        rintro _ w3 ⟨⟨kd, o, n, nm, cb, A2, c2, l2⟩, ts2, h2, rfl, H'⟩
        replace H := H.updn (c := rdr src pr (ts9)) (Hp.swap H') rfl (.inl rfl) (.inl rfl)
        clear H'
        rw [h2, Res.bind_ok] at hR
        (conv => whnf)
        refine ⟨H.blk 3 rfl, ?_⟩
        refine Sm.lith (cs := ET.enc (.mk kd o n nm cb A2 c2 l2)) H T.ok (fun p5 w4 H _ => ?_)
        (conv => whnf)
        refine ⟨H.blk 4 rfl, ?_⟩
        refine Sm.ap1 (enc := ET.enc) (.mk kd o n nm cb A2 c2 l2) H T.ok ?_ ?_ (fun A' c' w6 H => ?_)
        · show (l.length + 1) * 80 ≤ _; omega
        · omega
        simp only [List.cons_append, List.nil_append] at H
        (conv => whnf)
        refine ⟨H.blk 3 rfl, ?_⟩
        repeat' ((conv => whnf); first | refine ztT ?_ | (refine ztB ?_ ?_ <;> intro _ <;> try (exfalso; omega)) | (refine ztA ?_; clear H; intro _ _ H _) | fail)
        refine ⟨(i + 1, A', c', l ++ [.mk kd o n nm cb A2 c2 l2], ts2), ⟨at_int (m := ((i + 1 : Nat) : Int)) rfl (w64 (by simp) (by omega) (by omega)), rfl, rfl, rfl, rfl, rfl, trivial⟩, rfl, ⟨?_, by simp only; omega, by simp only [List.length_append, List.length_cons, List.length_nil]; omega, ?_⟩, by simp only; omega⟩
        · rw [hR, ET.es_app]; rfl
        · replace H := Hp.swap (Hp.trsS (H.sel [0, 1, 0, 0, 0, 0] rfl))
          have hl1 : (l ++ [ET.mk kd o n nm cb A2 c2 l2]).length = l.length + 1 := by simp
          simp only [ET.enc, hl1]
          exact H
end
end Go.Proofs.YtfnjodpehomgfaaGreatDoor
namespace Go.Proofs.YtfnjodpehomgfaaGreatDoor
open Go Go.Sh Go.Tx
attribute [local irreducible] Blk Ext RdS
theorem deep_le {d : Nat} {ts : List Tk} (h : deepP d ts = .ok () ts) : d ≤ 40 := by
  unfold deepP at h
  split at h
  · simp at h
  · omega
section
variable {src : Bs} {pr : Nat} {wb : World} {F : PF} (X : Txt src pr wb) (C : Con src pr wb F)
include X C
set_option maxHeartbeats 4000000 in
theorem unary_c (d : Nat) (ts : List Tk) (w : World) (hd : d ≤ 41) (hwb : Ext wb w) (h : Rdr src pr ts w) (hne : unaryP F d ts ≠ .out) :
    Cl Tryz.prog 130 #[.pointer (some ⟨pr, 0, none⟩), .int .i64 (d : Int)] w (OkE src pr (unaryP F d ts) w) (PanX (unaryP F d ts) pr w) := by
  have HB := X.ok hwb
  have hwd : IntKind.i64.wrap ((d : Int) + 1) = ((d + 1 : Nat) : Int) := w64 rfl (by omega) (by omega)
  obtain ⟨R, hR⟩ : ∃ R, R = unaryP F d ts := ⟨_, rfl⟩
  rw [← hR] at hne ⊢
  unfold unaryP at hR
  refine calls_ex (args := [.pointer (some ⟨pr, 0, none⟩), .int .i64 (d : Int)]) T.ok Tryz.func130 rfl rfl rfl rfl ?_
  have H := Hp.start (S := (· = pr)) (rdr_ok h) (fun k hk => hk)
  clear h
  refine Sq.mk ?_
  ((conv => whnf); refine Al.hp H ?_; clear H; intro p4 _ H _)
  (obtain ⟨nx, t0, r0, rfl, hn0, hr0, hb0⟩ := H.atC (c := rdr src pr ts) 1 rfl; replace H := Hp.ofR H hb0; clear hb0)
  rw [curK_cons] at hR
  by_cases hs : t0.kind ≠ s_minus ∧ t0.kind ≠ s_bang
  · rw [if_pos hs] at hR
    obtain ⟨hs1, hs2⟩ := hs
    replace hs1 : ¬ t0.kind = s_minus := hs1
    replace hs2 : ¬ t0.kind = s_bang := hs2
    repeat' ((conv => whnf); first | refine ztT ?_ | (refine ztB ?_ ?_ <;> intro _ <;> try (exfalso; omega)) | (refine ztA ?_; clear H; intro _ _ H _) | fail)
    (replace H := Hp.toR H hn0 hr0)
    (conv => whnf)
    refine Cl.mkX (C.primary d _ _ hd (H.base2 HB) (H.atC 1 rfl) (by rw [← hR]; exact hne)) ?_ ?_
    · rintro _ w2 ⟨⟨kd, o, n, nm, cb, A, c, l⟩, ts', h1, rfl, H'⟩
      replace H := H.updn (c := rdr src pr (t0 :: r0)) (Hp.swap H') rfl (.inl rfl) (.inl rfl)
      clear H'
      repeat' ((conv => whnf); first | refine ztT ?_ | (refine ztB ?_ ?_ <;> intro _ <;> try (exfalso; omega)) | (refine ztA ?_; clear H; intro _ _ H _) | fail)
      exact ⟨.mk kd o n nm cb A c l, ts', by rw [hR, h1], et_v rfl, H.sel [0, 1] rfl⟩
    · rintro ch w2 ⟨e, p, q, h1, rfl, H'⟩
      exact ⟨e, p, q, by rw [hR, h1], rfl, Hp.pan H H' (.inl rfl)⟩
  rw [if_neg hs] at hR
  have hend : t0.kind ≠ k_end := fun e => hs (by rw [e]; decide)
  have hfin : ∀ (w' : World) (p5 : Nat) (kk : Int) (e : ET) (ts2 : List Tk), Hp (· = pr) w w' [bk p5 74 (ET.enc e), trs [e], rdr src pr ts2] → Hp (· = pr) w w' [trs [.mk kk 0 0 [] [] (some ⟨p5, 0, none⟩) 1 [e]], rdr src pr ts2] := fun w' p5 kk e ts2 H => by
    have H1 : Hp (· = pr) w w' [bk p5 74 ([e].flatMap ET.enc), trs [e], rdr src pr ts2] := by simpa using H
    exact Hp.trsN kk 0 0 [] [] (Hp.bq (sz := 6) H1 (fun z _ => ET.enc_len z))
  have hun := fun ts w => C.unary (d + 1) ts w
  rw [← hwd] at hun
  by_cases hm : t0.kind = s_minus
  · have hbm : (bs t0.kind == (⟨#[45]⟩ : ByteArray)) = true := by rw [hm]; exact (bs_eq s_minus s_minus).trans (by simp)
    have hcm : (t0.kind == s_minus) = true := by rw [hm]; simp
    repeat' ((conv => whnf); first | refine ztT ?_ | (refine ztB ?_ ?_ <;> intro _ <;> try (exfalso; omega)) | (refine ztA ?_; clear H; intro _ _ H _) | fail)
    (replace H := Hp.toR H hn0 hr0)
    (((conv => whnf); refine Cl.mkX (deep_c _ src pr (t0 :: r0) (d + 1) hwd _ (H.atC 1 rfl)) ?_ ?_; rotate_left; (rintro ch w9 ⟨e9, p9, q9, h9, rfl, H'⟩; exact ⟨e9, p9, q9, (by rw [hR, h9]; rfl), rfl, Hp.pan H H' (.inl rfl)⟩)); rintro _ w8 ⟨h1, ex⟩; replace H := H.ext ex; clear ex; have hd40 := deep_le h1; rw [h1, Res.bind_ok] at hR; clear h1)
    have hd41 : d + 1 ≤ 41 := by omega
    replace hR : R = (stepP (t0.kind == s_minus) (t0 :: r0)).bind fun _ ts1 => if t0.kind = s_minus ∧ curK ts1 = k_number then (stepP false ts1).bind fun _ ts2 => .ok (.mk 0 0 (curT ts1).n [] [] []) ts2 else (F.unary (d + 1) ts1).bind fun e ts2 => .ok (.mk (if t0.kind = s_bang then 3 else 2) 0 0 [] [] [e]) ts2 := hR
    rw [show stepP (t0.kind == s_minus) (t0 :: r0) = stepP (bs t0.kind == (⟨#[45]⟩ : ByteArray)) (t0 :: r0) by rw [hcm, hbm]] at hR
    repeat' ((conv => whnf); first | refine ztT ?_ | (refine ztB ?_ ?_ <;> intro _ <;> try (exfalso; omega)) | (refine ztA ?_; clear H; intro _ _ H _) | fail)
    (((conv => whnf); refine Cl.mkX (step_c _ src pr (t0 :: r0) wb _ (H.base2 HB) X.lo X.tb X.len (H.atC 1 rfl) hend) ?_ ?_; rotate_left; (rintro ch w9 ⟨e9, p9, q9, h9, rfl, H'⟩; exact ⟨e9, p9, q9, (by rw [hR, h9]; rfl), rfl, Hp.pan H H' (.inl rfl)⟩)); rintro _ w8 ⟨ts1, h1, H'⟩; replace H := H.upd (c := rdr src pr (t0 :: r0)) H' rfl (.inl rfl); clear H'; rw [h1, Res.bind_ok] at hR; clear h1)
    by_cases hn : curK ts1 = k_number
    · rw [if_pos (show t0.kind = s_minus ∧ curK ts1 = k_number from ⟨hm, hn⟩)] at hR
      (obtain ⟨nx1, t1, r1, rfl, hn1, hr1, hb0⟩ := H.atC (c := rdr src pr ts1) 1 rfl; replace H := Hp.ofR H hb0; clear hb0)
      replace hn : t1.kind = k_number := hn
      repeat' ((conv => whnf); first | refine ztT ?_ | (refine ztB ?_ ?_ <;> intro _ <;> try (exfalso; omega)) | (refine ztA ?_; clear H; intro _ _ H _) | fail)
      (replace H := Hp.toR H hn1 hr1)
      (((conv => whnf); refine Cl.mkX (step_c _ src pr (t1 :: r1) wb _ (H.base2 HB) X.lo X.tb X.len (H.atC 1 rfl) (by rw [curK_cons, hn]; decide)) ?_ ?_; rotate_left; (rintro ch w9 ⟨e9, p9, q9, h9, rfl, H'⟩; exact ⟨e9, p9, q9, (by rw [hR, h9]; rfl), rfl, Hp.pan H H' (.inl rfl)⟩)); rintro _ w8 ⟨ts2, h1, H'⟩; replace H := H.upd (c := rdr src pr (t1 :: r1)) H' rfl (.inl rfl); clear H'; rw [h1, Res.bind_ok] at hR; clear h1)
      repeat' ((conv => whnf); first | refine ztT ?_ | (refine ztB ?_ ?_ <;> intro _ <;> try (exfalso; omega)) | (refine ztA ?_; clear H; intro _ _ H _) | fail)
      exact ⟨.mk 0 0 t1.n [] [] none 0 [], ts2, hR, et_v rfl, Hp.trsZ 0 0 t1.n [] [] (H.sel [1] rfl)⟩
    · rw [if_neg (show ¬ (t0.kind = s_minus ∧ curK ts1 = k_number) from fun e => hn e.2)] at hR
      (obtain ⟨nx1, t1, r1, rfl, hn1, hr1, hb0⟩ := H.atC (c := rdr src pr ts1) 1 rfl; replace H := Hp.ofR H hb0; clear hb0)
      replace hn : ¬ t1.kind = k_number := hn
      have hnb : ¬ t0.kind = s_bang := by rw [hm]; decide
      rw [if_neg hnb] at hR
      repeat' ((conv => whnf); first | refine ztT ?_ | (refine ztB ?_ ?_ <;> intro _ <;> try (exfalso; omega)) | (refine ztA ?_; clear H; intro _ _ H _) | fail)
      (replace H := Hp.toR H hn1 hr1)
      replace hR : R = (F.unary (d + 1) (t1 :: r1)).bind fun e ts2 => .ok (.mk 2 0 0 [] [] [e]) ts2 := hR
      ((conv => whnf); refine Cl.mkX (hun (t1 :: r1) _ hd41 (H.base2 HB) (H.atC 1 rfl) (Res.bind_out (by rw [← hR]; exact hne))) ?_ ?_; rotate_left; (rintro ch w9 ⟨e9, p9, q9, h9, rfl, H'⟩; exact ⟨e9, p9, q9, (by rw [hR, h9]; rfl), rfl, Hp.pan H H' (.inl rfl)⟩))
      rintro _ w3 ⟨⟨kd, o, n, nm, cb, A2, c2, l2⟩, ts2, h2, rfl, H'⟩
      replace H := H.updn (c := rdr src pr (t1 :: r1)) (Hp.swap H') rfl (.inl rfl) (.inl rfl)
      clear H'
      rw [h2, Res.bind_ok] at hR
      refine Sm.lith (cs := ET.enc (.mk kd o n nm cb A2 c2 l2)) H T.ok (fun p5 w4 H _ => ?_)
      repeat' ((conv => whnf); first | refine ztT ?_ | (refine ztB ?_ ?_ <;> intro _ <;> try (exfalso; omega)) | (refine ztA ?_; clear H; intro _ _ H _) | fail)
      refine ⟨.mk 2 0 0 [] [] (some ⟨p5, 0, none⟩) 1 [.mk kd o n nm cb A2 c2 l2], ts2, hR, et_v rfl, ?_⟩
      exact hfin _ p5 2 _ _ (H.sel [0, 0, 1] rfl)
  · have hb : t0.kind = s_bang := Classical.byContradiction fun e => hs ⟨hm, e⟩
    have hbm : (bs t0.kind == (⟨#[45]⟩ : ByteArray)) = false := by rw [hb]; exact (bs_eq s_bang s_minus).trans (by decide)
    have hcm : (t0.kind == s_minus) = false := by rw [hb]; decide
    repeat' ((conv => whnf); first | refine ztT ?_ | (refine ztB ?_ ?_ <;> intro _ <;> try (exfalso; omega)) | (refine ztA ?_; clear H; intro _ _ H _) | fail)
    (replace H := Hp.toR H hn0 hr0)
    (((conv => whnf); refine Cl.mkX (deep_c _ src pr (t0 :: r0) (d + 1) hwd _ (H.atC 1 rfl)) ?_ ?_; rotate_left; (rintro ch w9 ⟨e9, p9, q9, h9, rfl, H'⟩; exact ⟨e9, p9, q9, (by rw [hR, h9]; rfl), rfl, Hp.pan H H' (.inl rfl)⟩)); rintro _ w8 ⟨h1, ex⟩; replace H := H.ext ex; clear ex; have hd40 := deep_le h1; rw [h1, Res.bind_ok] at hR; clear h1)
    have hd41 : d + 1 ≤ 41 := by omega
    replace hR : R = (stepP (t0.kind == s_minus) (t0 :: r0)).bind fun _ ts1 => if t0.kind = s_minus ∧ curK ts1 = k_number then (stepP false ts1).bind fun _ ts2 => .ok (.mk 0 0 (curT ts1).n [] [] []) ts2 else (F.unary (d + 1) ts1).bind fun e ts2 => .ok (.mk (if t0.kind = s_bang then 3 else 2) 0 0 [] [] [e]) ts2 := hR
    rw [show stepP (t0.kind == s_minus) (t0 :: r0) = stepP (bs t0.kind == (⟨#[45]⟩ : ByteArray)) (t0 :: r0) by rw [hcm, hbm]] at hR
    repeat' ((conv => whnf); first | refine ztT ?_ | (refine ztB ?_ ?_ <;> intro _ <;> try (exfalso; omega)) | (refine ztA ?_; clear H; intro _ _ H _) | fail)
    (((conv => whnf); refine Cl.mkX (step_c _ src pr (t0 :: r0) wb _ (H.base2 HB) X.lo X.tb X.len (H.atC 1 rfl) hend) ?_ ?_; rotate_left; (rintro ch w9 ⟨e9, p9, q9, h9, rfl, H'⟩; exact ⟨e9, p9, q9, (by rw [hR, h9]; rfl), rfl, Hp.pan H H' (.inl rfl)⟩)); rintro _ w8 ⟨ts1, h1, H'⟩; replace H := H.upd (c := rdr src pr (t0 :: r0)) H' rfl (.inl rfl); clear H'; rw [h1, Res.bind_ok] at hR; clear h1)
    rw [if_neg (show ¬ (t0.kind = s_minus ∧ curK ts1 = k_number) from fun e => hm e.1), if_pos hb] at hR
    repeat' ((conv => whnf); first | refine ztT ?_ | (refine ztB ?_ ?_ <;> intro _ <;> try (exfalso; omega)) | (refine ztA ?_; clear H; intro _ _ H _) | fail)
    replace hR : R = (F.unary (d + 1) ts1).bind fun e ts2 => .ok (.mk 3 0 0 [] [] [e]) ts2 := hR
    ((conv => whnf); refine Cl.mkX (hun ts1 _ hd41 (H.base2 HB) (H.atC 1 rfl) (Res.bind_out (by rw [← hR]; exact hne))) ?_ ?_; rotate_left; (rintro ch w9 ⟨e9, p9, q9, h9, rfl, H'⟩; exact ⟨e9, p9, q9, (by rw [hR, h9]; rfl), rfl, Hp.pan H H' (.inl rfl)⟩))
    rintro _ w3 ⟨⟨kd, o, n, nm, cb, A2, c2, l2⟩, ts2, h2, rfl, H'⟩
    replace H := H.updn (c := rdr src pr ts1) (Hp.swap H') rfl (.inl rfl) (.inl rfl)
    clear H'
    rw [h2, Res.bind_ok] at hR
    refine Sm.lith (cs := ET.enc (.mk kd o n nm cb A2 c2 l2)) H T.ok (fun p5 w4 H _ => ?_)
    repeat' ((conv => whnf); first | refine ztT ?_ | (refine ztB ?_ ?_ <;> intro _ <;> try (exfalso; omega)) | (refine ztA ?_; clear H; intro _ _ H _) | fail)
    refine ⟨.mk 3 0 0 [] [] (some ⟨p5, 0, none⟩) 1 [.mk kd o n nm cb A2 c2 l2], ts2, hR, et_v rfl, ?_⟩
    exact hfin _ p5 3 _ _ (H.sel [0, 0, 1] rfl)
end
end Go.Proofs.YtfnjodpehomgfaaGreatDoor
namespace Go.Proofs.YtfnjodpehomgfaaGreatDoor
open Go Go.Sh Go.Tx
attribute [local irreducible] Blk Ext RdS
theorem neg_w {n : Int} (h1 : -9223372036854775808 ≤ n) (h2 : n ≤ 0) : IntKind.i64.wrap (0 - n) = negW n := by
  unfold negW
  by_cases h : n = -9223372036854775808
  · rw [if_pos h, h]; rfl
  · rw [if_neg h]
    simp [IntKind.wrap, IntKind.signed, IntKind.bits]
    omega
section
variable {src : Bs} {pr : Nat} {wb : World} {F : PF} (X : Txt src pr wb) (C : Con src pr wb F)
include X C
set_option maxHeartbeats 4000000 in
theorem primary_c (d : Nat) (ts : List Tk) (w : World) (hd : d ≤ 41) (hwb : Ext wb w) (h : Rdr src pr ts w) (hne : primaryP F d ts ≠ .out) :
    Cl Tryz.prog 145 #[.pointer (some ⟨pr, 0, none⟩), .int .i64 (d : Int)] w (OkE src pr (primaryP F d ts) w) (PanX (primaryP F d ts) pr w) := by
  have HB := X.ok hwb
  have hwd : IntKind.i64.wrap ((d : Int) + 1) = ((d + 1 : Nat) : Int) := w64 rfl (by omega) (by omega)
  obtain ⟨R, hR⟩ : ∃ R, R = primaryP F d ts := ⟨_, rfl⟩
  rw [← hR] at hne ⊢
  unfold primaryP at hR
  refine calls_ex (args := [.pointer (some ⟨pr, 0, none⟩), .int .i64 (d : Int)]) T.ok Tryz.func145 rfl rfl rfl rfl ?_
  have H := Hp.start (S := (· = pr)) (rdr_ok h) (fun k hk => hk)
  clear h
  refine Sq.mk ?_
  ((conv => whnf); refine Al.hp H ?_; clear H; intro p4 _ H _)
  (obtain ⟨nx, t0, r0, rfl, hn0, hr0, hb0⟩ := H.atC (c := rdr src pr ts) 1 rfl; replace H := Hp.ofR H hb0; clear hb0)
  rw [curK_cons] at hR
  have hng := neg_w hr0.2.2.1 hr0.2.2.2
  repeat' ((conv => whnf); first | refine ztT ?_ | (refine ztB ?_ ?_ <;> intro _ <;> try (exfalso; omega)) | (refine ztW ?_; clear H; intro _ _ H _) | fail)
  ((conv => whnf); refine Al.hp H ?_; clear H; intro p5 _ H _)
  have hex := fun ts w => C.expr 0 (d + 1) ts w
  rw [← hwd] at hex
  by_cases c1 : t0.kind = k_number
  · rw [if_pos c1] at hR
    repeat' ((conv => whnf); first | refine ztT ?_ | (refine ztB ?_ ?_ <;> intro _ <;> try (exfalso; omega)) | (refine ztA ?_; clear H; intro _ _ H _) | fail)
    (replace H := Hp.toR H hn0 hr0)
    (((conv => whnf); refine Cl.mkX (step_c _ src pr (t0 :: r0) wb _ (H.base2 HB) X.lo X.tb X.len (H.atC 2 rfl) (by rw [curK_cons, c1]; decide)) ?_ ?_; rotate_left; (rintro ch w9 ⟨e9, p9, q9, h9, rfl, H'⟩; exact ⟨e9, p9, q9, (by rw [hR, h9]; rfl), rfl, Hp.pan H H' (.inl rfl)⟩)); rintro _ w8 ⟨ts1, h1, H'⟩; replace H := H.upd (c := rdr src pr (t0 :: r0)) H' rfl (.inl rfl); clear H'; rw [h1, Res.bind_ok] at hR; clear h1)
    repeat' ((conv => whnf); first | refine ztT ?_ | (refine ztB ?_ ?_ <;> intro _ <;> try (exfalso; omega)) | (refine ztA ?_; clear H; intro _ _ H _) | fail)
    exact ⟨.mk 0 0 (negW t0.n) [] [] none 0 [], ts1, hR, et_v (by rw [← hng]; rfl), Hp.trsZ 0 0 (negW t0.n) [] [] (H.sel [2] rfl)⟩
  rw [if_neg c1] at hR
  by_cases c2 : t0.kind = k_name
  · rw [if_pos c2] at hR
    repeat' ((conv => whnf); first | refine ztT ?_ | (refine ztB ?_ ?_ <;> intro _ <;> try (exfalso; omega)) | (refine ztA ?_; clear H; intro _ _ H _) | fail)
    (replace H := Hp.toR H hn0 hr0)
    (((conv => whnf); refine Cl.mkX (step_c _ src pr (t0 :: r0) wb _ (H.base2 HB) X.lo X.tb X.len (H.atC 2 rfl) (by rw [curK_cons, c2]; decide)) ?_ ?_; rotate_left; (rintro ch w9 ⟨e9, p9, q9, h9, rfl, H'⟩; exact ⟨e9, p9, q9, (by rw [hR, h9]; rfl), rfl, Hp.pan H H' (.inl rfl)⟩)); rintro _ w8 ⟨ts1, h1, H'⟩; replace H := H.upd (c := rdr src pr (t0 :: r0)) H' rfl (.inl rfl); clear H'; rw [h1, Res.bind_ok] at hR; clear h1)
    (obtain ⟨nx1, t1, r1, rfl, hn1, hr1, hb0⟩ := H.atC (c := rdr src pr ts1) 2 rfl; replace H := Hp.ofR H hb0; clear hb0)
    by_cases hl : t1.kind = s_lp
    · rw [if_neg (show ¬ curK (t1 :: r1) ≠ s_lp from fun e => e hl)] at hR
      repeat' ((conv => whnf); first | refine ztT ?_ | (refine ztB ?_ ?_ <;> intro _ <;> try (exfalso; omega)) | (refine ztA ?_; clear H; intro _ _ H _) | fail)
      (replace H := Hp.toR H hn1 hr1)
      (((conv => whnf); refine Cl.mkX (deep_c _ src pr (t1 :: r1) (d + 1) hwd _ (H.atC 2 rfl)) ?_ ?_; rotate_left; (rintro ch w9 ⟨e9, p9, q9, h9, rfl, H'⟩; exact ⟨e9, p9, q9, (by rw [hR, h9]; rfl), rfl, Hp.pan H H' (.inl rfl)⟩)); rintro _ w8 ⟨h1, ex⟩; replace H := H.ext ex; clear ex; have hd40 := deep_le h1; rw [h1, Res.bind_ok] at hR; clear h1)
      repeat' ((conv => whnf); first | refine ztT ?_ | (refine ztB ?_ ?_ <;> intro _ <;> try (exfalso; omega)) | (refine ztA ?_; clear H; intro _ _ H _) | fail)
      (((conv => whnf); refine Cl.mkX (step_c _ src pr (t1 :: r1) wb _ (H.base2 HB) X.lo X.tb X.len (H.atC 2 rfl) (by rw [curK_cons, hl]; decide)) ?_ ?_; rotate_left; (rintro ch w9 ⟨e9, p9, q9, h9, rfl, H'⟩; exact ⟨e9, p9, q9, (by rw [hR, h9]; rfl), rfl, Hp.pan H H' (.inl rfl)⟩)); rintro _ w8 ⟨ts2, h1, H'⟩; replace H := H.upd (c := rdr src pr (t1 :: r1)) H' rfl (.inl rfl); clear H'; rw [h1, Res.bind_ok] at hR; clear h1)
      have harg := fun ts w => args_c X C (d + 1) ts w (by omega)
      rw [← hwd] at harg
      repeat' ((conv => whnf); first | refine ztT ?_ | (refine ztB ?_ ?_ <;> intro _ <;> try (exfalso; omega)) | (refine ztA ?_; clear H; intro _ _ H _) | fail)
      (conv => whnf)
      refine Dr.chX T.ok mixed [0, 1, 2, 3, 4] [5, 6, 7] (by kernel_rfl) rfl rfl (fun w' => Blk w' p5 66 (wordCs t0)) (PanX R pr w) (fun ch F' w' hds h => by (conv => whnf); rw [show F'.ds = [] from hds]; exact h) (fun w1 eT _ => ?_)
      replace H := H.ext eT
      repeat' ((conv => whnf); refine QLd1.own (fun _ hw => hw) ?_)
      (conv => whnf)
      refine ⟨H.blk 0 rfl, ?_⟩
      ((conv => whnf); refine Cl.mkX (harg ts2 _ (H.base2 HB) (H.atC 2 rfl) (Res.bind_out (by rw [← hR]; exact hne))) ?_ ?_; rotate_left; (rintro ch w9 ⟨e9, p9, q9, h9, rfl, H'⟩; exact ⟨e9, p9, q9, (by rw [hR, h9]; rfl), rfl, Hp.pan H H' (.inl rfl)⟩))
      rintro _ w3 ⟨A, c, l, ts3, h2, rfl, hlen, H'⟩
      replace H' := Hp.trsN 5 0 0 t0.text [] H'
      replace H := H.updn (c := rdr src pr ts2) (Hp.swap H') rfl (.inl rfl) (.inl rfl)
      clear H'
      rw [h2, Res.bind_ok] at hR
      (conv => whnf)
      refine ⟨H.blk 1 rfl, ?_⟩
      repeat' (first | refine ⟨H.blk 1 rfl, ?_⟩ | ((conv => whnf); first | refine ztT ?_ | (refine ztB ?_ ?_ <;> intro _ <;> try (exfalso; omega)) | (refine ztA ?_; clear H; intro _ _ H _) | fail))
      exact ⟨.mk 5 0 0 t0.text [] A c l, ts3, hR, et_v rfl, H.sel [0, 2] rfl⟩
    · rw [if_pos (show curK (t1 :: r1) ≠ s_lp from hl)] at hR
      repeat' ((conv => whnf); first | refine ztT ?_ | (refine ztB ?_ ?_ <;> intro _ <;> try (exfalso; omega)) | (refine ztA ?_; clear H; intro _ _ H _) | fail)
      (replace H := Hp.toR H hn1 hr1)
      exact ⟨.mk 1 0 0 t0.text [] none 0 [], t1 :: r1, hR, et_v rfl, Hp.trsZ 1 0 0 t0.text [] (H.sel [2] rfl)⟩
  rw [if_neg c2] at hR
  by_cases c3 : t0.kind = s_lp
  · rw [if_pos c3] at hR
    repeat' ((conv => whnf); first | refine ztT ?_ | (refine ztB ?_ ?_ <;> intro _ <;> try (exfalso; omega)) | (refine ztA ?_; clear H; intro _ _ H _) | fail)
    (replace H := Hp.toR H hn0 hr0)
    (((conv => whnf); refine Cl.mkX (deep_c _ src pr (t0 :: r0) (d + 1) hwd _ (H.atC 2 rfl)) ?_ ?_; rotate_left; (rintro ch w9 ⟨e9, p9, q9, h9, rfl, H'⟩; exact ⟨e9, p9, q9, (by rw [hR, h9]; rfl), rfl, Hp.pan H H' (.inl rfl)⟩)); rintro _ w8 ⟨h1, ex⟩; replace H := H.ext ex; clear ex; have hd40 := deep_le h1; rw [h1, Res.bind_ok] at hR; clear h1)
    repeat' ((conv => whnf); first | refine ztT ?_ | (refine ztB ?_ ?_ <;> intro _ <;> try (exfalso; omega)) | (refine ztA ?_; clear H; intro _ _ H _) | fail)
    (((conv => whnf); refine Cl.mkX (step_c _ src pr (t0 :: r0) wb _ (H.base2 HB) X.lo X.tb X.len (H.atC 2 rfl) (by rw [curK_cons, c3]; decide)) ?_ ?_; rotate_left; (rintro ch w9 ⟨e9, p9, q9, h9, rfl, H'⟩; exact ⟨e9, p9, q9, (by rw [hR, h9]; rfl), rfl, Hp.pan H H' (.inl rfl)⟩)); rintro _ w8 ⟨ts1, h1, H'⟩; replace H := H.upd (c := rdr src pr (t0 :: r0)) H' rfl (.inl rfl); clear H'; rw [h1, Res.bind_ok] at hR; clear h1)
    repeat' ((conv => whnf); first | refine ztT ?_ | (refine ztB ?_ ?_ <;> intro _ <;> try (exfalso; omega)) | (refine ztA ?_; clear H; intro _ _ H _) | fail)
    ((conv => whnf); refine Cl.mkX (hex ts1 _ (by omega) (by omega) (H.base2 HB) (H.atC 2 rfl) (Res.bind_out (by rw [← hR]; exact hne))) ?_ ?_; rotate_left; (rintro ch w9 ⟨e9, p9, q9, h9, rfl, H'⟩; exact ⟨e9, p9, q9, (by rw [hR, h9]; rfl), rfl, Hp.pan H H' (.inl rfl)⟩))
    rintro _ w3 ⟨⟨kd, o, n, nm, cb, A2, c2, l2⟩, ts2, h2, rfl, H'⟩
    replace H := H.updn (c := rdr src pr ts1) (Hp.swap H') rfl (.inl rfl) (.inl rfl)
    clear H'
    rw [h2, Res.bind_ok] at hR
    repeat' ((conv => whnf); first | refine ztT ?_ | (refine ztB ?_ ?_ <;> intro _ <;> try (exfalso; omega)) | (refine ztW ?_; clear H; intro _ _ H _) | fail)
    ((conv => whnf); refine Al.hp H ?_; clear H; intro p6 _ H _)
    repeat' ((conv => whnf); first | refine ztT ?_ | (refine ztB ?_ ?_ <;> intro _ <;> try (exfalso; omega)) | (refine ztA ?_; clear H; intro _ _ H _) | fail)
    (((conv => whnf); refine Cl.mkX (take_c s_rp src pr (ts2) wb _ (H.base2 HB) X.lo X.tb X.len (H.atC 4 rfl) (by decide)) ?_ ?_; rotate_left; (rintro ch w9 ⟨e9, p9, q9, h9, rfl, H'⟩; exact ⟨e9, p9, q9, (by rw [hR, h9]; rfl), rfl, Hp.pan H H' (.inl rfl)⟩)); rintro _ w8 ⟨t3, ts3, h1, rfl, H'⟩; replace H := H.upd (c := rdr src pr (ts2)) H' rfl (.inl rfl); clear H'; rw [h1, Res.bind_ok] at hR; clear h1)
    repeat' ((conv => whnf); first | refine ztT ?_ | (refine ztB ?_ ?_ <;> intro _ <;> try (exfalso; omega)) | (refine ztA ?_; clear H; intro _ _ H _) | fail)
    exact ⟨.mk kd o n nm cb A2 c2 l2, ts3, hR, et_v rfl, H.sel [1, 3] rfl⟩
  rw [if_neg c3] at hR
  by_cases c4 : t0.kind = k_min ∨ t0.kind = k_max ∨ t0.kind = k_reduce ∨ t0.kind = k_each
  · rw [if_pos c4] at hR
    have hend : t0.kind ≠ k_end := fun e => by rw [e] at c4; revert c4; decide
    have hfo := fun ts w => form_c X C t0.kind (d + 1) ts w
    rw [← hwd] at hfo
    rcases c4 with c4 | c4 | c4 | c4
    all_goals
      repeat' ((conv => whnf); first | refine ztT ?_ | (refine ztB ?_ ?_ <;> intro _ <;> try (exfalso; omega)) | (refine ztA ?_; clear H; intro _ _ H _) | fail)
      (replace H := Hp.toR H hn0 hr0)
      (((conv => whnf); refine Cl.mkX (deep_c _ src pr (t0 :: r0) (d + 1) hwd _ (H.atC 2 rfl)) ?_ ?_; rotate_left; (rintro ch w9 ⟨e9, p9, q9, h9, rfl, H'⟩; exact ⟨e9, p9, q9, (by rw [hR, h9]; rfl), rfl, Hp.pan H H' (.inl rfl)⟩)); rintro _ w8 ⟨h1, ex⟩; replace H := H.ext ex; clear ex; have hd40 := deep_le h1; rw [h1, Res.bind_ok] at hR; clear h1)
      repeat' ((conv => whnf); first | refine ztT ?_ | (refine ztB ?_ ?_ <;> intro _ <;> try (exfalso; omega)) | (refine ztA ?_; clear H; intro _ _ H _) | fail)
      (((conv => whnf); refine Cl.mkX (step_c _ src pr (t0 :: r0) wb _ (H.base2 HB) X.lo X.tb X.len (H.atC 2 rfl) hend) ?_ ?_; rotate_left; (rintro ch w9 ⟨e9, p9, q9, h9, rfl, H'⟩; exact ⟨e9, p9, q9, (by rw [hR, h9]; rfl), rfl, Hp.pan H H' (.inl rfl)⟩)); rintro _ w8 ⟨ts1, h1, H'⟩; replace H := H.upd (c := rdr src pr (t0 :: r0)) H' rfl (.inl rfl); clear H'; rw [h1, Res.bind_ok] at hR; clear h1)
      repeat' ((conv => whnf); first | refine ztT ?_ | (refine ztB ?_ ?_ <;> intro _ <;> try (exfalso; omega)) | (refine ztA ?_; clear H; intro _ _ H _) | fail)
      (((conv => whnf); refine Cl.mkX (take_c s_lp src pr (ts1) wb _ (H.base2 HB) X.lo X.tb X.len (H.atC 2 rfl) (by decide)) ?_ ?_; rotate_left; (rintro ch w9 ⟨e9, p9, q9, h9, rfl, H'⟩; exact ⟨e9, p9, q9, (by rw [hR, h9]; rfl), rfl, Hp.pan H H' (.inl rfl)⟩)); rintro _ w8 ⟨t2, ts2, h1, rfl, H'⟩; replace H := H.upd (c := rdr src pr (ts1)) H' rfl (.inl rfl); clear H'; rw [h1, Res.bind_ok] at hR; clear h1)
      repeat' ((conv => whnf); first | refine ztT ?_ | (refine ztB ?_ ?_ <;> intro _ <;> try (exfalso; omega)) | (refine ztA ?_; clear H; intro _ _ H _) | fail)
      (conv => whnf)
      refine Cl.mkX (hfo ts2 _ (by omega) (H.base2 HB) (H.atC 2 rfl) (by rw [curK_cons] at hR; rw [← hR]; exact hne)) ?_ ?_
      · rintro _ w3 ⟨⟨kd, o, n, nm, cb, A2, c2, l2⟩, ts3, h2, rfl, H'⟩
        replace H := H.updn (c := rdr src pr ts2) (Hp.swap H') rfl (.inl rfl) (.inl rfl)
        clear H'
        repeat' ((conv => whnf); first | refine ztT ?_ | (refine ztB ?_ ?_ <;> intro _ <;> try (exfalso; omega)) | (refine ztA ?_; clear H; intro _ _ H _) | fail)
        exact ⟨.mk kd o n nm cb A2 c2 l2, ts3, by rw [hR, curK_cons, h2], et_v rfl, H.sel [0, 2] rfl⟩
      · rintro ch w2 ⟨e, p, q, h1, rfl, H'⟩
        exact ⟨e, p, q, by rw [hR, curK_cons, h1], rfl, Hp.pan H H' (.inl rfl)⟩
  rw [if_neg c4] at hR
  simp only [not_or] at c4
  obtain ⟨c5, c6, c7, c8⟩ := c4
  repeat' ((conv => whnf); first | refine ztT ?_ | (refine ztB ?_ ?_ <;> intro _ <;> try (exfalso; omega)) | (refine ztA ?_; clear H; intro _ _ H _) | fail)
  (conv => whnf)
  refine Cl.mkX (fail_c pr 141 t0.at_ _) (fun _ _ h => h.elim) ?_
  rintro ch w5 ⟨q5, rfl, H'⟩
  exact ⟨141, t0.at_, q5, hR, rfl, (H.fr0 H' (.inl rfl)).sel [0] rfl⟩
end
end Go.Proofs.YtfnjodpehomgfaaGreatDoor
namespace Go.Proofs.YtfnjodpehomgfaaGreatDoor
open Go Go.Sh Go.Tx
attribute [local irreducible] Blk Ext RdS
theorem sm_v {v : Value} {kd : Int} {nm : Bs} {k1 o1 n1 : Int} {a1 b1 : Bs} {A1 B E : Option Addr} {c1 cb ce : Nat} {l1 : List ET} {b f : List SM} (h : v = .agg #[.int .i64 kd, .string (bs nm), .int .i64 k1, .int .i64 o1, .int .i64 n1, .string (bs a1), .string (bs b1), .slice A1 l1.length c1, .slice B b.length cb, .slice E f.length ce]) : v = SM.v (.mk kd nm (.mk k1 o1 n1 a1 b1 A1 c1 l1) B cb b E ce f) := h
theorem Hp.stsE {S : Nat → Prop} {w0 w : World} {Γ : List Ck} {e : ET} (kd : Int) (nm : Bs) (H : Hp S w0 w (trs [e] :: Γ)) : Hp S w0 w (sts [.mk kd nm e none 0 [] none 0 []] :: Γ) :=
  Hp.stsN kd nm ((Hp.stl0 (Hp.stl0 H)).perm (List.perm_middle (l₁ := [stl none 0 [], stl none 0 []])))
theorem begins_ne {k : Bs} (h : beginsB k = true) : k ≠ k_end := fun e => by rw [e] at h; revert h; decide
section
variable {src : Bs} {pr : Nat} {wb : World} {F : PF} (X : Txt src pr wb) (C : Con src pr wb F)
include X C
set_option maxHeartbeats 4000000 in
theorem plain_c (d : Nat) (ts : List Tk) (w : World) (hd : d ≤ 41) (hwb : Ext wb w) (h : Rdr src pr ts w) (hbg : beginsB (curK ts) = true) (hne : plainP F d ts ≠ .out) :
    Cl Tryz.prog 112 #[.pointer (some ⟨pr, 0, none⟩), .int .i64 (d : Int)] w (OkS src pr (plainP F d ts) w) (PanX (plainP F d ts) pr w) := by
  have HB := X.ok hwb
  obtain ⟨R, hR⟩ : ∃ R, R = plainP F d ts := ⟨_, rfl⟩
  rw [← hR] at hne ⊢
  unfold plainP at hR
  refine calls_ex (args := [.pointer (some ⟨pr, 0, none⟩), .int .i64 (d : Int)]) T.ok Tryz.func112 rfl rfl rfl rfl ?_
  have H := Hp.start (S := (· = pr)) (rdr_ok h) (fun k hk => hk)
  clear h
  refine Sq.mk ?_
  ((conv => whnf); refine Al.hp H ?_; clear H; intro p4 _ H _)
  (obtain ⟨nx, t0, r0, rfl, hn0, hr0, hb0⟩ := H.atC (c := rdr src pr ts) 1 rfl; replace H := Hp.ofR H hb0; clear hb0)
  rw [curK_cons] at hR hbg
  repeat' ((conv => whnf); first | refine ztT ?_ | (refine ztB ?_ ?_ <;> intro _ <;> try (exfalso; omega)) | (refine ztW ?_; clear H; intro _ _ H _) | fail)
  ((conv => whnf); refine Al.hp H ?_; clear H; intro p5 _ H _)
  repeat' ((conv => whnf); first | refine ztT ?_ | (refine ztB ?_ ?_ <;> intro _ <;> try (exfalso; omega)) | (refine ztA ?_; clear H; intro _ _ H _) | fail)
  (replace H := Hp.toR H hn0 hr0)
  (((conv => whnf); refine Cl.mkX (step_c _ src pr (t0 :: r0) wb _ (H.base2 HB) X.lo X.tb X.len (H.atC 2 rfl) (begins_ne hbg)) ?_ ?_; rotate_left; (rintro ch w9 ⟨e9, p9, q9, h9, rfl, H'⟩; exact ⟨e9, p9, q9, (by rw [hR, h9]; rfl), rfl, Hp.pan H H' (.inl rfl)⟩)); rintro _ w8 ⟨ts1, h1, H'⟩; replace H := H.upd (c := rdr src pr (t0 :: r0)) H' rfl (.inl rfl); clear H'; rw [h1, Res.bind_ok] at hR; clear h1)
  by_cases c1 : t0.kind = k_sync
  · rw [if_pos c1] at hR
    repeat' ((conv => whnf); first | refine ztT ?_ | (refine ztB ?_ ?_ <;> intro _ <;> try (exfalso; omega)) | (refine ztA ?_; clear H; intro _ _ H _) | fail)
    exact ⟨.mk 3 [] (.mk 0 0 0 [] [] none 0 []) none 0 [] none 0 [], ts1, hR, sm_v rfl, Hp.stsE 3 [] (Hp.trsZ 0 0 0 [] [] (H.sel [2] rfl))⟩
  rw [if_neg c1] at hR
  by_cases c2 : t0.kind = k_break
  · rw [if_pos c2] at hR
    repeat' ((conv => whnf); first | refine ztT ?_ | (refine ztB ?_ ?_ <;> intro _ <;> try (exfalso; omega)) | (refine ztA ?_; clear H; intro _ _ H _) | fail)
    exact ⟨.mk 8 [] (.mk 0 0 0 [] [] none 0 []) none 0 [] none 0 [], ts1, hR, sm_v rfl, Hp.stsE 8 [] (Hp.trsZ 0 0 0 [] [] (H.sel [2] rfl))⟩
  rw [if_neg c2] at hR
  by_cases c3 : t0.kind = k_continue
  · rw [if_pos c3] at hR
    repeat' ((conv => whnf); first | refine ztT ?_ | (refine ztB ?_ ?_ <;> intro _ <;> try (exfalso; omega)) | (refine ztA ?_; clear H; intro _ _ H _) | fail)
    exact ⟨.mk 9 [] (.mk 0 0 0 [] [] none 0 []) none 0 [] none 0 [], ts1, hR, sm_v rfl, Hp.stsE 9 [] (Hp.trsZ 0 0 0 [] [] (H.sel [2] rfl))⟩
  rw [if_neg c3] at hR
  by_cases c4 : t0.kind = k_do
  · rw [if_pos c4] at hR
    repeat' ((conv => whnf); first | refine ztT ?_ | (refine ztB ?_ ?_ <;> intro _ <;> try (exfalso; omega)) | (refine ztA ?_; clear H; intro _ _ H _) | fail)
    ((conv => whnf); refine Cl.mkX (C.expr 0 d ts1 _ (by omega) hd (H.base2 HB) (H.atC 2 rfl) (Res.bind_out (by rw [← hR]; exact hne))) ?_ ?_; rotate_left; (rintro ch w9 ⟨e9, p9, q9, h9, rfl, H'⟩; exact ⟨e9, p9, q9, (by rw [hR, h9]; rfl), rfl, Hp.pan H H' (.inl rfl)⟩))
    rintro _ w3 ⟨⟨kd, o, n, nm, cb, A2, c2, l2⟩, ts2, h2, rfl, H'⟩
    replace H := H.updn (c := rdr src pr ts1) (Hp.swap H') rfl (.inl rfl) (.inl rfl)
    clear H'
    rw [h2, Res.bind_ok] at hR
    repeat' ((conv => whnf); first | refine ztT ?_ | (refine ztB ?_ ?_ <;> intro _ <;> try (exfalso; omega)) | (refine ztA ?_; clear H; intro _ _ H _) | fail)
    exact ⟨.mk 6 [] (.mk kd o n nm cb A2 c2 l2) none 0 [] none 0 [], ts2, hR, sm_v rfl, Hp.stsE 6 [] (H.sel [0, 2] rfl)⟩
  rw [if_neg c4] at hR
  by_cases c5 : t0.kind = k_return
  · rw [if_pos c5] at hR
    repeat' ((conv => whnf); first | refine ztT ?_ | (refine ztB ?_ ?_ <;> intro _ <;> try (exfalso; omega)) | (refine ztA ?_; clear H; intro _ _ H _) | fail)
    ((conv => whnf); refine Cl.mkX (C.expr 0 d ts1 _ (by omega) hd (H.base2 HB) (H.atC 2 rfl) (Res.bind_out (by rw [← hR]; exact hne))) ?_ ?_; rotate_left; (rintro ch w9 ⟨e9, p9, q9, h9, rfl, H'⟩; exact ⟨e9, p9, q9, (by rw [hR, h9]; rfl), rfl, Hp.pan H H' (.inl rfl)⟩))
    rintro _ w3 ⟨⟨kd, o, n, nm, cb, A2, c2, l2⟩, ts2, h2, rfl, H'⟩
    replace H := H.updn (c := rdr src pr ts1) (Hp.swap H') rfl (.inl rfl) (.inl rfl)
    clear H'
    rw [h2, Res.bind_ok] at hR
    repeat' ((conv => whnf); first | refine ztT ?_ | (refine ztB ?_ ?_ <;> intro _ <;> try (exfalso; omega)) | (refine ztA ?_; clear H; intro _ _ H _) | fail)
    exact ⟨.mk 7 [] (.mk kd o n nm cb A2 c2 l2) none 0 [] none 0 [], ts2, hR, sm_v rfl, Hp.stsE 7 [] (H.sel [0, 2] rfl)⟩
  rw [if_neg c5] at hR
  by_cases c6 : t0.kind = k_spawn
  · rw [if_pos c6] at hR
    repeat' ((conv => whnf); first | refine ztT ?_ | (refine ztB ?_ ?_ <;> intro _ <;> try (exfalso; omega)) | (refine ztA ?_; clear H; intro _ _ H _) | fail)
    (((conv => whnf); refine Cl.mkX (take_c k_name src pr (ts1) wb _ (H.base2 HB) X.lo X.tb X.len (H.atC 2 rfl) (by decide)) ?_ ?_; rotate_left; (rintro ch w9 ⟨e9, p9, q9, h9, rfl, H'⟩; exact ⟨e9, p9, q9, (by rw [hR, h9]; rfl), rfl, Hp.pan H H' (.inl rfl)⟩)); rintro _ w8 ⟨t1, ts2, h1, rfl, H'⟩; replace H := H.upd (c := rdr src pr (ts1)) H' rfl (.inl rfl); clear H'; rw [h1, Res.bind_ok] at hR; clear h1)
    repeat' ((conv => whnf); first | refine ztT ?_ | (refine ztB ?_ ?_ <;> intro _ <;> try (exfalso; omega)) | (refine ztW ?_; clear H; intro _ _ H _) | fail)
    ((conv => whnf); refine Al.hp H ?_; clear H; intro p6 _ H _)
    repeat' ((conv => whnf); first | refine ztT ?_ | (refine ztB ?_ ?_ <;> intro _ <;> try (exfalso; omega)) | (refine ztA ?_; clear H; intro _ _ H _) | fail)
    (((conv => whnf); refine Cl.mkX (take_c s_asg src pr (ts2) wb _ (H.base2 HB) X.lo X.tb X.len (H.atC 3 rfl) (by decide)) ?_ ?_; rotate_left; (rintro ch w9 ⟨e9, p9, q9, h9, rfl, H'⟩; exact ⟨e9, p9, q9, (by rw [hR, h9]; rfl), rfl, Hp.pan H H' (.inl rfl)⟩)); rintro _ w8 ⟨t2, ts3, h1, rfl, H'⟩; replace H := H.upd (c := rdr src pr (ts2)) H' rfl (.inl rfl); clear H'; rw [h1, Res.bind_ok] at hR; clear h1)
    repeat' ((conv => whnf); first | refine ztT ?_ | (refine ztB ?_ ?_ <;> intro _ <;> try (exfalso; omega)) | (refine ztA ?_; clear H; intro _ _ H _) | fail)
    (((conv => whnf); refine Cl.mkX (take_c k_name src pr (ts3) wb _ (H.base2 HB) X.lo X.tb X.len (H.atC 3 rfl) (by decide)) ?_ ?_; rotate_left; (rintro ch w9 ⟨e9, p9, q9, h9, rfl, H'⟩; exact ⟨e9, p9, q9, (by rw [hR, h9]; rfl), rfl, Hp.pan H H' (.inl rfl)⟩)); rintro _ w8 ⟨t3, ts4, h1, rfl, H'⟩; replace H := H.upd (c := rdr src pr (ts3)) H' rfl (.inl rfl); clear H'; rw [h1, Res.bind_ok] at hR; clear h1)
    repeat' ((conv => whnf); first | refine ztT ?_ | (refine ztB ?_ ?_ <;> intro _ <;> try (exfalso; omega)) | (refine ztA ?_; clear H; intro _ _ H _) | fail)
    (((conv => whnf); refine Cl.mkX (take_c s_lp src pr (ts4) wb _ (H.base2 HB) X.lo X.tb X.len (H.atC 3 rfl) (by decide)) ?_ ?_; rotate_left; (rintro ch w9 ⟨e9, p9, q9, h9, rfl, H'⟩; exact ⟨e9, p9, q9, (by rw [hR, h9]; rfl), rfl, Hp.pan H H' (.inl rfl)⟩)); rintro _ w8 ⟨t4, ts5, h1, rfl, H'⟩; replace H := H.upd (c := rdr src pr (ts4)) H' rfl (.inl rfl); clear H'; rw [h1, Res.bind_ok] at hR; clear h1)
    repeat' ((conv => whnf); first | refine ztT ?_ | (refine ztB ?_ ?_ <;> intro _ <;> try (exfalso; omega)) | (refine ztA ?_; clear H; intro _ _ H _) | fail)
    ((conv => whnf); refine Cl.mkX (args_c X C d ts5 _ hd (H.base2 HB) (H.atC 3 rfl) (Res.bind_out (by rw [← hR]; exact hne))) ?_ ?_; rotate_left; (rintro ch w9 ⟨e9, p9, q9, h9, rfl, H'⟩; exact ⟨e9, p9, q9, (by rw [hR, h9]; rfl), rfl, Hp.pan H H' (.inl rfl)⟩))
    rintro _ w3 ⟨A, c, l, ts6, h2, rfl, hlen, H'⟩
    replace H' := Hp.trsN 5 0 0 t3.text [] H'
    replace H := H.updn (c := rdr src pr ts5) (Hp.swap H') rfl (.inl rfl) (.inl rfl)
    clear H'
    rw [h2, Res.bind_ok] at hR
    repeat' ((conv => whnf); first | refine ztT ?_ | (refine ztB ?_ ?_ <;> intro _ <;> try (exfalso; omega)) | (refine ztA ?_; clear H; intro _ _ H _) | fail)
    exact ⟨.mk 2 t1.text (.mk 5 0 0 t3.text [] A c l) none 0 [] none 0 [], ts6, hR, sm_v rfl, Hp.stsE 2 t1.text (H.sel [0, 3] rfl)⟩
  rw [if_neg c6] at hR
  by_cases c7 : t0.kind = k_let
  · rw [if_pos c7] at hR
    repeat' ((conv => whnf); first | refine ztT ?_ | (refine ztB ?_ ?_ <;> intro _ <;> try (exfalso; omega)) | (refine ztA ?_; clear H; intro _ _ H _) | fail)
    (((conv => whnf); refine Cl.mkX (take_c k_name src pr (ts1) wb _ (H.base2 HB) X.lo X.tb X.len (H.atC 2 rfl) (by decide)) ?_ ?_; rotate_left; (rintro ch w9 ⟨e9, p9, q9, h9, rfl, H'⟩; exact ⟨e9, p9, q9, (by rw [hR, h9]; rfl), rfl, Hp.pan H H' (.inl rfl)⟩)); rintro _ w8 ⟨t1, ts2, h1, rfl, H'⟩; replace H := H.upd (c := rdr src pr (ts1)) H' rfl (.inl rfl); clear H'; rw [h1, Res.bind_ok] at hR; clear h1)
    repeat' ((conv => whnf); first | refine ztT ?_ | (refine ztB ?_ ?_ <;> intro _ <;> try (exfalso; omega)) | (refine ztW ?_; clear H; intro _ _ H _) | fail)
    ((conv => whnf); refine Al.hp H ?_; clear H; intro p6 _ H _)
    repeat' ((conv => whnf); first | refine ztT ?_ | (refine ztB ?_ ?_ <;> intro _ <;> try (exfalso; omega)) | (refine ztA ?_; clear H; intro _ _ H _) | fail)
    (((conv => whnf); refine Cl.mkX (take_c s_asg src pr (ts2) wb _ (H.base2 HB) X.lo X.tb X.len (H.atC 3 rfl) (by decide)) ?_ ?_; rotate_left; (rintro ch w9 ⟨e9, p9, q9, h9, rfl, H'⟩; exact ⟨e9, p9, q9, (by rw [hR, h9]; rfl), rfl, Hp.pan H H' (.inl rfl)⟩)); rintro _ w8 ⟨t2, ts3, h1, rfl, H'⟩; replace H := H.upd (c := rdr src pr (ts2)) H' rfl (.inl rfl); clear H'; rw [h1, Res.bind_ok] at hR; clear h1)
    repeat' ((conv => whnf); first | refine ztT ?_ | (refine ztB ?_ ?_ <;> intro _ <;> try (exfalso; omega)) | (refine ztA ?_; clear H; intro _ _ H _) | fail)
    ((conv => whnf); refine Cl.mkX (C.expr 0 d ts3 _ (by omega) hd (H.base2 HB) (H.atC 3 rfl) (Res.bind_out (by rw [← hR]; exact hne))) ?_ ?_; rotate_left; (rintro ch w9 ⟨e9, p9, q9, h9, rfl, H'⟩; exact ⟨e9, p9, q9, (by rw [hR, h9]; rfl), rfl, Hp.pan H H' (.inl rfl)⟩))
    rintro _ w3 ⟨⟨kd, o, n, nm, cb, A2, c2, l2⟩, ts4, h2, rfl, H'⟩
    replace H := H.updn (c := rdr src pr ts3) (Hp.swap H') rfl (.inl rfl) (.inl rfl)
    clear H'
    rw [h2, Res.bind_ok] at hR
    repeat' ((conv => whnf); first | refine ztT ?_ | (refine ztB ?_ ?_ <;> intro _ <;> try (exfalso; omega)) | (refine ztA ?_; clear H; intro _ _ H _) | fail)
    exact ⟨.mk 0 t1.text (.mk kd o n nm cb A2 c2 l2) none 0 [] none 0 [], ts4, hR, sm_v rfl, Hp.stsE 0 t1.text (H.sel [0, 3] rfl)⟩
  rw [if_neg c7] at hR
  repeat' ((conv => whnf); first | refine ztT ?_ | (refine ztB ?_ ?_ <;> intro _ <;> try (exfalso; omega)) | (refine ztA ?_; clear H; intro _ _ H _) | fail)
  (((conv => whnf); refine Cl.mkX (take_c s_asg src pr (ts1) wb _ (H.base2 HB) X.lo X.tb X.len (H.atC 2 rfl) (by decide)) ?_ ?_; rotate_left; (rintro ch w9 ⟨e9, p9, q9, h9, rfl, H'⟩; exact ⟨e9, p9, q9, (by rw [hR, h9]; rfl), rfl, Hp.pan H H' (.inl rfl)⟩)); rintro _ w8 ⟨t2, ts3, h1, rfl, H'⟩; replace H := H.upd (c := rdr src pr (ts1)) H' rfl (.inl rfl); clear H'; rw [h1, Res.bind_ok] at hR; clear h1)
  repeat' ((conv => whnf); first | refine ztT ?_ | (refine ztB ?_ ?_ <;> intro _ <;> try (exfalso; omega)) | (refine ztA ?_; clear H; intro _ _ H _) | fail)
  (conv => whnf)
  refine Dr.chX T.ok mixed [0, 1, 2, 3] [4, 5, 6] (by kernel_rfl) rfl rfl (fun w' => Blk w' p5 66 (wordCs t0)) (PanX R pr w) (fun ch F' w' hds h => by (conv => whnf); rw [show F'.ds = [] from hds]; exact h) (fun w1 eT _ => ?_)
  replace H := H.ext eT
  repeat' ((conv => whnf); refine QLd1.own (fun _ hw => hw) ?_)
  (conv => whnf)
  refine ⟨H.blk 0 rfl, ?_⟩
  ((conv => whnf); refine Cl.mkX (C.expr 0 d ts3 _ (by omega) hd (H.base2 HB) (H.atC 2 rfl) (Res.bind_out (by rw [← hR]; exact hne))) ?_ ?_; rotate_left; (rintro ch w9 ⟨e9, p9, q9, h9, rfl, H'⟩; exact ⟨e9, p9, q9, (by rw [hR, h9]; rfl), rfl, Hp.pan H H' (.inl rfl)⟩))
  rintro _ w3 ⟨⟨kd, o, n, nm, cb, A2, c2, l2⟩, ts4, h2, rfl, H'⟩
  replace H := H.updn (c := rdr src pr ts3) (Hp.swap H') rfl (.inl rfl) (.inl rfl)
  clear H'
  rw [h2, Res.bind_ok] at hR
  (conv => whnf)
  refine ⟨H.blk 1 rfl, ?_⟩
  repeat' (first | refine ⟨H.blk 1 rfl, ?_⟩ | ((conv => whnf); first | refine ztT ?_ | (refine ztB ?_ ?_ <;> intro _ <;> try (exfalso; omega)) | (refine ztA ?_; clear H; intro _ _ H _) | fail))
  exact ⟨.mk 1 t0.text (.mk kd o n nm cb A2 c2 l2) none 0 [] none 0 [], ts4, hR, sm_v rfl, Hp.stsE 1 t0.text (H.sel [0, 2] rfl)⟩
end
end Go.Proofs.YtfnjodpehomgfaaGreatDoor
namespace Go.Proofs.YtfnjodpehomgfaaGreatDoor
open Go Go.Sh Go.Tx
attribute [local irreducible] Blk Ext RdS
theorem begins_or {k : Bs} (h : beginsB k = true) : k = k_let ∨ k = k_spawn ∨ k = k_sync ∨ k = k_if ∨ k = k_while ∨ k = k_do ∨ k = k_return ∨ k = k_break ∨ k = k_continue ∨ k = k_name := by
  simp only [beginsB, Bool.or_eq_true, beq_iff_eq] at h
  rcases h with ((((((((h | h) | h) | h) | h) | h) | h) | h) | h) | h <;> simp [h]
theorem QLd.own {W : World → Prop} {b o m : Nat} {t : TypeId} {vs : List Value} {k : List Value → Prop} (h : ∀ w', W w' → Blk w' b t vs) (hk : k ((vs.drop o).take m)) (hm : ((vs.drop o).take m).length = m := by rfl) : QLd W ⟨b, o, none⟩ m k := by
  refine ⟨_, fun w' hw' => ⟨hm, fun i v hv => ?_⟩, hk⟩
  rw [add_lit, (h w' hw').cell]
  have : i < m := by have := (List.getElem?_eq_some_iff.1 hv).1; omega
  rw [List.getElem?_take_of_lt this, List.getElem?_drop] at hv
  exact hv
section
variable {src : Bs} {pr : Nat} {wb : World} {F : PF} (X : Txt src pr wb) (C : Con src pr wb F)
include X C
set_option maxHeartbeats 8000000 in
theorem statement_c (d : Nat) (ts : List Tk) (w : World) (hd : d ≤ 41) (hwb : Ext wb w) (h : Rdr src pr ts w) (hne : stmtP F d ts ≠ .out) :
    Cl Tryz.prog 90 #[.pointer (some ⟨pr, 0, none⟩), .int .i64 (d : Int)] w (OkS src pr (stmtP F d ts) w) (PanX (stmtP F d ts) pr w) := by
  have HB := X.ok hwb
  have hwd : IntKind.i64.wrap ((d : Int) + 1) = ((d + 1 : Nat) : Int) := w64 rfl (by omega) (by omega)
  obtain ⟨R, hR⟩ : ∃ R, R = stmtP F d ts := ⟨_, rfl⟩
  rw [← hR] at hne ⊢
  unfold stmtP at hR
  refine calls_ex (args := [.pointer (some ⟨pr, 0, none⟩), .int .i64 (d : Int)]) T.ok Tryz.func90 rfl rfl rfl rfl ?_
  have H := Hp.start (S := (· = pr)) (rdr_ok h) (fun k hk => hk)
  clear h
  refine Sq.mk ?_
  ((conv => whnf); refine Al.hp H ?_; clear H; intro p4 _ H _)
  (obtain ⟨nx, t0, r0, rfl, hn0, hr0, hb0⟩ := H.atC (c := rdr src pr ts) 1 rfl; replace H := Hp.ofR H hb0; clear hb0)
  rw [curK_cons] at hR
  by_cases hbg : beginsB t0.kind = true
  case neg =>
    rw [if_neg hbg] at hR
    have hno : ∀ k, beginsB k = true → ¬ t0.kind = k := fun k hk e => hbg (by rw [e]; exact hk)
    have n1 := hno k_let (by decide)
    have n2 := hno k_spawn (by decide)
    have n3 := hno k_sync (by decide)
    have n4 := hno k_if (by decide)
    have n5 := hno k_while (by decide)
    have n6 := hno k_do (by decide)
    have n7 := hno k_return (by decide)
    have n8 := hno k_break (by decide)
    have n9 := hno k_continue (by decide)
    have n10 := hno k_name (by decide)
    repeat' ((conv => whnf); first | refine ztT ?_ | (refine ztB ?_ ?_ <;> intro _ <;> try (exfalso; omega)) | (refine ztA ?_; clear H; intro _ _ H _) | fail)
    (conv => whnf)
    refine Cl.mkX (fail_c pr 141 t0.at_ _) (fun _ _ h => h.elim) ?_
    rintro ch w5 ⟨q5, rfl, H'⟩
    exact ⟨141, t0.at_, q5, hR, rfl, (H.fr0 H' (.inl rfl)).sel [0] rfl⟩
  rw [if_pos hbg] at hR
  by_cases c1 : t0.kind = k_if
  · repeat' ((conv => whnf); first | refine ztT ?_ | (refine ztB ?_ ?_ <;> intro _ <;> try (exfalso; omega)) | (refine ztA ?_; clear H; intro _ _ H _) | fail)
    (replace H := Hp.toR H hn0 hr0)
    (((conv => whnf); refine Cl.mkX (deep_c _ src pr (t0 :: r0) (d) rfl _ (H.atC 1 rfl)) ?_ ?_; rotate_left; (rintro ch w9 ⟨e9, p9, q9, h9, rfl, H'⟩; exact ⟨e9, p9, q9, (by rw [hR, h9]; rfl), rfl, Hp.pan H H' (.inl rfl)⟩)); rintro _ w8 ⟨h1, ex⟩; replace H := H.ext ex; clear ex; have hd40 := deep_le h1; rw [h1, Res.bind_ok] at hR; clear h1)
    rw [if_pos (show curK (t0 :: r0) = k_if from c1)] at hR
    obtain ⟨nx1, t1, r1, h01, hn1, hr1, hb0⟩ := H.atC (c := rdr src pr (t0 :: r0)) 1 rfl
    obtain ⟨rfl, rfl⟩ := List.cons.inj h01
    replace H := Hp.ofR H hb0
    repeat' ((conv => whnf); first | refine ztT ?_ | (refine ztB ?_ ?_ <;> intro _ <;> try (exfalso; omega)) | (refine ztA ?_; clear H; intro _ _ H _) | fail)
    replace H := Hp.toR H hn1 hr1
    (conv => whnf)
    refine Cl.mkX (C.choice d _ _ hd40 (H.base2 HB) (H.atC 1 rfl) (by rw [← hR]; exact hne)) ?_ ?_
    · rintro _ w3 ⟨⟨kd, nm, ⟨k1, o1, n1, a1, b1, A1, c1, l1⟩, B, cb, b, E, ce, f⟩, ts', h1, rfl, H'⟩
      replace H := H.updn (c := rdr src pr (t0 :: r0)) (Hp.swap H') rfl (.inl rfl) (.inl rfl)
      clear H'
      repeat' ((conv => whnf); first | refine ztT ?_ | (refine ztB ?_ ?_ <;> intro _ <;> try (exfalso; omega)) | (refine ztA ?_; clear H; intro _ _ H _) | fail)
      exact ⟨.mk kd nm (.mk k1 o1 n1 a1 b1 A1 c1 l1) B cb b E ce f, ts', by rw [hR, h1], sm_v rfl, H.sel [0, 1] rfl⟩
    · rintro ch w2 ⟨e, p, q, h1, rfl, H'⟩
      exact ⟨e, p, q, by rw [hR, h1], rfl, Hp.pan H H' (.inl rfl)⟩
  by_cases c2 : t0.kind = k_while
  · repeat' ((conv => whnf); first | refine ztT ?_ | (refine ztB ?_ ?_ <;> intro _ <;> try (exfalso; omega)) | (refine ztA ?_; clear H; intro _ _ H _) | fail)
    (replace H := Hp.toR H hn0 hr0)
    (((conv => whnf); refine Cl.mkX (deep_c _ src pr (t0 :: r0) (d) rfl _ (H.atC 1 rfl)) ?_ ?_; rotate_left; (rintro ch w9 ⟨e9, p9, q9, h9, rfl, H'⟩; exact ⟨e9, p9, q9, (by rw [hR, h9]; rfl), rfl, Hp.pan H H' (.inl rfl)⟩)); rintro _ w8 ⟨h1, ex⟩; replace H := H.ext ex; clear ex; have hd40 := deep_le h1; rw [h1, Res.bind_ok] at hR; clear h1)
    rw [if_neg (show ¬ curK (t0 :: r0) = k_if from c1), if_pos (show curK (t0 :: r0) = k_while from c2)] at hR
    obtain ⟨nx1, t1, r1, h01, hn1, hr1, hb0⟩ := H.atC (c := rdr src pr (t0 :: r0)) 1 rfl
    obtain ⟨rfl, rfl⟩ := List.cons.inj h01
    replace H := Hp.ofR H hb0
    repeat' ((conv => whnf); first | refine ztT ?_ | (refine ztB ?_ ?_ <;> intro _ <;> try (exfalso; omega)) | (refine ztA ?_; clear H; intro _ _ H _) | fail)
    replace H := Hp.toR H hn1 hr1
    (((conv => whnf); refine Cl.mkX (step_c _ src pr (t0 :: r0) wb _ (H.base2 HB) X.lo X.tb X.len (H.atC 1 rfl) (begins_ne hbg)) ?_ ?_; rotate_left; (rintro ch w9 ⟨e9, p9, q9, h9, rfl, H'⟩; exact ⟨e9, p9, q9, (by rw [hR, h9]; rfl), rfl, Hp.pan H H' (.inl rfl)⟩)); rintro _ w8 ⟨ts1, h1, H'⟩; replace H := H.upd (c := rdr src pr (t0 :: r0)) H' rfl (.inl rfl); clear H'; rw [h1, Res.bind_ok] at hR; clear h1)
    repeat' ((conv => whnf); first | refine ztT ?_ | (refine ztB ?_ ?_ <;> intro _ <;> try (exfalso; omega)) | (refine ztA ?_; clear H; intro _ _ H _) | fail)
    ((conv => whnf); refine Cl.mkX (C.expr 0 d ts1 _ (by omega) hd (H.base2 HB) (H.atC 1 rfl) (Res.bind_out (by rw [← hR]; exact hne))) ?_ ?_; rotate_left; (rintro ch w9 ⟨e9, p9, q9, h9, rfl, H'⟩; exact ⟨e9, p9, q9, (by rw [hR, h9]; rfl), rfl, Hp.pan H H' (.inl rfl)⟩))
    rintro _ w3 ⟨⟨kd, o, n, nm, cb, A2, c2, l2⟩, ts2, h2, rfl, H'⟩
    replace H := H.updn (c := rdr src pr ts1) (Hp.swap H') rfl (.inl rfl) (.inl rfl)
    clear H'
    rw [h2, Res.bind_ok] at hR
    repeat' ((conv => whnf); first | refine ztT ?_ | (refine ztB ?_ ?_ <;> intro _ <;> try (exfalso; omega)) | (refine ztW ?_; clear H; intro _ _ H _) | fail)
    ((conv => whnf); refine Al.hp H ?_; clear H; intro p5 _ H _)
    repeat' ((conv => whnf); first | refine ztT ?_ | (refine ztB ?_ ?_ <;> intro _ <;> try (exfalso; omega)) | (refine ztA ?_; clear H; intro _ _ H _) | fail)
    have hblk := fun ts w => C.block (d + 1) ts w (by omega)
    rw [← hwd] at hblk
    (conv => whnf)
    refine Dr.chX T.ok mixed [0, 1, 2, 3] [4, 5, 6] (by kernel_rfl) rfl rfl (fun w' => Blk w' p5 74 (ET.enc (.mk kd o n nm cb A2 c2 l2))) (PanX R pr w) (fun ch F' w' hds h => by (conv => whnf); rw [show F'.ds = [] from hds]; exact h) (fun w1 eT _ => ?_)
    replace H := H.ext eT
    repeat' ((conv => whnf); first | refine QLd1.own (fun _ hw => hw) ?_ | refine QLd.own (fun _ hw => hw) ?_)
    (conv => whnf)
    refine ⟨H.blk 0 rfl, ?_⟩
    ((conv => whnf); refine Cl.mkX (hblk ts2 _ (H.base2 HB) (H.atC 3 rfl) (Res.bind_out (by rw [← hR]; exact hne))) ?_ ?_; rotate_left; (rintro ch w9 ⟨e9, p9, q9, h9, rfl, H'⟩; exact ⟨e9, p9, q9, (by rw [hR, h9]; rfl), rfl, Hp.pan H H' (.inl rfl)⟩))
    rintro _ w4 ⟨B, cB, b, ts3, h3, rfl, H'⟩
    replace H := H.updn (c := rdr src pr ts2) (Hp.swap H') rfl (.inl rfl) (.inl rfl)
    clear H'
    rw [h3, Res.bind_ok] at hR
    (conv => whnf)
    refine ⟨H.blk 1 rfl, ?_⟩
    repeat' (first | refine ⟨H.blk 1 rfl, ?_⟩ | ((conv => whnf); first | refine ztT ?_ | (refine ztB ?_ ?_ <;> intro _ <;> try (exfalso; omega)) | (refine ztA ?_; clear H; intro _ _ H _) | fail))
    refine ⟨.mk 5 [] (.mk kd o n nm cb A2 c2 l2) B cB b none 0 [], ts3, hR, sm_v rfl, Hp.stsN 5 [] ?_⟩
    replace H := Hp.stl0 H
    exact H.sel [3, 1, 0, 2] rfl
  have hp : t0.kind = k_let ∨ t0.kind = k_spawn ∨ t0.kind = k_sync ∨ t0.kind = k_do ∨ t0.kind = k_return ∨ t0.kind = k_break ∨ t0.kind = k_continue ∨ t0.kind = k_name := by
    rcases begins_or hbg with h | h | h | h | h | h | h | h | h | h <;> first | exact absurd h c1 | exact absurd h c2 | simp [h]
  rcases hp with c3 | c3 | c3 | c3 | c3 | c3 | c3 | c3
  all_goals
    repeat' ((conv => whnf); first | refine ztT ?_ | (refine ztB ?_ ?_ <;> intro _ <;> try (exfalso; omega)) | (refine ztA ?_; clear H; intro _ _ H _) | fail)
    (replace H := Hp.toR H hn0 hr0)
    (((conv => whnf); refine Cl.mkX (deep_c _ src pr (t0 :: r0) (d) rfl _ (H.atC 1 rfl)) ?_ ?_; rotate_left; (rintro ch w9 ⟨e9, p9, q9, h9, rfl, H'⟩; exact ⟨e9, p9, q9, (by rw [hR, h9]; rfl), rfl, Hp.pan H H' (.inl rfl)⟩)); rintro _ w8 ⟨h1, ex⟩; replace H := H.ext ex; clear ex; have hd40 := deep_le h1; rw [h1, Res.bind_ok] at hR; clear h1)
    rw [if_neg (show ¬ curK (t0 :: r0) = k_if from c1), if_neg (show ¬ curK (t0 :: r0) = k_while from c2)] at hR
    obtain ⟨nx1, t1, r1, h01, hn1, hr1, hb0⟩ := H.atC (c := rdr src pr (t0 :: r0)) 1 rfl
    obtain ⟨rfl, rfl⟩ := List.cons.inj h01
    replace H := Hp.ofR H hb0
    repeat' ((conv => whnf); first | refine ztT ?_ | (refine ztB ?_ ?_ <;> intro _ <;> try (exfalso; omega)) | (refine ztA ?_; clear H; intro _ _ H _) | fail)
    replace H := Hp.toR H hn1 hr1
    ((conv => whnf); refine Cl.mkX (plain_c X C d (t0 :: r0) _ hd (H.base2 HB) (H.atC 1 rfl) hbg (Res.bind_out (by rw [← hR]; exact hne))) ?_ ?_; rotate_left; (rintro ch w9 ⟨e9, p9, q9, h9, rfl, H'⟩; exact ⟨e9, p9, q9, (by rw [hR, h9]; rfl), rfl, Hp.pan H H' (.inl rfl)⟩))
    rintro _ w3 ⟨⟨kd, nm, ⟨k1, o1, n1, a1, b1, A1, c1, l1⟩, B, cb, b, E, ce, f⟩, ts1, h1, rfl, H'⟩
    replace H := H.updn (c := rdr src pr (t0 :: r0)) (Hp.swap H') rfl (.inl rfl) (.inl rfl)
    clear H'
    rw [h1, Res.bind_ok] at hR
    repeat' ((conv => whnf); first | refine ztT ?_ | (refine ztB ?_ ?_ <;> intro _ <;> try (exfalso; omega)) | (refine ztW ?_; clear H; intro _ _ H _) | fail)
    ((conv => whnf); refine Al.hp H ?_; clear H; intro p6 _ H _)
    repeat' ((conv => whnf); first | refine ztT ?_ | (refine ztB ?_ ?_ <;> intro _ <;> try (exfalso; omega)) | (refine ztA ?_; clear H; intro _ _ H _) | fail)
    (((conv => whnf); refine Cl.mkX (take_c s_semi src pr (ts1) wb _ (H.base2 HB) X.lo X.tb X.len (H.atC 3 rfl) (by decide)) ?_ ?_; rotate_left; (rintro ch w9 ⟨e9, p9, q9, h9, rfl, H'⟩; exact ⟨e9, p9, q9, (by rw [hR, h9]; rfl), rfl, Hp.pan H H' (.inl rfl)⟩)); rintro _ w8 ⟨t9, ts9, h1, rfl, H'⟩; replace H := H.upd (c := rdr src pr (ts1)) H' rfl (.inl rfl); clear H'; rw [h1, Res.bind_ok] at hR; clear h1)
    repeat' ((conv => whnf); first | refine ztT ?_ | (refine ztB ?_ ?_ <;> intro _ <;> try (exfalso; omega)) | (refine ztA ?_; clear H; intro _ _ H _) | fail)
    exact ⟨.mk kd nm (.mk k1 o1 n1 a1 b1 A1 c1 l1) B cb b E ce f, ts9, hR, sm_v rfl, H.sel [1, 2] rfl⟩
end
end Go.Proofs.YtfnjodpehomgfaaGreatDoor
namespace Go.Proofs.YtfnjodpehomgfaaGreatDoor
open Go Go.Sh Go.Tx
attribute [local irreducible] Blk Ext RdS
section
variable {src : Bs} {pr : Nat} {wb : World} {F : PF} (X : Txt src pr wb) (C : Con src pr wb F)
include X C
set_option maxHeartbeats 4000000 in
theorem block_c (d : Nat) (ts : List Tk) (w : World) (hd : d ≤ 41) (hwb : Ext wb w) (h : Rdr src pr ts w) (hne : blockP F d ts ≠ .out) :
    Cl Tryz.prog 62 #[.pointer (some ⟨pr, 0, none⟩), .int .i64 (d : Int)] w (OkB src pr (blockP F d ts) w) (PanX (blockP F d ts) pr w) := by
  have HB := X.ok hwb
  have hsl := X.len
  obtain ⟨R, hR⟩ : ∃ R, R = blockP F d ts := ⟨_, rfl⟩
  rw [← hR] at hne ⊢
  unfold blockP at hR
  refine calls_ex (args := [.pointer (some ⟨pr, 0, none⟩), .int .i64 (d : Int)]) T.ok Tryz.func62 rfl rfl rfl rfl ?_
  have H := Hp.start (S := (· = pr)) (rdr_ok h) (fun k hk => hk)
  clear h
  repeat' ((conv => whnf); first | refine ztT ?_ | (refine ztB ?_ ?_ <;> intro _ <;> try (exfalso; omega)) | (refine ztA ?_; clear H; intro _ _ H _) | fail)
  (((conv => whnf); refine Cl.mkX (take_c s_lb src pr (ts) wb _ (H.base2 HB) X.lo X.tb X.len (H.atC 0 rfl) (by decide)) ?_ ?_; rotate_left; (rintro ch w9 ⟨e9, p9, q9, h9, rfl, H'⟩; exact ⟨e9, p9, q9, (by rw [hR, h9]; rfl), rfl, Hp.pan H H' (.inl rfl)⟩)); rintro _ w8 ⟨t1, ts1, h1, rfl, H'⟩; replace H := H.upd (c := rdr src pr (ts)) H' rfl (.inl rfl); clear H'; rw [h1, Res.bind_ok] at hR; clear h1)
  have hN : ts1.length ≤ src.length + 2 := (H.atC (c := rdr src pr ts1) 0 rfl).len
  generalize hN0 : ts1.length + 1 = N at hR
  have hNb : N ≤ 1000010 := by omega
  replace H := Hp.nil (Hp.sts0 H) SM.enc 10 76
  repeat' ((conv => whnf); first | refine ztT ?_ | (refine ztB ?_ ?_ <;> intro _ <;> try (exfalso; omega)) | (refine ztA ?_; clear H; intro _ _ H _) | fail)
  refine Lp.g0 T.ok (σ := Nat × Option Addr × Nat × List SM × List Tk) (fun q => [(5, .slice q.2.1 q.2.2.2.1.length q.2.2.1), (4, .slice none 0 0), (0, .pointer (some ⟨pr, 0, none⟩)), (1, .int .i64 (d : Int))])
    (fun q w' => R = (loopB F d q.1 (SM.es q.2.2.2.1) q.2.2.2.2).bind (fun l ts2 => (takeP s_rb ts2).bind fun _ ts3 => .ok l ts3) ∧ q.1 + q.2.2.2.1.length ≤ N ∧ Hp (· = pr) w w' [qu SM.enc 10 76 q.2.1 q.2.2.1 q.2.2.2.1, sts q.2.2.2.1, rdr src pr q.2.2.2.2]) (fun q _ => q.1) (N, none, 0, [], ts1) rfl ⟨rfl, rfl, rfl, rfl, trivial⟩ ⟨hR, Nat.le_refl _, H⟩ ?_
  clear H hR hN0 hN
  rintro ⟨f, A, c, l, ts⟩ w5 ⟨hR, hN, H⟩
  simp only at hR hN H ⊢
  cases f with
  | zero => exact absurd hR hne
  | succ f =>
  simp only [loopB] at hR
  (obtain ⟨nx, t0, r0, rfl, hnx, hr0, hb0⟩ := H.atC (c := rdr src pr ts) 2 rfl; replace H := Hp.ofR H hb0; clear hb0)
  by_cases hk : t0.kind = s_rb
  · rw [if_pos (show curK (t0 :: r0) = s_rb from hk), Res.bind_ok] at hR
    repeat' ((conv => whnf); first | refine ztT ?_ | (refine ztB ?_ ?_ <;> intro _ <;> try (exfalso; omega)) | (refine ztA ?_; clear H; intro _ _ H _) | fail)
    (replace H := Hp.toR H hnx hr0; clear hnx hr0)
    (((conv => whnf); refine Cl.mkX (take_c s_rb src pr (t0 :: r0) wb _ (H.base2 HB) X.lo X.tb X.len (H.atC 2 rfl) (by decide)) ?_ ?_; rotate_left; (rintro ch w9 ⟨e9, p9, q9, h9, rfl, H'⟩; exact ⟨e9, p9, q9, (by rw [hR, h9]; rfl), rfl, Hp.pan H H' (.inl rfl)⟩)); rintro _ w8 ⟨t1, ts1, h1, rfl, H'⟩; replace H := H.upd (c := rdr src pr (t0 :: r0)) H' rfl (.inl rfl); clear H'; rw [h1, Res.bind_ok] at hR; clear h1)
    repeat' ((conv => whnf); first | refine ztT ?_ | (refine ztB ?_ ?_ <;> intro _ <;> try (exfalso; omega)) | (refine ztA ?_; clear H; intro _ _ H _) | fail)
    exact ⟨A, c, l, ts1, hR, rfl, Hp.stlN H⟩
  rw [if_neg (show ¬ curK (t0 :: r0) = s_rb from hk), Res.bind_assoc] at hR
  repeat' ((conv => whnf); first | refine ztT ?_ | (refine ztB ?_ ?_ <;> intro _ <;> try (exfalso; omega)) | (refine ztA ?_; clear H; intro _ _ H _) | fail)
  (replace H := Hp.toR H hnx hr0; clear hnx hr0)
  ((conv => whnf); refine Cl.mkX (statement_c X C d (t0 :: r0) _ hd (H.base2 HB) (H.atC 2 rfl) (Res.bind_out (by rw [← hR]; exact hne))) ?_ ?_; rotate_left; (rintro ch w9 ⟨e9, p9, q9, h9, rfl, H'⟩; exact ⟨e9, p9, q9, (by rw [hR, h9]; rfl), rfl, Hp.pan H H' (.inl rfl)⟩))
  rintro _ w3 ⟨⟨kd, nm, ⟨k1, o1, n1, a1, b1, A1, c1, l1⟩, B, cb, b, E, ce, el⟩, ts2, h2, rfl, H'⟩
  replace H := H.updn (c := rdr src pr (t0 :: r0)) (Hp.swap H') rfl (.inl rfl) (.inl rfl)
  clear H'
  rw [h2, Res.bind_ok] at hR
  refine Sm.lith (cs := SM.enc (.mk kd nm (.mk k1 o1 n1 a1 b1 A1 c1 l1) B cb b E ce el)) H T.ok (fun p5 w4 H _ => ?_)
  refine Sm.ap1 (enc := SM.enc) (.mk kd nm (.mk k1 o1 n1 a1 b1 A1 c1 l1) B cb b E ce el) H T.ok ?_ ?_ (fun A' c' w6 H => ?_)
  · show (l.length + 1) * 152 ≤ _; omega
  · omega
  simp only [List.cons_append, List.nil_append] at H
  repeat' ((conv => whnf); first | refine ztT ?_ | (refine ztB ?_ ?_ <;> intro _ <;> try (exfalso; omega)) | (refine ztA ?_; clear H; intro _ _ H _) | fail)
  refine ⟨(f, A', c', l ++ [.mk kd nm (.mk k1 o1 n1 a1 b1 A1 c1 l1) B cb b E ce el], ts2), ⟨at_val rfl (by simp), rfl, rfl, rfl, trivial⟩, rfl, ⟨?_, ?_, ?_⟩, Nat.lt_succ_self f⟩
  · rw [hR, SM.es_app]; rfl
  · simp only [List.length_append, List.length_cons, List.length_nil]; omega
  · exact Hp.swap (Hp.stsS (H.sel [0, 1, 0, 0] rfl))
set_option maxHeartbeats 4000000 in
theorem choice_c (d : Nat) (ts : List Tk) (w : World) (hd : d ≤ 40) (hwb : Ext wb w) (h : Rdr src pr ts w) (hne : choiceP F d ts ≠ .out) :
    Cl Tryz.prog 110 #[.pointer (some ⟨pr, 0, none⟩), .int .i64 (d : Int)] w (OkS src pr (choiceP F d ts) w) (PanX (choiceP F d ts) pr w) := by
  have HB := X.ok hwb
  have hwd : IntKind.i64.wrap ((d : Int) + 1) = ((d + 1 : Nat) : Int) := w64 rfl (by omega) (by omega)
  have hblk := fun ts w => C.block (d + 1) ts w (by omega)
  rw [← hwd] at hblk
  have hcho := fun ts w => C.choice (d + 1) ts w
  rw [← hwd] at hcho
  obtain ⟨R, hR⟩ : ∃ R, R = choiceP F d ts := ⟨_, rfl⟩
  rw [← hR] at hne ⊢
  unfold choiceP at hR
  refine calls_ex (args := [.pointer (some ⟨pr, 0, none⟩), .int .i64 (d : Int)]) T.ok Tryz.func110 rfl rfl rfl rfl ?_
  have H := Hp.start (S := (· = pr)) (rdr_ok h) (fun k hk => hk)
  clear h
  refine Sq.mk ?_
  ((conv => whnf); refine Al.hp H ?_; clear H; intro p4 _ H _)
  repeat' ((conv => whnf); first | refine ztT ?_ | (refine ztB ?_ ?_ <;> intro _ <;> try (exfalso; omega)) | (refine ztA ?_; clear H; intro _ _ H _) | fail)
  (((conv => whnf); refine Cl.mkX (take_c k_if src pr (ts) wb _ (H.base2 HB) X.lo X.tb X.len (H.atC 1 rfl) (by decide)) ?_ ?_; rotate_left; (rintro ch w9 ⟨e9, p9, q9, h9, rfl, H'⟩; exact ⟨e9, p9, q9, (by rw [hR, h9]; rfl), rfl, Hp.pan H H' (.inl rfl)⟩)); rintro _ w8 ⟨t1, ts1, h1, rfl, H'⟩; replace H := H.upd (c := rdr src pr (ts)) H' rfl (.inl rfl); clear H'; rw [h1, Res.bind_ok] at hR; clear h1)
  repeat' ((conv => whnf); first | refine ztT ?_ | (refine ztB ?_ ?_ <;> intro _ <;> try (exfalso; omega)) | (refine ztA ?_; clear H; intro _ _ H _) | fail)
  ((conv => whnf); refine Cl.mkX (C.expr 0 d ts1 _ (by omega) (by omega) (H.base2 HB) (H.atC 1 rfl) (Res.bind_out (by rw [← hR]; exact hne))) ?_ ?_; rotate_left; (rintro ch w9 ⟨e9, p9, q9, h9, rfl, H'⟩; exact ⟨e9, p9, q9, (by rw [hR, h9]; rfl), rfl, Hp.pan H H' (.inl rfl)⟩))
  rintro _ w3 ⟨⟨kd, o, n, nm, cb, A2, c2, l2⟩, ts2, h2, rfl, H'⟩
  replace H := H.updn (c := rdr src pr ts1) (Hp.swap H') rfl (.inl rfl) (.inl rfl)
  clear H'
  rw [h2, Res.bind_ok] at hR
  repeat' ((conv => whnf); first | refine ztT ?_ | (refine ztB ?_ ?_ <;> intro _ <;> try (exfalso; omega)) | (refine ztW ?_; clear H; intro _ _ H _) | fail)
  ((conv => whnf); refine Al.hp H ?_; clear H; intro p5 _ H _)
  repeat' ((conv => whnf); first | refine ztT ?_ | (refine ztB ?_ ?_ <;> intro _ <;> try (exfalso; omega)) | (refine ztA ?_; clear H; intro _ _ H _) | fail)
  ((conv => whnf); refine Cl.mkX (hblk ts2 _ (H.base2 HB) (H.atC 3 rfl) (Res.bind_out (by rw [← hR]; exact hne))) ?_ ?_; rotate_left; (rintro ch w9 ⟨e9, p9, q9, h9, rfl, H'⟩; exact ⟨e9, p9, q9, (by rw [hR, h9]; rfl), rfl, Hp.pan H H' (.inl rfl)⟩))
  rintro _ w4 ⟨B, cB, b, ts3, h3, rfl, H'⟩
  replace H := H.updn (c := rdr src pr ts2) (Hp.swap H') rfl (.inl rfl) (.inl rfl)
  clear H'
  rw [h3, Res.bind_ok] at hR
  repeat' ((conv => whnf); first | refine ztT ?_ | (refine ztB ?_ ?_ <;> intro _ <;> try (exfalso; omega)) | (refine ztW ?_; clear H; intro _ _ H _) | fail)
  (obtain ⟨nx3, t3, r3, rfl, hn3, hr3, hb0⟩ := H.atC (c := rdr src pr ts3) 4 rfl; replace H := Hp.ofR H hb0; clear hb0)
  by_cases hel : t3.kind = k_else
  case neg =>
    rw [if_pos (show curK (t3 :: r3) ≠ k_else from hel)] at hR
    repeat' ((conv => whnf); first | refine ztT ?_ | (refine ztB ?_ ?_ <;> intro _ <;> try (exfalso; omega)) | (refine ztA ?_; clear H; intro _ _ H _) | fail)
    (replace H := Hp.toR H hn3 hr3)
    replace H := Hp.stl0 H
    refine ⟨.mk 4 [] (.mk kd o n nm cb A2 c2 l2) B cB b none 0 [], t3 :: r3, hR, sm_v rfl, Hp.stsN 4 [] ?_⟩
    exact H.sel [3, 1, 0, 2] rfl
  rw [if_neg (show ¬ curK (t3 :: r3) ≠ k_else from fun e => e hel)] at hR
  repeat' ((conv => whnf); first | refine ztT ?_ | (refine ztB ?_ ?_ <;> intro _ <;> try (exfalso; omega)) | (refine ztA ?_; clear H; intro _ _ H _) | fail)
  (replace H := Hp.toR H hn3 hr3)
  (((conv => whnf); refine Cl.mkX (step_c _ src pr (t3 :: r3) wb _ (H.base2 HB) X.lo X.tb X.len (H.atC 4 rfl) (by rw [curK_cons, hel]; decide)) ?_ ?_; rotate_left; (rintro ch w9 ⟨e9, p9, q9, h9, rfl, H'⟩; exact ⟨e9, p9, q9, (by rw [hR, h9]; rfl), rfl, Hp.pan H H' (.inl rfl)⟩)); rintro _ w8 ⟨ts4, h1, H'⟩; replace H := H.upd (c := rdr src pr (t3 :: r3)) H' rfl (.inl rfl); clear H'; rw [h1, Res.bind_ok] at hR; clear h1)
  (obtain ⟨nx4, t4, r4, rfl, hn4, hr4, hb0⟩ := H.atC (c := rdr src pr ts4) 4 rfl; replace H := Hp.ofR H hb0; clear hb0)
  by_cases hi : t4.kind = k_if
  · rw [if_pos (show curK (t4 :: r4) = k_if from hi)] at hR
    repeat' ((conv => whnf); first | refine ztT ?_ | (refine ztB ?_ ?_ <;> intro _ <;> try (exfalso; omega)) | (refine ztA ?_; clear H; intro _ _ H _) | fail)
    (replace H := Hp.toR H hn4 hr4)
    (((conv => whnf); refine Cl.mkX (deep_c _ src pr (t4 :: r4) (d + 1) hwd _ (H.atC 4 rfl)) ?_ ?_; rotate_left; (rintro ch w9 ⟨e9, p9, q9, h9, rfl, H'⟩; exact ⟨e9, p9, q9, (by rw [hR, h9]; rfl), rfl, Hp.pan H H' (.inl rfl)⟩)); rintro _ w8 ⟨h1, ex⟩; replace H := H.ext ex; clear ex; have hd40 := deep_le h1; rw [h1, Res.bind_ok] at hR; clear h1)
    repeat' ((conv => whnf); first | refine ztT ?_ | (refine ztB ?_ ?_ <;> intro _ <;> try (exfalso; omega)) | (refine ztA ?_; clear H; intro _ _ H _) | fail)
    replace H := Hp.nil (Hp.sts0 H) SM.enc 10 76
    (conv => whnf)
    refine Dr.chX T.ok mixed [0, 1, 2, 3, 4, 8] [5, 6, 7, 9] (by kernel_rfl) rfl rfl (fun w' => Blk w' p5 76 (SM.enc (.mk 4 [] (.mk kd o n nm cb A2 c2 l2) B cB b none 0 []))) (PanX R pr w) (fun ch F' w' hds h => by (conv => whnf); rw [show F'.ds = [] from hds]; exact h) (fun w1 eT _ => ?_)
    replace H := H.ext eT
    repeat' ((conv => whnf); first | refine QLd1.own (fun _ hw => hw) ?_ | refine QLd.own (fun _ hw => hw) ?_)
    (conv => whnf)
    refine ⟨H.blk 3 rfl, ?_⟩
    ((conv => whnf); refine Cl.mkX (hcho (t4 :: r4) _ (by omega) (H.base2 HB) (H.atC 6 rfl) (Res.bind_out (by rw [← hR]; exact hne))) ?_ ?_; rotate_left; (rintro ch w9 ⟨e9, p9, q9, h9, rfl, H'⟩; exact ⟨e9, p9, q9, (by rw [hR, h9]; rfl), rfl, Hp.pan H H' (.inl rfl)⟩))
    rintro _ w5 ⟨⟨kd2, nm2, ⟨k1, o1, n1, a1, b1, A1, c1, l1⟩, B2, cb2, b2, E2, ce2, el2⟩, ts5, h5, rfl, H'⟩
    replace H := H.updn (c := rdr src pr (t4 :: r4)) (Hp.swap H') rfl (.inl rfl) (.inl rfl)
    clear H'
    rw [h5, Res.bind_ok] at hR
    (conv => whnf)
    refine ⟨H.blk 4 rfl, ?_⟩
    refine Sm.lith (cs := SM.enc (.mk kd2 nm2 (.mk k1 o1 n1 a1 b1 A1 c1 l1) B2 cb2 b2 E2 ce2 el2)) H T.ok (fun p6 w6 H _ => ?_)
    (conv => whnf)
    refine ⟨H.blk 5 rfl, ?_⟩
    refine Sm.ap1 (enc := SM.enc) (.mk kd2 nm2 (.mk k1 o1 n1 a1 b1 A1 c1 l1) B2 cb2 b2 E2 ce2 el2) H T.ok ?_ ?_ (fun A' c' w7 H => ?_)
    · show (0 + 1) * 152 ≤ _; omega
    · show 0 + 1 ≤ _; omega
    simp only [List.cons_append, List.nil_append] at H
    (conv => whnf)
    refine ⟨H.blk 4 rfl, ?_⟩
    repeat' ((conv => whnf); first | refine ztT ?_ | (refine ztB ?_ ?_ <;> intro _ <;> try (exfalso; omega)) | (refine ztA ?_; clear H; intro _ _ H _) | fail)
    refine ⟨.mk 4 [] (.mk kd o n nm cb A2 c2 l2) B cB b A' c' [.mk kd2 nm2 (.mk k1 o1 n1 a1 b1 A1 c1 l1) B2 cb2 b2 E2 ce2 el2], ts5, hR, sm_v rfl, Hp.stsN 4 [] ?_⟩
    exact (Hp.stlN (Hp.swap (Hp.stsS (l := []) (H.sel [0, 1, 0, 0, 1, 2] rfl)))).sel [2, 1, 0, 0] rfl
  rw [if_neg (show ¬ curK (t4 :: r4) = k_if from hi)] at hR
  repeat' ((conv => whnf); first | refine ztT ?_ | (refine ztB ?_ ?_ <;> intro _ <;> try (exfalso; omega)) | (refine ztA ?_; clear H; intro _ _ H _) | fail)
  (replace H := Hp.toR H hn4 hr4)
  ((conv => whnf); refine Cl.mkX (hblk (t4 :: r4) _ (H.base2 HB) (H.atC 4 rfl) (Res.bind_out (by rw [← hR]; exact hne))) ?_ ?_; rotate_left; (rintro ch w9 ⟨e9, p9, q9, h9, rfl, H'⟩; exact ⟨e9, p9, q9, (by rw [hR, h9]; rfl), rfl, Hp.pan H H' (.inl rfl)⟩))
  rintro _ w5 ⟨E, cE, el, ts5, h5, rfl, H'⟩
  replace H := H.updn (c := rdr src pr (t4 :: r4)) (Hp.swap H') rfl (.inl rfl) (.inl rfl)
  clear H'
  rw [h5, Res.bind_ok] at hR
  repeat' ((conv => whnf); first | refine ztT ?_ | (refine ztB ?_ ?_ <;> intro _ <;> try (exfalso; omega)) | (refine ztA ?_; clear H; intro _ _ H _) | fail)
  refine ⟨.mk 4 [] (.mk kd o n nm cb A2 c2 l2) B cB b E cE el, ts5, hR, sm_v rfl, Hp.stsN 4 [] ?_⟩
  exact H.sel [3, 1, 0, 2] rfl
end
end Go.Proofs.YtfnjodpehomgfaaGreatDoor
namespace Go.Proofs.YtfnjodpehomgfaaGreatDoor
open Go Go.Sh Go.Tx
attribute [local irreducible] Blk Ext RdS
structure FM where
  name : Bs
  P : Option Addr
  cp : Nat
  params : List Bs
  B : Option Addr
  cb : Nat
  body : List SM
def FM.e (f : FM) : Fnc := ⟨f.name, f.params, SM.es f.body⟩
def FM.enc (f : FM) : List Value := [.string (bs f.name), .slice f.P f.params.length f.cp, .slice f.B f.body.length f.cb]
def FM.v (f : FM) : Value := .agg f.enc.toArray
def FM.fp (f : FM) (k : Nat) : Prop := obk f.P = some k ∨ obk f.B = some k ∨ SM.fps f.body k
def FM.Ok (w : World) (f : FM) : Prop := Que strE 1 9 w 0 f.P f.cp f.params ∧ Que SM.enc 10 76 w 0 f.B f.cb f.body ∧ SM.Oks w f.body ∧ f.params.length ≤ 2000000 ∧ f.body.length ≤ 2000000
def FM.Sep (f : FM) : Prop := SM.Seps f.body ∧ (∀ k, ¬ (obk f.P = some k ∧ (obk f.B = some k ∨ SM.fps f.body k))) ∧ ∀ k, ¬ (obk f.B = some k ∧ SM.fps f.body k)
def FM.fps : List FM → Nat → Prop
  | [], _ => False
  | x :: r, k => FM.fp x k ∨ FM.fps r k
def FM.Oks (w : World) : List FM → Prop
  | [] => True
  | x :: r => FM.Ok w x ∧ FM.Oks w r
def FM.Seps : List FM → Prop
  | [] => True
  | x :: r => FM.Sep x ∧ FM.Seps r ∧ ∀ b, ¬ (FM.fp x b ∧ FM.fps r b)
theorem FM.fps_app (b : Nat) : ∀ l m : List FM, FM.fps (l ++ m) b ↔ FM.fps l b ∨ FM.fps m b
  | [], m => by simp [FM.fps]
  | x :: r, m => by simp [FM.fps, FM.fps_app b r m, or_assoc]
theorem FM.oks_app (w : World) : ∀ l m : List FM, FM.Oks w (l ++ m) ↔ FM.Oks w l ∧ FM.Oks w m
  | [], m => by simp [FM.Oks]
  | x :: r, m => by simp [FM.Oks, FM.oks_app w r m, and_assoc]
theorem FM.seps_app : ∀ l m : List FM, FM.Seps l → FM.Seps m → (∀ b, ¬ (FM.fps l b ∧ FM.fps m b)) → FM.Seps (l ++ m)
  | [], m, _, h, _ => h
  | x :: r, m, hl, hm, hd => by
    obtain ⟨h1, h2, h3⟩ := hl
    refine ⟨h1, FM.seps_app r m h2 hm fun b hb => hd b ⟨.inr hb.1, hb.2⟩, fun b hb => ?_⟩
    rcases (FM.fps_app b r m).1 hb.2 with h | h
    · exact h3 b ⟨hb.1, h⟩
    · exact hd b ⟨.inl hb.1, h⟩
theorem FM.Ok.lt {w : World} {f : FM} (h : FM.Ok w f) (k : Nat) (hk : FM.fp f k) : k < w.heap.size := by
  rcases hk with hk | hk | hk
  · exact (qu_ok h.1).lt k hk
  · exact (qu_ok h.2.1).lt k hk
  · exact SM.Oks.lt h.2.2.1 k hk
theorem FM.Oks.lt {w : World} : ∀ {l : List FM}, FM.Oks w l → ∀ b, FM.fps l b → b < w.heap.size
  | [], _, b, hb => hb.elim
  | x :: r, h, b, hb => by
    rcases hb with hb | hb
    · exact FM.Ok.lt h.1 b hb
    · exact FM.Oks.lt h.2 b hb
theorem FM.Ok.loc {w w' : World} (hs : w.heap.size ≤ w'.heap.size) {f : FM} (h : FM.Ok w f) (hb : ∀ b, FM.fp f b → w'.heap[b]? = w.heap[b]?) : FM.Ok w' f :=
  ⟨(qu_ok h.1).loc w' hs fun k hk => hb k (.inl hk), (qu_ok h.2.1).loc w' hs fun k hk => hb k (.inr (.inl hk)), SM.Oks.loc hs h.2.2.1 fun k hk => hb k (.inr (.inr hk)), h.2.2.2⟩
theorem FM.Oks.loc {w w' : World} (hs : w.heap.size ≤ w'.heap.size) : ∀ {l : List FM}, FM.Oks w l → (∀ b, FM.fps l b → w'.heap[b]? = w.heap[b]?) → FM.Oks w' l
  | [], _, _ => trivial
  | x :: r, h, hb => ⟨FM.Ok.loc hs h.1 fun b hk => hb b (.inl hk), FM.Oks.loc hs h.2 fun b hk => hb b (.inr hk)⟩
abbrev fns (l : List FM) : Ck := ⟨FM.fps l, fun w => FM.Oks w l ∧ FM.Seps l, true, false⟩
theorem fns_ok {l : List FM} {w : World} (h1 : FM.Oks w l) (h2 : FM.Seps l) : (fns l).Ok w :=
  ⟨⟨h1, h2⟩, FM.Oks.lt h1, fun w' hs hb => ⟨FM.Oks.loc hs h1 hb, h2⟩⟩
section
variable {S : Nat → Prop} {w0 w : World} {Γ : List Ck}
theorem Hp.fns0 (H : Hp S w0 w Γ) : Hp S w0 w (fns [] :: Γ) :=
  H.fr0 (Hp.one (Tch.refl _ _) (fns_ok trivial trivial) (fun k hk => hk.elim)) (.inl rfl)
theorem Hp.fnsS {l : List FM} {t : FM} (H : Hp S w0 w (fns [t] :: fns l :: Γ)) : Hp S w0 w (fns (l ++ [t]) :: Γ) := by
  refine Hp.join2 H rfl rfl (.inl rfl) (fun k hk => ?_) (fun hd h1 h2 => fns_ok ((FM.oks_app w l [t]).2 ⟨h2.holds.1, h1.holds.1⟩) (FM.seps_app _ _ h2.holds.2 h1.holds.2 fun b hb => hd b ⟨hb.2, hb.1⟩))
  rcases (FM.fps_app k l [t]).1 hk with h | h
  · exact .inr h
  · exact .inl h
theorem Hp.fnsN {P B : Option Addr} {cp cb : Nat} {ps : List Bs} {b : List SM} (nm : Bs) (H : Hp S w0 w (qu strE 1 9 P cp ps :: stl B cb b :: Γ)) (hlen : ps.length ≤ 2000000 := by first | (simp; done) | omega | assumption) : Hp S w0 w (fns [⟨nm, P, cp, ps, B, cb, b⟩] :: Γ) := by
  refine Hp.join2 H rfl rfl (.inl rfl) (fun k hk => ?_) (fun hd h1 h2 => fns_ok ⟨⟨h1.holds, h2.holds.1, h2.holds.2.1, hlen, h2.holds.2.2.2.2⟩, trivial⟩ ⟨⟨h2.holds.2.2.1, hd, h2.holds.2.2.2.1⟩, trivial, fun b hb => hb.2.elim⟩)
  rcases hk with (hk | hk | hk) | hk
  · exact .inl hk
  · exact .inr (.inl hk)
  · exact .inr (.inr hk)
  · exact hk.elim
end
theorem con_all {src : Bs} {pr : Nat} {wb : World} (X : Txt src pr wb) : ∀ f, Con src pr wb (pf f)
  | 0 => ⟨fun _ _ _ _ _ _ _ _ h => absurd rfl h, fun _ _ _ _ _ _ h => absurd rfl h, fun _ _ _ _ _ _ h => absurd rfl h, fun _ _ _ _ _ _ h => absurd rfl h, fun _ _ _ _ _ _ h => absurd rfl h⟩
  | f + 1 => ⟨expr_c X (con_all X f), unary_c X (con_all X f), primary_c X (con_all X f), block_c X (con_all X f), choice_c X (con_all X f)⟩
def OkF (src : Bs) (pr : Nat) (R : Res Fnc) (w : World) (v : Value) (w' : World) : Prop := ∃ f ts', R = .ok (FM.e f) ts' ∧ v = f.v ∧ Hp (· = pr) w w' [fns [f], rdr src pr ts']
theorem fm_v {v : Value} {nm : Bs} {P B : Option Addr} {cp cb : Nat} {ps : List Bs} {b : List SM} (h : v = .agg #[.string (bs nm), .slice P ps.length cp, .slice B b.length cb]) : v = FM.v ⟨nm, P, cp, ps, B, cb, b⟩ := h
section
variable {src : Bs} {pr : Nat} {wb : World} {F : PF} (X : Txt src pr wb) (C : Con src pr wb F)
include X C
set_option maxHeartbeats 4000000 in
theorem function_c (ts : List Tk) (w : World) (hwb : Ext wb w) (h : Rdr src pr ts w) (hne : functionP F ts ≠ .out) :
    Cl Tryz.prog 34 #[.pointer (some ⟨pr, 0, none⟩)] w (OkF src pr (functionP F ts) w) (PanX (functionP F ts) pr w) := by
  have HB := X.ok hwb
  have hsl := X.len
  obtain ⟨R, hR⟩ : ∃ R, R = functionP F ts := ⟨_, rfl⟩
  rw [← hR] at hne ⊢
  unfold functionP at hR
  refine calls_ex (args := [.pointer (some ⟨pr, 0, none⟩)]) T.ok Tryz.func34 rfl rfl rfl rfl ?_
  have H := Hp.start (S := (· = pr)) (rdr_ok h) (fun k hk => hk)
  clear h
  refine Sq.mk ?_
  ((conv => whnf); refine Al.hp H ?_; clear H; intro p2 _ H _)
  repeat' ((conv => whnf); first | refine ztT ?_ | (refine ztB ?_ ?_ <;> intro _ <;> try (exfalso; omega)) | (refine ztA ?_; clear H; intro _ _ H _) | fail)
  (((conv => whnf); refine Cl.mkX (take_c k_fn src pr (ts) wb _ (H.base2 HB) X.lo X.tb X.len (H.atC 1 rfl) (by decide)) ?_ ?_; rotate_left; (rintro ch w9 ⟨e9, p9, q9, h9, rfl, H'⟩; exact ⟨e9, p9, q9, (by rw [hR, h9]; rfl), rfl, Hp.pan H H' (.inl rfl)⟩)); rintro _ w8 ⟨t1, ts1, h1, rfl, H'⟩; replace H := H.upd (c := rdr src pr (ts)) H' rfl (.inl rfl); clear H'; rw [h1, Res.bind_ok] at hR; clear h1)
  repeat' ((conv => whnf); first | refine ztT ?_ | (refine ztB ?_ ?_ <;> intro _ <;> try (exfalso; omega)) | (refine ztA ?_; clear H; intro _ _ H _) | fail)
  (((conv => whnf); refine Cl.mkX (take_c k_name src pr (ts1) wb _ (H.base2 HB) X.lo X.tb X.len (H.atC 1 rfl) (by decide)) ?_ ?_; rotate_left; (rintro ch w9 ⟨e9, p9, q9, h9, rfl, H'⟩; exact ⟨e9, p9, q9, (by rw [hR, h9]; rfl), rfl, Hp.pan H H' (.inl rfl)⟩)); rintro _ w8 ⟨t2, ts2, h1, rfl, H'⟩; replace H := H.upd (c := rdr src pr (ts1)) H' rfl (.inl rfl); clear H'; rw [h1, Res.bind_ok] at hR; clear h1)
  repeat' ((conv => whnf); first | refine ztT ?_ | (refine ztB ?_ ?_ <;> intro _ <;> try (exfalso; omega)) | (refine ztW ?_; clear H; intro _ _ H _) | fail)
  ((conv => whnf); refine Al.hp H ?_; clear H; intro p3 _ H _)
  repeat' ((conv => whnf); first | refine ztT ?_ | (refine ztB ?_ ?_ <;> intro _ <;> try (exfalso; omega)) | (refine ztA ?_; clear H; intro _ _ H _) | fail)
  (((conv => whnf); refine Cl.mkX (take_c s_lp src pr (ts2) wb _ (H.base2 HB) X.lo X.tb X.len (H.atC 2 rfl) (by decide)) ?_ ?_; rotate_left; (rintro ch w9 ⟨e9, p9, q9, h9, rfl, H'⟩; exact ⟨e9, p9, q9, (by rw [hR, h9]; rfl), rfl, Hp.pan H H' (.inl rfl)⟩)); rintro _ w8 ⟨t3, ts3, h1, rfl, H'⟩; replace H := H.upd (c := rdr src pr (ts2)) H' rfl (.inl rfl); clear H'; rw [h1, Res.bind_ok] at hR; clear h1)
  have hN : ts3.length ≤ src.length + 2 := (H.atC (c := rdr src pr ts3) 2 rfl).len
  generalize hN0 : ts3.length + 1 = N at hR
  have hNb : N ≤ 1000010 := by omega
  replace H := Hp.nil H strE 1 9
  have hfix : ∀ w', Hp (· = pr) w w' [qu strE 1 9 none 0 [], bk p3 34 [.string (bs t2.text), .slice none 0 0, .slice none 0 0], bk p2 34 T.t34.zero.cells.toList, rdr src pr ts3] → Hp (· = pr) w w' [qu strE 1 9 none 0 [], bk p3 34 [.string (bs t2.text), .slice none 0 0, .slice none 0 0], bk p2 34 T.t34.zero.cells.toList, rdr src pr ts3] := fun _ h => h
  replace H := hfix _ H
  clear hfix
  repeat' ((conv => whnf); first | refine ztT ?_ | (refine ztB ?_ ?_ <;> intro _ <;> try (exfalso; omega)) | (refine ztA ?_; clear H; intro _ _ H _) | fail)
  refine Lp.g0 T.ok (σ := Nat × Option Addr × Nat × List Bs × List Tk) (fun q => [(3, .pointer (some ⟨p3, 0, none⟩)), (2, .pointer (some ⟨p2, 0, none⟩)), (0, .pointer (some ⟨pr, 0, none⟩))])
    (fun q w' => R = (loopN q.1 q.2.2.2.1 q.2.2.2.2).bind (fun ps ts4 => (takeP s_rp ts4).bind fun _ ts5 => (F.block 1 ts5).bind fun b ts6 => .ok ⟨t2.text, ps, b⟩ ts6) ∧ q.1 + q.2.2.2.1.length ≤ N ∧ Hp (· = pr) w w' [qu strE 1 9 q.2.1 q.2.2.1 q.2.2.2.1, bk p3 34 [.string (bs t2.text), .slice q.2.1 q.2.2.2.1.length q.2.2.1, .slice none 0 0], bk p2 34 T.t34.zero.cells.toList, rdr src pr q.2.2.2.2]) (fun q _ => q.1) (N, none, 0, [], ts3) rfl ⟨rfl, rfl, rfl, trivial⟩ ⟨hR, Nat.le_refl _, H⟩ ?_
  clear H hR hN0 hN
  rintro ⟨f, A, c, l, ts⟩ w5 ⟨hR, hN, H⟩
  simp only at hR hN H ⊢
  cases f with
  | zero => exact absurd hR hne
  | succ f =>
  simp only [loopN] at hR
  (obtain ⟨nx, t0, r0, rfl, hnx, hr0, hb0⟩ := H.atC (c := rdr src pr ts) 3 rfl; replace H := Hp.ofR H hb0; clear hb0)
  by_cases hk : t0.kind = s_rp
  · rw [if_pos (show curK (t0 :: r0) = s_rp from hk), Res.bind_ok] at hR
    repeat' ((conv => whnf); first | refine ztT ?_ | (refine ztB ?_ ?_ <;> intro _ <;> try (exfalso; omega)) | (refine ztA ?_; clear H; intro _ _ H _) | fail)
    (replace H := Hp.toR H hnx hr0; clear hnx hr0)
    (((conv => whnf); refine Cl.mkX (take_c s_rp src pr (t0 :: r0) wb _ (H.base2 HB) X.lo X.tb X.len (H.atC 3 rfl) (by decide)) ?_ ?_; rotate_left; (rintro ch w9 ⟨e9, p9, q9, h9, rfl, H'⟩; exact ⟨e9, p9, q9, (by rw [hR, h9]; rfl), rfl, Hp.pan H H' (.inl rfl)⟩)); rintro _ w8 ⟨t5, ts5, h1, rfl, H'⟩; replace H := H.upd (c := rdr src pr (t0 :: r0)) H' rfl (.inl rfl); clear H'; rw [h1, Res.bind_ok] at hR; clear h1)
    repeat' ((conv => whnf); first | refine ztT ?_ | (refine ztB ?_ ?_ <;> intro _ <;> try (exfalso; omega)) | (refine ztA ?_; clear H; intro _ _ H _) | fail)
    ((conv => whnf); refine Cl.mkX (C.block 1 ts5 _ (by omega) (H.base2 HB) (H.atC 3 rfl) (Res.bind_out (by rw [← hR]; exact hne))) ?_ ?_; rotate_left; (rintro ch w9 ⟨e9, p9, q9, h9, rfl, H'⟩; exact ⟨e9, p9, q9, (by rw [hR, h9]; rfl), rfl, Hp.pan H H' (.inl rfl)⟩))
    rintro _ w6 ⟨B, cB, b, ts6, h6, rfl, H'⟩
    replace H := H.updn (c := rdr src pr ts5) (Hp.swap H') rfl (.inl rfl) (.inl rfl)
    clear H'
    rw [h6, Res.bind_ok] at hR
    repeat' ((conv => whnf); first | refine ztT ?_ | (refine ztB ?_ ?_ <;> intro _ <;> try (exfalso; omega)) | (refine ztA ?_; clear H; intro _ _ H _) | fail)
    exact ⟨⟨t2.text, A, c, l, B, cB, b⟩, ts6, hR, fm_v rfl, Hp.fnsN t2.text (H.sel [1, 0, 2] rfl)⟩
  rw [if_neg (show ¬ curK (t0 :: r0) = s_rp from hk)] at hR
  by_cases hl0 : l.length = 0
  · rw [if_neg (by omega), Res.bind_ok, Res.bind_assoc] at hR
    repeat' ((conv => whnf); first | refine ztT ?_ | (refine ztB ?_ ?_ <;> intro _ <;> try (exfalso; omega)) | (refine ztA ?_; clear H; intro _ _ H _) | fail)
    all_goals first | (exfalso; omega) | skip
    (replace H := Hp.toR H hnx hr0; clear hnx hr0)
    (conv => whnf)
    refine Dr.chX T.ok mixed [0, 1, 2, 7] [3, 4, 5, 6, 8] (by kernel_rfl) rfl rfl (fun w' => Blk w' p3 34 [.string (bs t2.text), .slice A l.length c, .slice none 0 0]) (PanX R pr w) (fun ch F' w' hds h => by (conv => whnf); rw [show F'.ds = [] from hds]; exact h) (fun w1 eT _ => ?_)
    replace H := H.ext eT
    repeat' ((conv => whnf); first | refine QLd1.own (fun _ hw => hw) ?_ | refine QLd.own (fun _ hw => hw) ?_)
    (conv => whnf)
    refine ⟨H.blk 1 rfl, ?_⟩
    (((conv => whnf); refine Cl.mkX (take_c k_name src pr (t0 :: r0) wb _ (H.base2 HB) X.lo X.tb X.len (H.atC 3 rfl) (by decide)) ?_ ?_; rotate_left; (rintro ch w9 ⟨e9, p9, q9, h9, rfl, H'⟩; exact ⟨e9, p9, q9, (by rw [hR, h9]; rfl), rfl, Hp.pan H H' (.inl rfl)⟩)); rintro _ w8 ⟨t6, ts6, h1, rfl, H'⟩; replace H := H.upd (c := rdr src pr (t0 :: r0)) H' rfl (.inl rfl); clear H'; rw [h1, Res.bind_ok] at hR; clear h1)
    (conv => whnf)
    refine ⟨H.blk 1 rfl, ?_⟩
    (conv => whnf)
    refine ⟨H.blk 1 rfl, ?_⟩
    refine Sm.lith (cs := [.string (bs t6.text)]) H T.ok (fun p5 w4 H _ => ?_)
    (conv => whnf)
    refine ⟨H.blk 2 rfl, ?_⟩
    refine Sm.ap1 (enc := strE) t6.text H T.ok ?_ ?_ (fun A' c' w7 H => ?_)
    · show (l.length + 1) * 16 ≤ _; omega
    · omega
    simp only [List.cons_append, List.nil_append] at H
    (conv => whnf)
    refine ⟨H.blk 1 rfl, ?_⟩
    repeat' ((conv => whnf); first | refine ztT ?_ | (refine ztB ?_ ?_ <;> intro _ <;> try (exfalso; omega)) | (refine ztA ?_; clear H; intro _ _ H _) | fail)
    refine ⟨(f, A', c', l ++ [t6.text], ts6), ⟨rfl, rfl, rfl, trivial⟩, rfl, ⟨hR, ?_, ?_⟩, Nat.lt_succ_self f⟩
    · simp only [List.length_append, List.length_cons, List.length_nil]; omega
    · have hl1 : (l ++ [t6.text]).length = l.length + 1 := by simp
      simp only [hl1]
      exact H
  · rw [if_pos hl0] at hR
    replace hR : R = (takeP s_comma (t0 :: r0)).bind fun _ ts1 => (takeP k_name ts1).bind fun t ts2 => (loopN f (l ++ [t.text]) ts2).bind (fun ps ts4 => (takeP s_rp ts4).bind fun _ ts5 => (F.block 1 ts5).bind fun b ts6 => .ok ⟨t2.text, ps, b⟩ ts6) := by
      rw [hR]
      cases takeP s_comma (t0 :: r0) with
      | out => rfl
      | err e p => rfl
      | ok a ts1 => simp only [Res.bind_ok, Res.bind_assoc]
    repeat' ((conv => whnf); first | refine ztT ?_ | (refine ztB ?_ ?_ <;> intro _ <;> try (exfalso; omega)) | (refine ztA ?_; clear H; intro _ _ H _) | fail)
    all_goals first | (exfalso; omega) | skip
    (replace H := Hp.toR H hnx hr0; clear hnx hr0)
    (((conv => whnf); refine Cl.mkX (take_c s_comma src pr (t0 :: r0) wb _ (H.base2 HB) X.lo X.tb X.len (H.atC 3 rfl) (by decide)) ?_ ?_; rotate_left; (rintro ch w9 ⟨e9, p9, q9, h9, rfl, H'⟩; exact ⟨e9, p9, q9, (by rw [hR, h9]; rfl), rfl, Hp.pan H H' (.inl rfl)⟩)); rintro _ w8 ⟨t7, ts7, h1, rfl, H'⟩; replace H := H.upd (c := rdr src pr (t0 :: r0)) H' rfl (.inl rfl); clear H'; rw [h1, Res.bind_ok] at hR; clear h1)
    repeat' ((conv => whnf); first | refine ztT ?_ | (refine ztB ?_ ?_ <;> intro _ <;> try (exfalso; omega)) | (refine ztA ?_; clear H; intro _ _ H _) | fail)
    (conv => whnf)
    refine Dr.chX T.ok mixed [0, 1, 2, 7] [3, 4, 5, 6, 8] (by kernel_rfl) rfl rfl (fun w' => Blk w' p3 34 [.string (bs t2.text), .slice A l.length c, .slice none 0 0]) (PanX R pr w) (fun ch F' w' hds h => by (conv => whnf); rw [show F'.ds = [] from hds]; exact h) (fun w1 eT _ => ?_)
    replace H := H.ext eT
    repeat' ((conv => whnf); first | refine QLd1.own (fun _ hw => hw) ?_ | refine QLd.own (fun _ hw => hw) ?_)
    (conv => whnf)
    refine ⟨H.blk 1 rfl, ?_⟩
    (((conv => whnf); refine Cl.mkX (take_c k_name src pr (ts7) wb _ (H.base2 HB) X.lo X.tb X.len (H.atC 3 rfl) (by decide)) ?_ ?_; rotate_left; (rintro ch w9 ⟨e9, p9, q9, h9, rfl, H'⟩; exact ⟨e9, p9, q9, (by rw [hR, h9]; rfl), rfl, Hp.pan H H' (.inl rfl)⟩)); rintro _ w8 ⟨t6, ts6, h1, rfl, H'⟩; replace H := H.upd (c := rdr src pr (ts7)) H' rfl (.inl rfl); clear H'; rw [h1, Res.bind_ok] at hR; clear h1)
    (conv => whnf)
    refine ⟨H.blk 1 rfl, ?_⟩
    (conv => whnf)
    refine ⟨H.blk 1 rfl, ?_⟩
    refine Sm.lith (cs := [.string (bs t6.text)]) H T.ok (fun p5 w4 H _ => ?_)
    (conv => whnf)
    refine ⟨H.blk 2 rfl, ?_⟩
    refine Sm.ap1 (enc := strE) t6.text H T.ok ?_ ?_ (fun A' c' w7 H => ?_)
    · show (l.length + 1) * 16 ≤ _; omega
    · omega
    simp only [List.cons_append, List.nil_append] at H
    (conv => whnf)
    refine ⟨H.blk 1 rfl, ?_⟩
    repeat' ((conv => whnf); first | refine ztT ?_ | (refine ztB ?_ ?_ <;> intro _ <;> try (exfalso; omega)) | (refine ztA ?_; clear H; intro _ _ H _) | fail)
    refine ⟨(f, A', c', l ++ [t6.text], ts6), ⟨rfl, rfl, rfl, trivial⟩, rfl, ⟨hR, ?_, ?_⟩, Nat.lt_succ_self f⟩
    · simp only [List.length_append, List.length_cons, List.length_nil]; omega
    · have hl1 : (l ++ [t6.text]).length = l.length + 1 := by simp
      simp only [hl1]
      exact H
end
end Go.Proofs.YtfnjodpehomgfaaGreatDoor
namespace Go.Proofs.YtfnjodpehomgfaaGreatDoor
open Go.RowKit Go.Extern.Stop Go.Stop Go.Extern
theorem tas_valueOf27 (t : Addr) (w : World) : (ReflectliteValue.unpack (.iface 61 (.pointer (some t)))).run Tryz.prog w
    = .ok (.agg #[.pointer (some ⟨10, 61, none⟩), .pointer (some ⟨w.heap.size, 0, none⟩), .int .u64 150]) (w.alloc (.cells #[.pointer (some t)] 61)) := by kernel_rfl
theorem tas_type27 (a : Addr) (w : World) : (ReflectliteValue.methodAny (ReflectliteValue.valueError "reflectlite.Value.Type" 0) (fun t _ _ _ => ReflectliteType.toType t) #[.agg #[.pointer (some ⟨10, 61, none⟩), .pointer (some a), .int .u64 150]]).run Tryz.prog w
    = .ok (.iface 137 (.agg #[.pointer (some ⟨10, 61, none⟩)])) w := by kernel_rfl
theorem tas_methodKind (h : Value) (w : World) : (Go.method 330 137 (.agg #[h]) "Kind").run Tryz.prog w = .ok (177, h) w := by kernel_rfl
theorem tas_kind27 (w : World) : ((ReflectliteType.abiMethod fun t => (fun a : Nat => Value.int IntKind.u8 (a : Int)) <$> Rtype.kind t) #[.pointer (some ⟨10, 61, none⟩)]).run Tryz.prog w = .ok (.int .u8 22) w := by kernel_rfl
theorem tas_kind25 (w : World) : ((ReflectliteType.abiMethod fun t => (fun a : Nat => Value.int IntKind.u8 (a : Int)) <$> Rtype.kind t) #[.pointer (some ⟨10, 56, none⟩)]).run Tryz.prog w = .ok (.int .u8 22) w := by kernel_rfl
theorem rlm (z : Sem Value) (f : TypeId → Addr → Nat → Nat → Sem Value) (v : Value) :
    ReflectliteValue.method z f #[v] = (do match ← ReflectliteValue.parts v with | none => z | some (t, a, fl) => f t a fl (fl % 32)) := rfl
theorem tas_parts27 (a : Addr) (w : World) : (ReflectliteValue.parts (.agg #[.pointer (some ⟨10, 61, none⟩), .pointer (some a), .int .u64 150])).run Tryz.prog w = .ok (some (61, a, 150)) w := by kernel_rfl
theorem tas_isNil27 (a p : Addr) (W : World) (ha : W.cell? a = some (.pointer (some p))) :
    (ReflectliteValue.method (ReflectliteValue.valueError "reflectlite.Value.IsNil" 0) ReflectliteValue.isNil #[.agg #[.pointer (some ⟨10, 61, none⟩), .pointer (some a), .int .u64 150]]).run Tryz.prog W = .ok (.bool false) W := by
  rw [rlm]
  simp only [Sem.run_bind, tas_parts27, Result.andThen]
  simp [ReflectliteValue.isNil, loadVar, isAgg, underlying, Tryz.underlying61, ha, Result.andThen]
theorem tas_methodElem (h : Value) (w : World) : (Go.method 330 137 (.agg #[h]) "Elem").run Tryz.prog w = .ok (188, .agg #[h]) w := by kernel_rfl
theorem tas_methodImplements (h : Value) (w : World) : (Go.method 330 137 (.agg #[h]) "Implements").run Tryz.prog w = .ok (189, .agg #[h]) w := by kernel_rfl
theorem tas_methodAssignableTo (h : Value) (w : World) : (Go.method 330 137 (.agg #[h]) "AssignableTo").run Tryz.prog w = .ok (186, .agg #[h]) w := by kernel_rfl
theorem tas_elem27 (w : World) : (ReflectliteType.method ReflectliteType.elem #[.agg #[.pointer (some ⟨10, 61, none⟩)]]).run Tryz.prog w = .ok (.iface 137 (.agg #[.pointer (some ⟨10, 56, none⟩)])) w := by kernel_rfl
theorem tas_implements25 (w : World) : (ReflectliteType.relation "Implements" ReflectliteType.implements_ #[.agg #[.pointer (some ⟨10, 56, none⟩)], .iface 137 (.agg #[.pointer (some ⟨10, 58, none⟩)])]).run Tryz.prog w = .ok (.bool true) w := by kernel_rfl
theorem tas_typeOf25 (v : Value) (w : World) : (ReflectliteType.typeOf #[.iface 56 v]).run Tryz.prog w = .ok (.iface 137 (.agg #[.pointer (some ⟨10, 56, none⟩)])) w := by kernel_rfl
theorem tas_assignable25 (w : World) : (ReflectliteType.relation "AssignableTo" ReflectliteType.assignableTo #[.agg #[.pointer (some ⟨10, 56, none⟩)], .iface 137 (.agg #[.pointer (some ⟨10, 56, none⟩)])]).run Tryz.prog w = .ok (.bool true) w := by kernel_rfl
theorem tas_valueOf25 (e : Addr) (w : World) : (ReflectliteValue.unpack (.iface 56 (.pointer (some e)))).run Tryz.prog w
    = .ok (.agg #[.pointer (some ⟨10, 56, none⟩), .pointer (some ⟨w.heap.size, 0, none⟩), .int .u64 150]) (w.alloc (.cells #[.pointer (some e)] 56)) := by kernel_rfl
theorem tas_elemOf27 (w : World) : (Rtype.elem? 61).run Tryz.prog w = .ok (some 56) w := by kernel_rfl
theorem tas_mk25 (p : Addr) (w : World) : (ReflectliteValue.mk 56 p ReflectliteValue.flagAddr).run Tryz.prog w = .ok (.agg #[.pointer (some ⟨10, 56, none⟩), .pointer (some p), .int .u64 406]) w := by kernel_rfl
theorem tas_elemV27 (a p : Addr) (W : World) (ha : W.cell? a = some (.pointer (some p))) :
    (ReflectliteValue.method (ReflectliteValue.valueError "reflectlite.Value.Elem" 0) ReflectliteValue.elem #[.agg #[.pointer (some ⟨10, 61, none⟩), .pointer (some a), .int .u64 150]]).run Tryz.prog W
      = .ok (.agg #[.pointer (some ⟨10, 56, none⟩), .pointer (some p), .int .u64 406]) W := by
  rw [rlm]
  simp only [Sem.run_bind, tas_parts27, Result.andThen]
  simp [ReflectliteValue.elem, loadVar, isAgg, underlying, Tryz.underlying61, ha, Result.andThen, tas_elemOf27, tas_mk25]
theorem rls (v x : Value) : ReflectliteValue.set #[v, x] = (do
    let (some (dst, a, fl), some (src, b, _)) := (← ReflectliteValue.parts v, ← ReflectliteValue.parts x)
      | unsupported (.noEntry "extern/(internal/reflectlite.Value).Set.zeroValue")
    if fl / ReflectliteValue.flagAddr % 2 == 0 then unsupported (.noEntry "extern/(internal/reflectlite.Value).Set.unaddressable")
    let val ← loadVar src b
    if ← Rtype.directlyAssignable dst src then storeVar dst a val
    else if ← Rtype.implements dst src then
      if (← Rtype.kind src) == 20 then
        match val with
        | .nilIface => unsupported (.noEntry "extern/reflectlite: a nil value of one interface type handed on as a value of another")
        | _ => storeVar dst a val
      else storeVar dst a (.iface src val)
    else panicString ("reflectlite.Set: value of type " ++ (← Rtype.spelt src) ++ " is not assignable to type " ++ (← Rtype.spelt dst))
    pure (.tuple #[])) := rfl
theorem tas_parts25a (a : Addr) (w : World) : (ReflectliteValue.parts (.agg #[.pointer (some ⟨10, 56, none⟩), .pointer (some a), .int .u64 406])).run Tryz.prog w = .ok (some (56, a, 406)) w := by kernel_rfl
theorem tas_parts25 (a : Addr) (w : World) : (ReflectliteValue.parts (.agg #[.pointer (some ⟨10, 56, none⟩), .pointer (some a), .int .u64 150])).run Tryz.prog w = .ok (some (56, a, 150)) w := by kernel_rfl
theorem tas_direct25 (w : World) : (Rtype.directlyAssignable 56 56).run Tryz.prog w = .ok true w := by kernel_rfl
theorem tas_set25 (ta b e : Addr) (old : Value) (W : World) (hb : W.cell? b = some (.pointer (some e))) (ht : W.cell? ta = some old) (hf : W.frozen? ta = false) :
    (ReflectliteValue.set #[.agg #[.pointer (some ⟨10, 56, none⟩), .pointer (some ta), .int .u64 406], .agg #[.pointer (some ⟨10, 56, none⟩), .pointer (some b), .int .u64 150]]).run Tryz.prog W
      = .ok (.tuple #[]) (W.setCell ta (.pointer (some e))) := by
  rw [rls]
  simp only [Sem.run_bind, tas_parts25a, tas_parts25, Result.andThen]
  simp [ReflectliteValue.flagAddr, loadVar, isAgg, underlying, Tryz.underlying56, hb, Result.andThen, tas_direct25, storeVar, Value.cells, storeCells, Addr.add]
  rw [run_store Tryz.prog W ta _ _ (by rfl)]
  simp [ht, hf]
set_option maxRecDepth 20000 in
set_option maxHeartbeats 8000000 in
theorem as_hit (e t : Addr) (old : Value) (w : World) (hg : w.cell? ⟨0, 0, none⟩ = some (.iface 137 (.agg #[.pointer (some ⟨10, 58, none⟩)]))) (ht0 : w.cell? t = some old) (hf0 : w.frozen? t = false) :
    Calls Tryz.prog 32 #[.iface 56 (.pointer (some e)), .iface 61 (.pointer (some t))] w fun ev w' => ev = .returned (.bool true) ∧ w' = ((((w.alloc (.cells #[.pointer (some t)] 61)).alloc (.cells #[.pointer (some ⟨10, 61, none⟩), .pointer (some ⟨w.heap.size, 0, none⟩), .int .u64 150] 107)).alloc (.cells #[.pointer (some ⟨10, 61, none⟩), .pointer (some ⟨w.heap.size, 0, none⟩), .int .u64 150] 107)).alloc (.cells #[.pointer (some e)] 56)).setCell t (.pointer (some e)) := by
  have h6 := @run_callFunc_extern Tryz.prog 55 _ (fun args => ReflectliteValue.unpack (args.getD 0 (.tuple #[]))) Tryz.func55 (by kernel_rfl) (by kernel_rfl) (by kernel_rfl) (by kernel_rfl)
  have h7 := @run_callFunc_extern Tryz.prog 56 _ (ReflectliteValue.methodAny (ReflectliteValue.valueError "reflectlite.Value.Type" 0) (fun t _ _ _ => ReflectliteType.toType t)) Tryz.func56 (by kernel_rfl) (by kernel_rfl) (by kernel_rfl) (by kernel_rfl)
  have h8 := @run_callFunc_extern Tryz.prog 57 _ (ReflectliteValue.method (ReflectliteValue.valueError "reflectlite.Value.IsNil" 0) ReflectliteValue.isNil) Tryz.func57 (by kernel_rfl) (by kernel_rfl) (by kernel_rfl) (by kernel_rfl)
  have h27 := @run_callFunc_extern Tryz.prog 177 _ (ReflectliteType.abiMethod fun t => do pure (.int .u8 (← Rtype.kind t))) Tryz.func177 (by kernel_rfl) (by kernel_rfl) (by kernel_rfl) (by kernel_rfl)
  have h37 := @run_callFunc_extern Tryz.prog 188 _ (ReflectliteType.method ReflectliteType.elem) Tryz.func188 (by kernel_rfl) (by kernel_rfl) (by kernel_rfl) (by kernel_rfl)
  have h38 := @run_callFunc_extern Tryz.prog 189 _ (ReflectliteType.relation "Implements" ReflectliteType.implements_) Tryz.func189 (by kernel_rfl) (by kernel_rfl) (by kernel_rfl) (by kernel_rfl)
  have h10 := @run_callFunc_extern Tryz.prog 84 _ ReflectliteType.typeOf Tryz.func84 (by kernel_rfl) (by kernel_rfl) (by kernel_rfl) (by kernel_rfl)
  have h35 := @run_callFunc_extern Tryz.prog 186 _ (ReflectliteType.relation "AssignableTo" ReflectliteType.assignableTo) Tryz.func186 (by kernel_rfl) (by kernel_rfl) (by kernel_rfl) (by kernel_rfl)
  have h11 := @run_callFunc_extern Tryz.prog 85 _ (ReflectliteValue.method (ReflectliteValue.valueError "reflectlite.Value.Elem" 0) ReflectliteValue.elem) Tryz.func85 (by kernel_rfl) (by kernel_rfl) (by kernel_rfl) (by kernel_rfl)
  have h12 := @run_callFunc_extern Tryz.prog 86 _ ReflectliteValue.set Tryz.func86 (by kernel_rfl) (by kernel_rfl) (by kernel_rfl) (by kernel_rfl)
  have tO := tas_typeOf25
  have mA := tas_methodAssignableTo
  have a25 := tas_assignable25
  have v25 := tas_valueOf25
  have f6 := tas_valueOf27
  have f7 := tas_type27
  have mK := tas_methodKind
  have mE := tas_methodElem
  have mI := tas_methodImplements
  have k27 := tas_kind27
  have k25 := tas_kind25
  have e27 := tas_elem27
  have i25 := tas_implements25
  have n8 := tas_isNil27 ⟨w.heap.size, 0, none⟩ t ((w.alloc (.cells #[.pointer (some t)] 61)).alloc (.cells #[.pointer (some ⟨10, 61, none⟩), .pointer (some ⟨w.heap.size, 0, none⟩), .int .u64 150] 107)) (by simp)
  have hlt : 0 < w.heap.size := by
    rcases Nat.eq_zero_or_pos w.heap.size with h0 | h
    · simp [World.cell?, h0] at hg
    · exact h
  have hg2 : ((w.alloc (.cells #[.pointer (some t)] 61)).alloc (.cells #[.pointer (some ⟨10, 61, none⟩), .pointer (some ⟨w.heap.size, 0, none⟩), .int .u64 150] 107)).cell? ⟨0, 0, none⟩ = some (.iface 137 (.agg #[.pointer (some ⟨10, 58, none⟩)])) := by
    rw [World.cell?_alloc_lt _ _ ⟨0, 0, none⟩ (by simp), World.cell?_alloc_lt _ _ ⟨0, 0, none⟩ hlt]; exact hg
  have htl : t.block < w.heap.size := by
    rcases Nat.lt_or_ge t.block w.heap.size with h | h
    · exact h
    · simp [World.cell?, Array.getElem?_eq_none h] at ht0
  have el := tas_elemV27 ⟨w.heap.size, 0, none⟩ t (((w.alloc (.cells #[.pointer (some t)] 61)).alloc (.cells #[.pointer (some ⟨10, 61, none⟩), .pointer (some ⟨w.heap.size, 0, none⟩), .int .u64 150] 107)).alloc (.cells #[.pointer (some ⟨10, 61, none⟩), .pointer (some ⟨w.heap.size, 0, none⟩), .int .u64 150] 107)) (by rw [World.cell?_alloc_lt _ _ ⟨w.heap.size, 0, none⟩ (by simp; omega)]; simp)
  have st := tas_set25 t ⟨w.heap.size + 1 + 1 + 1, 0, none⟩ e old ((((w.alloc (.cells #[.pointer (some t)] 61)).alloc (.cells #[.pointer (some ⟨10, 61, none⟩), .pointer (some ⟨w.heap.size, 0, none⟩), .int .u64 150] 107)).alloc (.cells #[.pointer (some ⟨10, 61, none⟩), .pointer (some ⟨w.heap.size, 0, none⟩), .int .u64 150] 107)).alloc (.cells #[.pointer (some e)] 56))
    (by rw [World.cell?_alloc_at _ _ _ _ (by simp)]; rfl)
    (by rw [World.cell?_alloc_lt _ _ t (by simp; omega), World.cell?_alloc_lt _ _ t (by simp; omega), World.cell?_alloc_lt _ _ t (by simp; omega), World.cell?_alloc_lt _ _ t htl]; exact ht0)
    (by rw [World.frozen?_alloc_old _ _ t (by simp; omega), World.frozen?_alloc_old _ _ t (by simp; omega), World.frozen?_alloc_old _ _ t (by simp; omega), World.frozen?_alloc_old _ _ t (Nat.ne_of_lt htl)]; exact hf0)
  go_enter Tryz.func32, Tryz.ntmps32
  go_wp2
  refine wp_loop_rounds 1 ?_
  rw [rounds_succ]
  go_wp2
  go_ret
  exact ⟨rfl, rfl⟩
end Go.Proofs.YtfnjodpehomgfaaGreatDoor
namespace Go.Proofs.YtfnjodpehomgfaaGreatDoor
open Go Go.Sh Go.Tx
theorem DCl.recov2 {P : Program} {T : Tab} (hT : TabOk P T) {f : FuncId} {fn : Func} {args : List Value} {w : World} {k : FrameMode → World → Prop} {m id d d2 : Nat} {o o2 : Oper} {c2 : Code} {u u1 : FrameMode} {v : Value}
    (hf : P.funcs[f]? = some fn) (hb : fn.body = some (.seq (.region id #[o, o2] false) c2)) (hm : fn.ntmps = m) (hrs : fn.results = #[]) (hn : Nat.ble args.length m = true)
    (ho : ∀ ρ w, (execOp ρ o).run P w = .ok .recover w) (hg : o.guard = none) (hd : o.dst = some d) (hdn : Nat.blt d m = true)
    (ho2 : o2.op = .assign (.tmp d)) (hg2 : o2.guard = none) (hd2 : o2.dst = some d2) (hdn2 : Nat.blt d2 m = true)
    (hu : (u = .returning ∧ v = .nilIface ∧ u1 = .returning) ∨ ∃ x, u = .panicking [{ v := x, recovered := false }] ∧ v = x ∧ u1 = .panicking [{ v := x, recovered := true }])
    (h : exC P T m c2 ⟨(d2, v) :: (d, v) :: argsEnv args 0, []⟩ w (fun e F w' => match e with | .normal | .ret => F.ds = [] ∧ k u1 w' | _ => False)) : DCl P f args.toArray u w k := by
  subst hm
  refine ⟨callsD_of_wpS hf hb fun c₀ cs hc => ?_⟩
  refine wpS_seq (wpS_region ?_)
  have hr0 : List.range (#[o, o2] : Array Oper).size = [0, 1] := rfl
  rw [hr0]
  have ha1 := (Agr.enter (fn := fn) hn).put (d := some d) (by simpa [dstOk] using hdn) v
  have ha := ha1.put (d := some d2) (by simpa [dstOk] using hdn2) v
  have hev := ha1.ev (.tmp d) v (by simp [evF, Fr.put, Sh.look])
  have fin : ∀ c₁ : Frame, c₁ = { c₀ with mode := u1 } → c2.wpS P (bodyPostS P fn c₀ cs (fun e u' w' => match e with | .returned _ => k u' w' | _ => False)) (Act.put (Act.put { tmps := args.toArray ++ Array.replicate (fn.ntmps - args.toArray.size) undef, defers := [] } (some d) v) (some d2) v) (c₁ :: cs) w := fun c₁ h1 => by
    refine wpS_of_wp (wp_mono (exC_sound hT c2 _ _ w _ ha (by exact h)) fun e a' w' q => ?_)
    obtain ⟨F', ha', q⟩ := q
    cases e with
    | normal =>
      refine ⟨ha'.2.1.trans q.1, u1, by rw [h1], .tuple #[], ?_, q.2⟩
      exact (by simp [results, hrs] : (results fn a'.tmps).run P w' = .ok (.tuple #[]) w')
    | ret =>
      refine ⟨ha'.2.1.trans q.1, u1, by rw [h1], .tuple #[], ?_, q.2⟩
      exact (by simp [results, hrs] : (results fn a'.tmps).run P w' = .ok (.tuple #[]) w')
    | _ => exact q.elim
  have snd : ∀ (Q : Exit → Act → List Frame → World → Prop) (c₁ : Frame), Q .normal (Act.put (Act.put { tmps := args.toArray ++ Array.replicate (fn.ntmps - args.toArray.size) undef, defers := [] } (some d) v) (some d2) v) (c₁ :: cs) w → wpOpsS P #[o, o2] Q [1] (Act.put { tmps := args.toArray ++ Array.replicate (fn.ntmps - args.toArray.size) undef, defers := [] } (some d) v) (c₁ :: cs) w := fun Q c₁ h1 => by
    unfold wpOpsS
    simp only [List.getElem?_toArray, List.getElem?_cons_succ, List.getElem?_cons_zero, wanted_none hg2, if_true]
    have hx : ∀ ρ w, (execOp ρ o2).run P w = .ok (.value (ρ (.tmp d))) w := fun ρ w => by unfold execOp; rw [ho2]; rfl
    simp only [hx, hev, Oper.upon, hd2]
    unfold wpOpsS
    exact h1
  unfold wpOpsS
  simp only [List.getElem?_toArray, List.getElem?_cons_zero, wanted_none hg, if_true, ho, hd]
  rcases hu with ⟨h1, rfl, h3⟩ | ⟨x, h1, rfl, h3⟩
  · have : recoverD (c₀ :: cs) = none := by simp [recoverD, hc, h1]
    simp only [this]
    exact snd _ c₀ (fin c₀ (by rw [h3, ← h1, ← hc]))
  · have : recoverD (c₀ :: cs) = some (v, { c₀ with mode := u1 } :: cs) := by simp [recoverD, hc, h1, h3]
    simp only [this]
    exact snd _ _ (fin _ rfl)
def EG (w : World) : Prop := w.cell? ⟨0, 0, none⟩ = some (.iface 137 (.agg #[.pointer (some ⟨10, 58, none⟩)]))
theorem EG.lt {w : World} (h : EG w) : 0 < w.heap.size := by
  rcases Nat.lt_or_ge 0 w.heap.size with h1 | h1
  · exact h1
  · unfold EG at h
    simp [World.cell?, Array.getElem?_eq_none h1] at h
theorem EG.ext {w w' : World} (h : EG w) (e : Ext w w') : EG w' := by
  have hb : w'.heap[0]? = w.heap[0]? := Go.RowKit.Below.block e _ h.lt
  unfold EG at h ⊢
  unfold World.cell? at h ⊢
  simp only at h hb ⊢
  rw [hb]; exact h
theorem as_c (q t : Nat) (old : Value) (w : World) (hE : EG w) (hb : Blk w t 56 [old]) :
    Cl Tryz.prog 32 #[.iface 56 (.pointer (some ⟨q, 0, none⟩)), .iface 61 (.pointer (some ⟨t, 0, none⟩))] w
      (fun v w' => v = .bool true ∧ Hp (· = t) w w' [bk t 56 [.pointer (some ⟨q, 0, none⟩)]]) (fun _ _ => False) := by
  refine ⟨Calls.mono (as_hit ⟨q, 0, none⟩ ⟨t, 0, none⟩ old w hE ?_ ?_) ?_⟩
  · exact hb.cell 0
  · exact hb.frozen _ rfl
  rintro ev w' ⟨rfl, rfl⟩
  refine ⟨rfl, ?_⟩
  have e := (((Ext.alloc w (.cells #[.pointer (some ⟨t, 0, none⟩)] 61)).trans (Ext.alloc _ (.cells #[.pointer (some ⟨10, 61, none⟩), .pointer (some ⟨w.heap.size, 0, none⟩), .int .u64 150] 107))).trans (Ext.alloc _ (.cells #[.pointer (some ⟨10, 61, none⟩), .pointer (some ⟨w.heap.size, 0, none⟩), .int .u64 150] 107))).trans (Ext.alloc _ (.cells #[.pointer (some ⟨q, 0, none⟩)] 56))
  have H0 : Hp (· = t) w w [bk t 56 [old]] := Hp.start (S := (· = t)) (bk_ok hb) (fun k hk => hk)
  have H := H0.ext e
  have hst := St.h (vs := [Value.pointer (some ⟨q, 0, none⟩)]) (o := 0) (k := fun w' => Hp (· = t) w w' [bk t 56 [.pointer (some ⟨q, 0, none⟩)]]) H (fun w' H => H)
  exact hst.out
attribute [local irreducible] Blk Ext RdS
theorem run_as (x : Value) (w : World) : (Instr.typeAssert (.iface 56 x) 20 58 true).run Tryz.prog w = .ok (.tuple #[.iface 56 x, .bool true]) w := by kernel_rfl
theorem parse1_ret (p2 p3 : Nat) (w : World) : DCl Tryz.prog 31 #[.pointer (some ⟨p2, 0, none⟩), .pointer (some ⟨p3, 0, none⟩)] .returning w (fun u w' => u = .returning ∧ Ext w w') := by
  refine DCl.recov2 (args := [.pointer (some ⟨p2, 0, none⟩), .pointer (some ⟨p3, 0, none⟩)]) T.ok Tryz.func31 rfl rfl rfl rfl (fun ρ w => rfl) rfl rfl rfl rfl rfl rfl rfl (.inl ⟨rfl, rfl, rfl⟩) ?_
  have H := Hp.begin nw w
  repeat' ((conv => whnf); first | refine ztS ?_ | (refine ztB ?_ ?_ <;> intro _ <;> try (exfalso; omega)) | (refine ztA ?_; clear H; intro _ _ H _) | fail)
  exact ⟨rfl, rfl, H.e⟩
theorem parse1_pan {w0 w : World} {q p2 p3 : Nat} {e : Int} {p : Nat} {c2 x y : Value} (hE : EG w0) (H : Hp nw w0 w [bk q 63 [.int .i64 e, .int .i64 (p : Int)], bk p3 27 [x, y], bk p2 24 [c2]]) :
    DCl Tryz.prog 31 #[.pointer (some ⟨p2, 0, none⟩), .pointer (some ⟨p3, 0, none⟩)] (.panicking (pk q)) w
      (fun u w' => u = .panicking [{ v := .iface 56 (.pointer (some ⟨q, 0, none⟩)), recovered := true }] ∧ Hp nw w0 w' [bk p3 27 [.int .i64 e, .int .i64 (p : Int)], bk p2 24 [.slice none 0 0]]) := by
  refine DCl.recov2 (args := [.pointer (some ⟨p2, 0, none⟩), .pointer (some ⟨p3, 0, none⟩)]) T.ok Tryz.func31 rfl rfl rfl rfl (fun ρ w => rfl) rfl rfl rfl rfl rfl rfl rfl (.inr ⟨_, rfl, rfl, rfl⟩) ?_
  repeat' ((conv => whnf); first | refine ztS ?_ | (refine ztB ?_ ?_ <;> intro _ <;> try (exfalso; omega)) | (refine ztW ?_; clear H; intro _ _ H _) | fail)
  ((conv => whnf); refine Al.hp H ?_; clear H; intro p5 _ H _)
  repeat' ((conv => whnf); first | refine ztS ?_ | (refine ztB ?_ ?_ <;> intro _ <;> try (exfalso; omega)) | (refine ztA ?_; clear H; intro _ _ H _) | fail)
  refine Sm.ran (run_as _ _) ?_
  repeat' ((conv => whnf); first | refine ztS ?_ | (refine ztB ?_ ?_ <;> intro _ <;> try (exfalso; omega)) | (refine ztA ?_; clear H; intro _ _ H _) | fail)
  ((conv => whnf); refine Cl.mk (as_c q p5 (.pointer none) _ (hE.ext H.e) (H.blk 0 rfl)) ?_)
  rintro _ w6 ⟨rfl, H'⟩
  replace H := H.updb H'
  clear H'
  repeat' ((conv => whnf); first | refine ztS ?_ | (refine ztB ?_ ?_ <;> intro _ <;> try (exfalso; omega)) | (refine ztA ?_; clear H; intro _ _ H _) | fail)
  exact ⟨rfl, rfl, H.sel [2, 2] rfl⟩
def PR (l : Bs) : Res (List Fnc) := if 16384 < l.length then .err 2 0 else parseP l (fuelOf l)
def OkP (l : Bs) (w : World) (v : Value) (w' : World) : Prop :=
  (∃ m ts A c, PR l = .ok (m.map FM.e) ts ∧ v = .tuple #[.agg #[.slice A m.length c], .agg #[.int .i64 0, .int .i64 0]] ∧ m.length ≤ 2000000 ∧ Hp nw w w' [qu FM.enc 3 34 A c m, fns m]) ∨
  (∃ e p, PR l = .err e p ∧ v = .tuple #[.agg #[.slice none 0 0], .agg #[.int .i64 e, .int .i64 (p : Int)]] ∧ Ext w w')
structure Rg (w : World) : Prop where
  tb : Tb w
  eg : EG w
theorem Rg.ext {w w' : World} (h : Rg w) (e : Ext w w') : Rg w' := ⟨h.tb.ext e, h.eg.ext e⟩
set_option maxHeartbeats 4000000 in
theorem Parse_c (l : Bs) (w : World) (hG : Rg w) : Cl Tryz.prog 12 #[.string (bs l)] w (OkP l w) (fun _ _ => False) := by
  refine calls_exd (args := [.string (bs l)]) T.ok Tryz.func12 rfl rfl rfl rfl ?_
  have H := Hp.begin nw w
  have hsz := bs_size l
  refine Sq.mk ?_
  ((conv => whnf); refine Al.hp H ?_; clear H; intro p2 _ H _)
  ((conv => whnf); refine Al.hp H ?_; clear H; intro p3 _ H _)
  by_cases hlong : 16384 < l.length
  · repeat' ((conv => whnf); first | refine ztS ?_ | (refine ztB ?_ ?_ <;> intro _ <;> try (exfalso; omega)) | (refine ztA ?_; clear H; intro _ _ H _) | fail)
    all_goals first | (exfalso; omega) | skip
    exact .inr ⟨2, 0, by unfold PR; rw [if_pos hlong], rfl, H.e⟩
  obtain ⟨R, hR⟩ : ∃ R, R = PR l := ⟨_, rfl⟩
  have hne : R ≠ .out := by
    rw [hR]; unfold PR; rw [if_neg hlong]
    intro e
    have := parse_fin l
    rw [e] at this
    exact this
  have hRp : R = parseP l (fuelOf l) := by rw [hR]; unfold PR; rw [if_neg hlong]
  unfold parseP at hRp
  repeat' ((conv => whnf); first | refine ztS ?_ | (refine ztB ?_ ?_ <;> intro _ <;> try (exfalso; omega)) | (refine ztW ?_; clear H; intro _ _ H _) | fail)
  all_goals first | (exfalso; omega) | skip
  ((conv => whnf); refine Al.hp H ?_; clear H; intro pr _ H _)
  repeat' ((conv => whnf); first | refine ztS ?_ | (refine ztB ?_ ?_ <;> intro _ <;> try (exfalso; omega)) | (refine ztA ?_; clear H; intro _ _ H _) | fail)
  have hfix : ∀ w', Hp nw w w' [bk pr 68 (rdrCs l 0 ⟨[], [], 0, 0, 0⟩), bk p3 27 [.int .i64 0, .int .i64 0], bk p2 24 [.slice none 0 0]] → Hp nw w w' [bk pr 68 (rdrCs l 0 ⟨[], [], 0, 0, 0⟩), bk p3 27 [.int .i64 0, .int .i64 0], bk p2 24 [.slice none 0 0]] := fun _ h => h
  replace H := hfix _ H
  clear hfix
  have hwl := words_len l (l.length + 1) 0
  replace H := Hp.toR (t := ⟨[], [], 0, 0, 0⟩) (r := words l (l.length + 1) 0) H (Nat.zero_le _) ⟨fun _ => rfl, by omega, by decide, by decide⟩
  have X : Txt l pr w := ⟨by assumption, hG.tb, by omega⟩
  have C := con_all X (fuelOf l)
  (conv => whnf)
  refine Cl.mkX (step_c false l pr (⟨[], [], 0, 0, 0⟩ :: words l (l.length + 1) 0) w _ H.e X.lo X.tb X.len (H.atC 0 rfl) (by show ([] : Bs) ≠ k_end; decide)) ?_ ?_
  rotate_left
  · rintro ch w9 ⟨e9, p9, q9, h9, rfl, H'⟩
    replace H := H.upd (c := rdr l pr (⟨[], [], 0, 0, 0⟩ :: words l (l.length + 1) 0)) H' rfl (.inl rfl)
    have hR9 : R = .err e9 p9 := by rw [hRp, h9]; rfl
    (conv => whnf)
    refine DCl.mono (parse1_pan hG.eg (H.sel [0, 0, 0] rfl)) ?_
    rintro _ w10 ⟨rfl, H2⟩
    replace H := H2
    repeat' ((conv => whnf); first | refine ztS ?_ | (refine ztB ?_ ?_ <;> intro _ <;> try (exfalso; omega)) | (refine ztA ?_; clear H; intro _ _ H _) | fail)
    exact .inr ⟨e9, p9, by rw [← hR, hR9], rfl, H.e⟩
  rintro _ w3 ⟨ts, h1, H'⟩
  replace H := H.upd (c := rdr l pr (⟨[], [], 0, 0, 0⟩ :: words l (l.length + 1) 0)) H' rfl (.inl rfl)
  clear H'
  rw [h1, Res.bind_ok] at hRp
  replace H := Hp.nil (Hp.fns0 H) FM.enc 3 34
  repeat' ((conv => whnf); first | refine ztT ?_ | (refine ztB ?_ ?_ <;> intro _ <;> try (exfalso; omega)) | (refine ztA ?_; clear H; intro _ _ H _) | fail)
  (conv => whnf)
  refine Dr.chXk T.ok mixed [0, 1, 2, 6] [3, 4, 5, 7] (by kernel_rfl) rfl rfl (fun w' => Blk w' p2 24 [.slice none 0 0]) (fun ch w' => ∃ e9 p9 q9 c9, R = .err e9 p9 ∧ ch = pk q9 ∧ Hp nw w w' [bk q9 63 [.int .i64 e9, .int .i64 (p9 : Int)], bk p3 27 [.int .i64 0, .int .i64 0], bk p2 24 [c9]])
    (fun ch w' h => ?_) (fun w1 eT _ => ?_)
  · obtain ⟨e9, p9, q9, c9, hR9, rfl, H⟩ := h
    (conv => whnf)
    refine DCl.mono (parse1_pan hG.eg H) ?_
    rintro _ w10 ⟨rfl, H2⟩
    replace H := H2
    repeat' ((conv => whnf); first | refine ztS ?_ | (refine ztB ?_ ?_ <;> intro _ <;> try (exfalso; omega)) | (refine ztA ?_; clear H; intro _ _ H _) | fail)
    exact .inr ⟨e9, p9, by rw [← hR, hR9], rfl, H.e⟩
  replace H := H.ext eT
  repeat' ((conv => whnf); first | refine QLd1.own (fun _ hw => hw) ?_ | refine QLd.own (fun _ hw => hw) ?_)
  (conv => whnf)
  refine ⟨H.blk 4 rfl, ?_⟩
  (conv => whnf)
  refine Cl.mkX (function_c X C (ts) _ H.e (H.atC 2 rfl) (Res.bind_out (by rw [← hRp]; exact hne))) ?_ ?_
  rotate_left
  · rintro ch w9 ⟨e9, p9, q9, h9, rfl, H'⟩
    replace H := H.upd (c := rdr l pr (ts)) H' rfl (.inl rfl)
    exact ⟨e9, p9, q9, _, by rw [hRp, h9]; rfl, rfl, H.sel [2, 2, 2] rfl⟩
  rintro _ w3 ⟨⟨n1, P1, c1, ps1, B1, d1, b1⟩, ts1, h2, rfl, H'⟩
  replace H := H.updn (c := rdr l pr (ts)) (Hp.swap H') rfl (.inl rfl) (.inl rfl)
  clear H'
  rw [h2, Res.bind_ok] at hRp
  (conv => whnf)
  refine ⟨H.blk 5 rfl, ?_⟩
  refine Sm.lith (cs := FM.enc ⟨n1, P1, c1, ps1, B1, d1, b1⟩) H T.ok (fun p5 w4 H _ => ?_)
  (conv => whnf)
  refine ⟨H.blk 6 rfl, ?_⟩
  refine Sm.ap1 (enc := FM.enc) ⟨n1, P1, c1, ps1, B1, d1, b1⟩ H T.ok ?_ ?_ (fun A' c' w6 H => ?_)
  · show (0 + 1) * 64 ≤ _; omega
  · show 0 + 1 ≤ _; omega
  simp only [List.cons_append, List.nil_append] at H
  (conv => whnf)
  refine ⟨H.blk 5 rfl, ?_⟩
  repeat' ((conv => whnf); first | refine ztT ?_ | (refine ztB ?_ ?_ <;> intro _ <;> try (exfalso; omega)) | (refine ztA ?_; clear H; intro _ _ H _) | fail)
  have hN : ts1.length ≤ l.length + 2 := (H.atC (c := rdr l pr ts1) 3 rfl).len
  generalize hN0 : ts1.length + 1 = N at hRp
  have hNb : N ≤ 1000010 := by omega
  replace H := Hp.swap (Hp.fnsS (l := []) (H.sel [0, 1, 0, 0, 0, 0] rfl))
  refine Lp.go T.ok (σ := Nat × Option Addr × Nat × List FM × List Tk) (fun q => [(2, .pointer (some ⟨p2, 0, none⟩)), (3, .pointer (some ⟨p3, 0, none⟩)), (4, .pointer (some ⟨pr, 0, none⟩))])
    (fun q w' => R = loopF (pf (fuelOf l)) q.1 (q.2.2.2.1.map FM.e) q.2.2.2.2 ∧ q.1 + q.2.2.2.1.length ≤ N + 1 ∧ Hp nw w w' [qu FM.enc 3 34 q.2.1 q.2.2.1 q.2.2.2.1, fns q.2.2.2.1, rdr l pr q.2.2.2.2, bk p3 27 [.int .i64 0, .int .i64 0], bk p2 24 [.slice q.2.1 q.2.2.2.1.length q.2.2.1]]) (fun q _ => q.1) (N, A', c', [⟨n1, P1, c1, ps1, B1, d1, b1⟩], ts1) ⟨rfl, rfl, rfl, trivial⟩ ⟨hRp, Nat.le_refl _, H⟩ ?_
  clear H hRp hN0 hN h2 h1
  rintro ⟨f, A, c, fs, ts⟩ w5 ⟨hRp, hN, H⟩
  simp only at hRp hN H ⊢
  cases f with
  | zero => exact absurd hRp hne
  | succ f =>
  simp only [loopF] at hRp
  obtain ⟨nx, t0, r0, rfl, hnx, hr0, hb0⟩ := H.atC (c := rdr l pr ts) 2 rfl
  replace H := Hp.ofR H hb0
  clear hb0
  by_cases hk : t0.kind = k_end
  · rw [if_pos (show curK (t0 :: r0) = k_end from hk)] at hRp
    repeat' ((conv => whnf); first | refine ztT ?_ | (refine ztB ?_ ?_ <;> intro _ <;> try (exfalso; omega)) | (refine ztA ?_; clear H; intro _ _ H _) | fail)
    (conv => whnf)
    refine DCl.mono (parse1_ret p2 p3 _) ?_
    rintro _ _ ⟨rfl, hx⟩
    replace H := H.ext hx
    clear hx
    refine ⟨rfl, ?_⟩
    repeat' ((conv => whnf); first | refine ztS ?_ | (refine ztB ?_ ?_ <;> intro _ <;> try (exfalso; omega)) | (refine ztA ?_; clear H; intro _ _ H _) | fail)
    exact .inl ⟨fs, t0 :: r0, A, c, by rw [← hR, hRp], rfl, by omega, H.sel [0, 0] rfl⟩
  rw [if_neg (show ¬ curK (t0 :: r0) = k_end from hk)] at hRp
  repeat' ((conv => whnf); first | refine ztT ?_ | (refine ztB ?_ ?_ <;> intro _ <;> try (exfalso; omega)) | (refine ztA ?_; clear H; intro _ _ H _) | fail)
  replace H := Hp.toR H hnx hr0
  (conv => whnf)
  refine Dr.chXk T.ok mixed [0, 1, 2, 6] [3, 4, 5, 7] (by kernel_rfl) rfl rfl (fun w' => Blk w' p2 24 [.slice A fs.length c]) (fun ch w' => ∃ e9 p9 q9 c9, R = .err e9 p9 ∧ ch = pk q9 ∧ Hp nw w w' [bk q9 63 [.int .i64 e9, .int .i64 (p9 : Int)], bk p3 27 [.int .i64 0, .int .i64 0], bk p2 24 [c9]])
    (fun ch w' h => ?_) (fun w1 eT _ => ?_)
  · obtain ⟨e9, p9, q9, c9, hR9, rfl, H⟩ := h
    (conv => whnf)
    refine DCl.mono (parse1_pan hG.eg H) ?_
    rintro _ w10 ⟨rfl, H2⟩
    replace H := H2
    repeat' ((conv => whnf); first | refine ztS ?_ | (refine ztB ?_ ?_ <;> intro _ <;> try (exfalso; omega)) | (refine ztA ?_; clear H; intro _ _ H _) | fail)
    exact .inr ⟨e9, p9, by rw [← hR, hR9], rfl, H.e⟩
  replace H := H.ext eT
  repeat' ((conv => whnf); first | refine QLd1.own (fun _ hw => hw) ?_ | refine QLd.own (fun _ hw => hw) ?_)
  (conv => whnf)
  refine ⟨H.blk 4 rfl, ?_⟩
  (conv => whnf)
  refine Cl.mkX (function_c X C (t0 :: r0) _ H.e (H.atC 2 rfl) (Res.bind_out (by rw [← hRp]; exact hne))) ?_ ?_
  rotate_left
  · rintro ch w9 ⟨e9, p9, q9, h9, rfl, H'⟩
    replace H := H.upd (c := rdr l pr (t0 :: r0)) H' rfl (.inl rfl)
    exact ⟨e9, p9, q9, _, by rw [hRp, h9]; rfl, rfl, H.sel [2, 2, 2] rfl⟩
  rintro _ w3 ⟨⟨n1, P1, c1, ps1, B1, d1, b1⟩, ts1, h2, rfl, H'⟩
  replace H := H.updn (c := rdr l pr (t0 :: r0)) (Hp.swap H') rfl (.inl rfl) (.inl rfl)
  clear H'
  rw [h2, Res.bind_ok] at hRp
  (conv => whnf)
  refine ⟨H.blk 5 rfl, ?_⟩
  refine Sm.lith (cs := FM.enc ⟨n1, P1, c1, ps1, B1, d1, b1⟩) H T.ok (fun p5 w4 H _ => ?_)
  (conv => whnf)
  refine ⟨H.blk 6 rfl, ?_⟩
  refine Sm.ap1 (enc := FM.enc) ⟨n1, P1, c1, ps1, B1, d1, b1⟩ H T.ok ?_ ?_ (fun A' c' w6 H => ?_)
  · show (fs.length + 1) * 64 ≤ _; omega
  · show fs.length + 1 ≤ _; omega
  simp only [List.cons_append, List.nil_append] at H
  (conv => whnf)
  refine ⟨H.blk 5 rfl, ?_⟩
  repeat' ((conv => whnf); first | refine ztT ?_ | (refine ztB ?_ ?_ <;> intro _ <;> try (exfalso; omega)) | (refine ztA ?_; clear H; intro _ _ H _) | fail)
  refine ⟨(f, A', c', fs ++ [⟨n1, P1, c1, ps1, B1, d1, b1⟩], ts1), ⟨rfl, rfl, rfl, trivial⟩, rfl, ⟨?_, ?_, ?_⟩, Nat.lt_succ_self f⟩
  · rw [hRp, List.map_append]; rfl
  · simp only [List.length_append, List.length_cons, List.length_nil]; omega
  · have hl1 : (fs ++ [(⟨n1, P1, c1, ps1, B1, d1, b1⟩ : FM)]).length = fs.length + 1 := by simp
    simp only [hl1]
    exact Hp.swap (Hp.fnsS (H.sel [0, 1, 0, 0, 0, 0] rfl))
end Go.Proofs.YtfnjodpehomgfaaGreatDoor
namespace Go.Proofs.YtfnjodpehomgfaaGreatDoor
open Go Go.Shelf
def itoa_ren : Go.Shelf.Ren := ⟨fun | 173 => 138 | 246 => 148 | 283 => 151 | 284 => 152 | 285 => 153 | 286 => 154 | 129 => 157 | 317 => 156 | 318 => 158 | 319 => 159 | 320 => 160 | 337 => 161 | 338 => 162 | n => n, fun | 2 => 2 | 3 => 3 | 9 => 9 | 4 => 4 | 171 => 191 | 0 => 0 | 53 => 170 | 37 => 88 | 5 => 5 | 173 => 194 | 212 => 198 | 51 => 167 | 20 => 20 | 213 => 199 | 46 => 154 | 232 => 202 | 233 => 203 | n => n, fun | 17 => 7 | 18 => 8 | 19 => 9 | n => n⟩
theorem itoa_lays : Go.Proofs.LaysM.n173 Tryz.prog itoa_ren := {
  mixed := by kernel_rfl,
  f129 := Tryz.func157.trans (congrArg some (by kernel_rfl)),
  f173 := Tryz.func138.trans (congrArg some (by kernel_rfl)),
  f246 := Tryz.func148.trans (congrArg some (by kernel_rfl)),
  f283 := Tryz.func151.trans (congrArg some (by kernel_rfl)),
  f284 := Tryz.func152.trans (congrArg some (by kernel_rfl)),
  f285 := Tryz.func153.trans (congrArg some (by kernel_rfl)),
  f286 := Tryz.func154.trans (congrArg some (by kernel_rfl)),
  f317 := Tryz.func156.trans (congrArg some (by kernel_rfl)),
  f318 := Tryz.func158.trans (congrArg some (by kernel_rfl)),
  f319 := Tryz.func159.trans (congrArg some (by kernel_rfl)),
  f320 := Tryz.func160.trans (congrArg some (by kernel_rfl)),
  f337 := Tryz.func161.trans (congrArg some (by kernel_rfl)),
  f338 := Tryz.func162.trans (congrArg some (by kernel_rfl)),
  t0 := Tryz.underlying0,
  a0 := Tryz.isAgg0,
  z0 := Tryz.sizeOf0,
  v0 := Tryz.zeroValue0,
  t2 := Tryz.underlying2,
  a2 := Tryz.isAgg2,
  z2 := Tryz.sizeOf2,
  v2 := Tryz.zeroValue2,
  t3 := Tryz.underlying3,
  a3 := Tryz.isAgg3,
  z3 := Tryz.sizeOf3,
  v3 := Tryz.zeroValue3,
  t4 := Tryz.underlying4,
  a4 := Tryz.isAgg4,
  z4 := Tryz.sizeOf4,
  v4 := Tryz.zeroValue4,
  t5 := Tryz.underlying5,
  a5 := Tryz.isAgg5,
  z5 := Tryz.sizeOf5,
  v5 := Tryz.zeroValue5,
  t9 := Tryz.underlying9,
  a9 := Tryz.isAgg9,
  z9 := Tryz.sizeOf9,
  v9 := Tryz.zeroValue9,
  t20 := Tryz.underlying20,
  a20 := Tryz.isAgg20,
  z20 := Tryz.sizeOf20,
  v20 := Tryz.zeroValue20,
  t37 := Tryz.underlying88,
  a37 := Tryz.isAgg88,
  z37 := Tryz.sizeOf88,
  v37 := Tryz.zeroValue88,
  t46 := Tryz.underlying154,
  a46 := Tryz.isAgg154,
  z46 := Tryz.sizeOf154,
  v46 := Tryz.zeroValue154,
  t51 := Tryz.underlying167,
  a51 := Tryz.isAgg167,
  z51 := Tryz.sizeOf167,
  v51 := Tryz.zeroValue167,
  t53 := Tryz.underlying170,
  a53 := Tryz.isAgg170,
  z53 := Tryz.sizeOf170,
  v53 := Tryz.zeroValue170,
  t171 := Tryz.underlying191,
  a171 := Tryz.isAgg191,
  z171 := Tryz.sizeOf191,
  v171 := Tryz.zeroValue191,
  t173 := Tryz.underlying194,
  a173 := Tryz.isAgg194,
  z173 := Tryz.sizeOf194,
  v173 := Tryz.zeroValue194,
  t212 := Tryz.underlying198,
  a212 := Tryz.isAgg198,
  z212 := Tryz.sizeOf198,
  v212 := Tryz.zeroValue198,
  t213 := Tryz.underlying199,
  a213 := Tryz.isAgg199,
  z213 := Tryz.sizeOf199,
  t232 := Tryz.underlying202,
  a232 := Tryz.isAgg202,
  z232 := Tryz.sizeOf202,
  v232 := Tryz.zeroValue202,
  t233 := Tryz.underlying203,
  a233 := Tryz.isAgg203,
  z233 := Tryz.sizeOf203,
  v233 := Tryz.zeroValue203,
  g17 := by kernel_rfl,
  g18 := by kernel_rfl,
  g19 := by kernel_rfl,
  i0 := by kernel_rfl,
  i2 := by kernel_rfl,
  i3 := by kernel_rfl,
  i4 := by kernel_rfl,
  i5 := by kernel_rfl,
  i9 := by kernel_rfl,
  i20 := by kernel_rfl,
  i37 := by kernel_rfl,
  i46 := by kernel_rfl,
  i51 := by kernel_rfl,
  i53 := by kernel_rfl,
  i171 := by kernel_rfl,
  i173 := by kernel_rfl,
  i212 := by kernel_rfl,
  i232 := by kernel_rfl,
  i233 := by kernel_rfl,
  m17 := by kernel_rfl,
  m18 := by kernel_rfl,
  m19 := by kernel_rfl }
end Go.Proofs.YtfnjodpehomgfaaGreatDoor
namespace Go.Tx
def Digs (s : Bs) : Prop := ∀ c ∈ s, digit c = true
theorem val_app (a : Bs) (c : UInt8) : val (a ++ [c]) = val a * 10 + (c.toNat - 48) := by simp [val]
theorem val_le (a : Bs) : ∀ b : Bs, val a ≤ val (a ++ b)
  | [] => by simp
  | c :: b => by
    have h := val_le (a ++ [c]) b
    rw [List.append_assoc] at h
    have h2 := val_app a c
    simp only [List.cons_append, List.nil_append] at h
    omega
theorem val_take (s : Bs) (q : Nat) : val (s.take q) ≤ val s := by
  have h := val_le (s.take q) (s.drop q)
  rwa [List.take_append_drop] at h
theorem dig_range {c : UInt8} (h : digit c = true) : 48 ≤ c.toNat ∧ c.toNat ≤ 57 := by simpa [digit] using h
theorem val_pos {a : Bs} (hd : Digs a) (hne : a ≠ []) (h0 : a.head?.map UInt8.toNat ≠ some 48) : 1 ≤ val a := by
  cases a with
  | nil => exact absurd rfl hne
  | cons c r =>
    have h1 := val_le [c] r
    have h2 := dig_range (hd c (by simp))
    simp only [List.head?_cons, Option.map_some, ne_eq, Option.some.injEq] at h0
    have h3 : val [c] = c.toNat - 48 := by simp [val]
    simp only [List.cons_append, List.nil_append] at h1
    omega
theorem of_nat {c : UInt8} {n : Nat} (h : c.toNat = n) : UInt8.ofNat n = c := by rw [← h]; simp
theorem dec_val : ∀ (n : Nat) (s : Bs), s.length = n → Digs s → s ≠ [] → s.head?.map UInt8.toNat ≠ some 48 → Go.Lib.decDigits (val s) = s
  | 0, s, hn, _, hne, _ => absurd (List.eq_nil_of_length_eq_zero hn) hne
  | n + 1, s, hn, hd, hne, h0 => by
    obtain ⟨a, c, rfl⟩ : ∃ a c, s = a ++ [c] := ⟨s.dropLast, s.getLast hne, (List.dropLast_concat_getLast hne).symm⟩
    have hc := dig_range (hd c (by simp))
    rw [val_app]
    by_cases ha : a = []
    · subst ha
      simp only [show val ([] : Bs) = 0 from rfl, Nat.zero_mul, Nat.zero_add, List.nil_append]
      rw [Go.Lib.decDigits, dif_pos (by omega), of_nat (c := c) (by omega)]
    · have hda : Digs a := fun x hx => hd x (by simp [hx])
      have hh : a.head? = (a ++ [c]).head? := by cases a with
        | nil => exact absurd rfl ha
        | cons x r => rfl
      rw [← hh] at h0
      have hp := val_pos hda ha h0
      have ih := dec_val n a (by simpa using hn) hda ha h0
      rw [Go.Lib.decDigits, dif_neg (by omega)]
      have h1 : (val a * 10 + (c.toNat - 48)) / 10 = val a := by omega
      have h2 : (val a * 10 + (c.toNat - 48)) % 10 = c.toNat - 48 := by omega
      rw [h1, h2, ih, of_nat (c := c) (by omega)]
theorem dec_ne (m : Nat) : Go.Lib.decDigits m ≠ [] := by
  rw [Go.Lib.decDigits]
  split <;> simp
theorem dec_head (m : Nat) : 1 ≤ m → (Go.Lib.decDigits m).head?.map UInt8.toNat ≠ some 48 := by
  induction m using Nat.strongRecOn with
  | _ m ih =>
    intro hm
    rw [Go.Lib.decDigits]
    split
    · rename_i h
      simp only [List.head?_cons, Option.map_some, ne_eq, Option.some.injEq, UInt8.toNat_ofNat']
      omega
    · rename_i h
      have hne := dec_ne (m / 10)
      have := ih (m / 10) (by omega) (by omega)
      cases hx : Go.Lib.decDigits (m / 10) with
      | nil => exact absurd hx hne
      | cons x r => rw [hx] at this; exact this
theorem neg_itoa {s : Bs} (hd : Digs s) (hne : s ≠ []) : Go.Lib.itoa (-(val s : Int)) = 45 :: s ↔ s.head?.map UInt8.toNat ≠ some 48 := by
  unfold Go.Lib.itoa
  constructor
  · intro h h0
    by_cases hv : val s = 0
    · rw [hv, if_neg (by decide)] at h
      rw [Go.Lib.decDigits, dif_pos (by decide)] at h
      simp at h
    · rw [if_pos (by omega)] at h
      have h1 : (-(val s : Int)).natAbs = val s := by omega
      rw [h1] at h
      have h2 := (List.cons.inj h).2
      have h3 := dec_head (val s) (by omega)
      rw [h2] at h3
      exact h3 h0
  · intro h0
    have hp := val_pos hd hne h0
    rw [if_pos (by omega), show (-(val s : Int)).natAbs = val s by omega, dec_val _ s rfl hd hne h0]
end Go.Tx
namespace Go.Proofs.YtfnjodpehomgfaaGreatDoor
open Go Go.Sh Go.Tx
theorem ext_grow (w : World) (k : Nat) (os : Array Obj) : Ext w (Go.Sort.grow (w.drewN k) os) :=
  ⟨rfl, rfl, rfl, by simp [Go.Sort.grow, World.drewN], fun i hi => by
    show (w.heap ++ os)[i]? = w.heap[i]?
    exact Array.getElem?_append_left hi⟩
attribute [local irreducible] Blk Ext RdS
abbrev Pow (w : World) : Prop := Go.Lib.TabIs Tryz.prog w "internal/strconv.uint64pow10" .u64 Go.Lib.pow10Tab
theorem format_c (n : Int) (w : World) (h0 : -9223372036854775808 ≤ n) (h1 : n ≤ 9223372036854775807) (hP : Pow w) :
    Cl Tryz.prog 124 #[.int .i64 n] w (fun v w' => v = .string (bs (Go.Lib.itoa n)) ∧ Ext w w') (fun _ _ => False) := by
  have hc : Cl Tryz.prog 138 #[.int .i64 n, .int .i64 10] w (fun v w' => v = .string (bs (Go.Lib.itoa n)) ∧ Ext w w') (fun _ _ => False) := by
    refine ⟨Calls.mono (show Calls Tryz.prog 138 #[.int .i64 n, .int .i64 10] w _ from Any.strconv_FormatInt_10 itoa_lays n h0 h1 w hP) ?_⟩
    rintro e w' ⟨rfl, k, os, rfl⟩
    exact ⟨rfl, ext_grow w k os⟩
  refine calls_ex (args := [.int .i64 n]) T.ok Tryz.func124 rfl rfl rfl rfl ?_
  have H := Hp.begin nw w
  repeat' ((conv => whnf); first | refine ztS ?_ | (refine ztB ?_ ?_ <;> intro _ <;> try (exfalso; omega)) | (refine ztA ?_; clear H; intro _ _ H _) | fail)
  (((conv => whnf); refine Cl.mk (hc) ?_); rintro _ _ ⟨rfl, hx⟩; replace H := H.ext hx; clear hx)
  repeat' ((conv => whnf); first | refine ztS ?_ | (refine ztB ?_ ?_ <;> intro _ <;> try (exfalso; omega)) | (refine ztA ?_; clear H; intro _ _ H _) | fail)
  exact ⟨rfl, H.e⟩
theorem run_quo {P : Program} {t : Nat} {a b : Int} {xo yo : Operand} (hb : b ≠ 0) (w : World) : (do eqGuard .quo t xo yo (.int .i64 a) (.int .i64 b); binOp .quo t (.int .i64 a) (.int .i64 b) : Sem Value).run P w = .ok (.int .i64 (IntKind.i64.wrap (a.tdiv b))) w := by
  have hg : (eqGuard .quo t xo yo (.int .i64 a) (.int .i64 b)).run P w = .ok () w := by unfold eqGuard; simp
  simp [hg, binOp, Op.intDiv, hb]
theorem quo_ten {d : Nat} (h : d ≤ 9) : IntKind.i64.wrap (Int.tdiv (IntKind.i64.wrap (-9223372036854775808 + (d : Int))) 10) = -(((9223372036854775808 - d) / 10 : Nat) : Int) := by
  have h1 : IntKind.i64.wrap (-9223372036854775808 + (d : Int)) = -((9223372036854775808 - d : Nat) : Int) := by
    rw [show (-9223372036854775808 + (d : Int)) = -((9223372036854775808 - d : Nat) : Int) by omega]
    exact w64 rfl (by omega) (by omega)
  rw [h1, Int.neg_tdiv, Int.tdiv_eq_ediv_of_nonneg (by omega)]
  exact w64 (by omega) (by omega) (by omega)
theorem parse_c (s : Bs) (w : World) (hd : AllDig s) (hne : s ≠ []) (h48 : s ≠ [48]) (hP : ∀ w', Ext w w' → Pow w') :
    Cl Tryz.prog 108 #[.string (bs (45 :: s))] w (fun v w' => ∃ n e, v = .tuple #[.int .i64 n, .int .i64 e] ∧ (negOf s = some n ∧ e = 0 ∨ negOf s = none ∧ n = 0 ∧ e ≠ 0) ∧ Ext w w') (fun _ _ => False) := by
  refine calls_ex (args := [.string (bs (45 :: s))]) T.ok Tryz.func108 rfl rfl rfl rfl ?_
  have H := Hp.begin nw w
  have hsz := bs_size (45 :: s)
  rw [List.length_cons] at hsz
  by_cases hlong : 19 < s.length
  · have hn : negOf s = none := by unfold negOf; rw [if_neg h48, if_pos (.inl hlong)]
    repeat' ((conv => whnf); first | refine ztS ?_ | (refine ztB ?_ ?_ <;> intro _ <;> try (exfalso; omega)) | (refine ztA ?_; clear H; intro _ _ H _) | fail)
    all_goals first | (exfalso; omega) | skip
    exact ⟨0, 2, rfl, .inr ⟨hn, rfl, by decide⟩, H.e⟩
  repeat' ((conv => whnf); first | refine ztS ?_ | (refine ztB ?_ ?_ <;> intro _ <;> try (exfalso; omega)) | (refine ztA ?_; clear H; intro _ _ H _) | fail)
  all_goals first | (exfalso; omega) | skip
  refine Sm.srange H T.ok (fun r w1 H hr => ?_)
  repeat' ((conv => whnf); first | refine ztS ?_ | (refine ztB ?_ ?_ <;> intro _ <;> try (exfalso; omega)) | (refine ztA ?_; clear H; intro _ _ H _) | fail)
  refine Lp.g0 T.ok (σ := Nat) (fun p => [(4, .int .i64 (-(val (s.take (p - 1)) : Int))), (5, .bool (decide (p ≠ 0))), (6, .int .i64 ((p - 1 : Nat) : Int)), (14, .pointer (some ⟨r, 0, none⟩)), (0, .string (bs (45 :: s))), (2, .int .i64 0), (3, .int .i64 0)])
    (fun p w' => p ≤ s.length + 1 ∧ val (s.take (p - 1)) ≤ 9223372036854775808 ∧ Hp nw w w' [si r (45 :: s) p]) (fun p _ => s.length + 1 - p) 0 rfl ⟨at_val rfl (by simp [val]), rfl, rfl, rfl, rfl, rfl, rfl, trivial⟩ ⟨Nat.zero_le _, by simp [val], H⟩ ?_
  clear H
  rintro p w5 ⟨hp, hv, H⟩
  have h45 : UInt8.toNat 45 = 45 := rfl
  have hfin : negOf s = if 9223372036854775808 < val s ∨ s.head?.map UInt8.toNat = some 48 then none else some (-(val s : Int)) := by
    unfold negOf
    rw [if_neg h48]
    by_cases h : 9223372036854775808 < val s ∨ s.head?.map UInt8.toNat = some 48
    · rw [if_pos (.inr h), if_pos h]
    · rw [if_neg (fun e => e.elim hlong h), if_neg h]
  cases p with
  | zero =>
    repeat' ((conv => whnf); first | refine ztS ?_ | (refine ztB ?_ ?_ <;> intro _ <;> try (exfalso; omega)) | (refine ztA ?_; clear H; intro _ _ H _) | fail)
    refine Sm.snext (b := 45) H rfl (by decide) (fun w6 H => ?_)
    simp only [List.nil_append] at H
    repeat' ((conv => whnf); first | refine ztS ?_ | (refine ztB ?_ ?_ <;> intro _ <;> try (exfalso; omega)) | (refine ztA ?_; clear H; intro _ _ H _) | fail)
    all_goals first | (exfalso; omega) | skip
    exact ⟨1, ⟨at_val rfl (by simp [val]), rfl, rfl, rfl, rfl, rfl, rfl, trivial⟩, rfl, ⟨by omega, by simp [val], H⟩, by omega⟩
  | succ q =>
    simp only [Nat.add_sub_cancel] at hv
    by_cases hq : q < s.length
    · obtain ⟨c, hc⟩ : ∃ c, s[q]? = some c := ⟨_, List.getElem?_eq_getElem hq⟩
      obtain ⟨hc1, hc2⟩ := List.getElem?_eq_some_iff.1 hc
      have hdc := hd c (List.mem_of_getElem? hc)
      simp only [digit, decide_eq_true_eq] at hdc
      have htk : s.take (q + 1) = s.take q ++ [c] := by rw [List.take_add_one, hc]; rfl
      have hval : val (s.take (q + 1)) = val (s.take q) * 10 + (c.toNat - 48) := by rw [htk]; simp [val]
      repeat' ((conv => whnf); first | refine ztS ?_ | (refine ztB ?_ ?_ <;> intro _ <;> try (exfalso; omega)) | (refine ztA ?_; clear H; intro _ _ H _) | fail)
      refine Sm.snext (b := c) H (show (45 :: s)[q + 1]? = some c from hc) (by omega) (fun w6 H => ?_)
      simp only [List.nil_append] at H
      repeat' ((conv => whnf); first | refine ztS ?_ | (refine ztB ?_ ?_ <;> intro _ <;> try (exfalso; omega)) | (refine ztA ?_; clear H; intro _ _ H _) | fail)
      all_goals first | (exfalso; omega) | skip
      generalize hdn : c.toNat - 48 = d at hval
      have hd9 : d ≤ 9 := by omega
      have hwd : IntKind.i64.wrap (IntKind.i32.wrap ((c.toNat : Int) - 48)) = (d : Int) := by
        rw [show ((c.toNat : Int) - 48) = (d : Int) by omega]
        simp [IntKind.wrap, IntKind.signed, IntKind.bits]
        omega
      (conv => whnf)
      rw [hwd]
      refine Sm.ran (run_quo (by decide) _) ?_
      rw [quo_ten hd9]
      repeat' ((conv => whnf); first | refine ztS ?_ | (refine ztB ?_ ?_ <;> intro _ <;> try (exfalso; omega)) | (refine ztA ?_; clear H; intro _ _ H _) | fail)
      · rename_i hlt
        simp only [Nat.add_sub_cancel] at hlt
        have hvl := val_take s (q + 1)
        repeat' ((conv => whnf); first | refine ztS ?_ | (refine ztB ?_ ?_ <;> intro _ <;> try (exfalso; omega)) | (refine ztA ?_; clear H; intro _ _ H _) | fail)
        exact ⟨0, 4, rfl, .inr ⟨by rw [hfin, if_pos (.inl (by omega))], rfl, by decide⟩, H.e⟩
      · rename_i hlt
        simp only [Nat.add_sub_cancel] at hlt
        repeat' ((conv => whnf); first | refine ztS ?_ | (refine ztB ?_ ?_ <;> intro _ <;> try (exfalso; omega)) | (refine ztA ?_; clear H; intro _ _ H _) | fail)
        have h10 : IntKind.i64.wrap (-(val (s.take q) : Int) * 10) = -((val (s.take q) * 10 : Nat) : Int) := w64 (by omega) (by omega) (by omega)
        have hnew : IntKind.i64.wrap (IntKind.i64.wrap (-(val (s.take q) : Int) * 10) - (d : Int)) = -(val (s.take (q + 1)) : Int) := by
          rw [h10]
          exact w64 (by omega) (by omega) (by omega)
        refine ⟨q + 1 + 1, ⟨at_int rfl hnew, at_val rfl (by simp), at_int rfl (w64 (by omega) (by omega) (by omega)), rfl, rfl, rfl, rfl, trivial⟩, rfl, ⟨by omega, ?_, H⟩, by omega⟩
        show val (s.take (q + 1)) ≤ _
        omega
    · have hql : q = s.length := by omega
      subst hql
      have hs1 : 1 ≤ s.length := by
        cases s with
        | nil => exact absurd rfl hne
        | cons x r => simp
      have htk : s.take (s.length + 1 - 1) = s := by simp
      have hvs : val (s.take (s.length + 1 - 1)) ≤ 9223372036854775808 := by rw [htk]; rwa [List.take_length] at hv
      have hin := neg_itoa hd hne
      repeat' ((conv => whnf); first | refine ztS ?_ | (refine ztB ?_ ?_ <;> intro _ <;> try (exfalso; omega)) | (refine ztA ?_; clear H; intro _ _ H _) | fail)
      refine Sm.send (l := 45 :: s) (p := s.length + 1) H (Nat.le_refl _) ?_
      repeat' ((conv => whnf); first | refine ztS ?_ | (refine ztB ?_ ?_ <;> intro _ <;> try (exfalso; omega)) | (refine ztA ?_; clear H; intro _ _ H _) | fail)
      all_goals first | (exfalso; omega) | skip
      (((conv => whnf); refine Cl.mk (format_c _ _ (by omega) (by omega) (hP _ H.e)) ?_); rintro _ _ ⟨rfl, hx⟩; replace H := H.ext hx; clear hx)
      repeat' ((conv => whnf); first | refine ztS ?_ | (refine ztB ?_ ?_ <;> intro _ <;> try (exfalso; omega)) | (refine ztA ?_; clear H; intro _ _ H _) | fail)
      · rename_i hb
        rw [bs_eq, htk] at hb
        have h1 := hin.1 (of_decide_eq_true hb)
        repeat' ((conv => whnf); first | refine ztS ?_ | (refine ztB ?_ ?_ <;> intro _ <;> try (exfalso; omega)) | (refine ztA ?_; clear H; intro _ _ H _) | fail)
        refine ⟨-(val (s.take (s.length + 1 - 1)) : Int), 0, rfl, .inl ⟨?_, rfl⟩, H.e⟩
        rw [hfin, htk, if_neg]
        rw [htk] at hvs
        intro e
        rcases e with e | e
        · omega
        · exact h1 e
      · rename_i hb
        rw [bs_eq, htk] at hb
        have h1 : s.head?.map UInt8.toNat = some 48 := Classical.byContradiction fun e => of_decide_eq_false hb (hin.2 e)
        repeat' ((conv => whnf); first | refine ztS ?_ | (refine ztB ?_ ?_ <;> intro _ <;> try (exfalso; omega)) | (refine ztA ?_; clear H; intro _ _ H _) | fail)
        exact ⟨0, 4, rfl, .inr ⟨by rw [hfin, if_pos (.inr h1)], rfl, by decide⟩, H.e⟩
end Go.Proofs.YtfnjodpehomgfaaGreatDoor
namespace Go.Sh
open Go.RowKit Go.ChangeShapes
section
variable {H : Type} {enc : TypeId × Value → H} {P : Program}
theorem sameAt_ext {w w' : World} (e : Ext w w') {p : MemPlace} (h : p.block < w.heap.size) : w.sameAt w' p := by
  cases p with
  | cell b off => exact Below.cell e h
  | map b => exact Below.block e b h
theorem trodAll_ext {w w' : World} (e : Ext w w') {base : Nat} {spare : Nat → Bool} {held : Bool} : ∀ {ts : List TypeId} {vs : List Value} {ds : List (DataW H)} {ps : List MemPlace},
    DataW.TrodAll enc P w base spare held ts vs ds ps → (∀ p ∈ ps, p.block < w.heap.size) → DataW.TrodAll enc P w' base spare held ts vs ds ps
  | [], [], [], _, h, _ => h
  | _ :: _, _ :: _, _ :: _, _, ⟨p, q, ⟨n, hn⟩, h2, he⟩, hlt =>
    ⟨p, q, ⟨n, DataW.trod_carry n _ _ _ hn fun x hx => sameAt_ext e (hlt x (by rw [he]; exact List.mem_append_left _ hx))⟩, trodAll_ext e h2 (fun x hx => hlt x (by rw [he]; exact List.mem_append_right _ hx)), he⟩
theorem keptBut_ext {w w' : World} (e : Ext w w') (may : MemPlace → Prop) : w.keptBut w' may := by
  refine ⟨Below.os e, Below.output e, fun i hi => ?_⟩
  rw [Below.block e i hi]
  cases w.heap[i]? with
  | none => rfl
  | some o => cases o <;> first | exact ⟨rfl, rfl, rfl, fun _ _ => rfl⟩ | exact .inr ⟨rfl, rfl⟩ | rfl
theorem post_kept (K : Kids P (· < P.types.size)) (hz : ∀ t e, t < P.types.size → P.underlying t = some (.slice e) → 0 < P.cellsOf e) {f : Func} {s : ChangeSpec} {apart fresh handsOn : Bool} {W W' : World} {args : Array Value} {ds gs : List (DataW H)} {before : List MemPlace} {t : TypeId}
    (hW : DataW.Whole enc P f.params.toList s.vars apart W args.toList ds gs before) (hts : ∀ t ∈ f.params.toList, t < P.types.size) (hv : s.vars = []) (e : Ext W W')
    (hfn : s.fn H (ds ++ []) = { results := [.lit (.bool true)], args := ds }) (hr : f.resultTypes = #[t]) (ht : P.underlying t = some .bool) :
    s.post enc P f apart fresh handsOn false W args (.bool true) W' := by
  have hlt := hW.lt
  have hW0 := hW
  obtain ⟨p, q, h1, h2, rfl, _⟩ := hW0
  rw [hv] at h2
  obtain ⟨rfl, rfl⟩ := trodVars_none h2
  rw [List.append_nil] at hlt
  refine ⟨ds, [], p ++ [], [], p, [], hW, ?_, ?_, ?_, keptBut_ext e _, fun h => by cases h⟩
  · rw [hfn, hr]
    exact ⟨[], [], shut_bool ht true, rfl, rfl⟩
  · rw [hfn]
    refine DataW.TrodAll.respare K hz hts (trodAll_ext e h1 hlt) fun x hx => ?_
    simpa using hlt x hx
  · rw [hfn, hv]; rfl
theorem cell_lt {w : World} {a : Addr} {v : Value} (h : w.cell? a = some v) : a.block < w.heap.size := by
  unfold World.cell? at h
  split at h
  · rename_i h1
    exact (Array.getElem?_eq_some_iff.1 h1).1
  · simp at h
theorem exists_list {α : Type} {Q : Nat → α → Prop} : ∀ (n : Nat), (∀ i, i < n → ∃ a, Q i a) → ∃ l : List α, l.length = n ∧ ∀ (i : Nat) (a : α), l[i]? = some a → Q i a
  | 0, _ => ⟨[], rfl, fun i a h => by simp at h⟩
  | n + 1, h => by
    obtain ⟨l, h1, h2⟩ := exists_list (Q := Q) n fun i hi => h i (by omega)
    obtain ⟨a, ha⟩ := h n (by omega)
    refine ⟨l ++ [a], by simp [h1], fun i b hb => ?_⟩
    rcases Nat.lt_or_ge i l.length with hl | hl
    · rw [List.getElem?_append_left hl] at hb; exact h2 i b hb
    · have : i = l.length := by have := (List.getElem?_eq_some_iff.1 hb).1; simp at this; omega
      subst this
      simp at hb; subst hb
      rw [h1]; exact ha
variable {w : World} {sp : Nat → Bool} {held : Bool} {fuel : Nat} {t : TypeId} {cs : List Value} {x : DataW H × List MemPlace}
theorem read_int {k : IntKind} (ht : P.underlying t = some (.int k)) (h : DataW.trod enc P w 0 sp held fuel t cs = some x) : ∃ n, cs = [.int k n] ∧ (Lit.int k n).wf = true ∧ x.1 = .lit (.int k n) := by
  cases fuel with
  | zero => simp [DataW.trod] at h
  | succ n =>
    unfold DataW.trod at h
    rw [ht] at h
    simp only at h
    split at h <;> try (rename_i he; simp at he; done)
    all_goals first
      | (rename_i k1 k2 m he
         simp only [Option.some.injEq, TypeDesc.int.injEq] at he
         subst he
         split at h
         · rename_i hc
           obtain ⟨rfl, hw⟩ := hc
           simp at h; subst h
           exact ⟨m, rfl, hw, rfl⟩
         · simp at h)
      | simp at h
end
end Go.Sh
namespace Go.Proofs.YtfnjodpehomgfaaGreatDoor
open Go Go.Sh Go.Tx
attribute [local irreducible] Blk Ext RdS
theorem u_string : Tryz.prog.underlying 9 = some .string := (T.ok.1.get (t := 9) (i := T.t9) rfl).1
theorem c_string : Tryz.prog.cellsOf 9 = 1 := by kernel_rfl
abbrev sE : Bs → List Value := fun b => [Value.string (bs b)]
def strD {H : Type} (l : List Bs) : List (DataW H) := l.map fun b => .lit (.string b)
theorem str_cell {H : Type} {enc : TypeId × Value → H} {w : World} {sp : Nat → Bool} {held : Bool} {fuel : Nat} {cs : List Value} {x : DataW H × List MemPlace} {b : Bs} (h : DataW.trod enc Tryz.prog w 0 sp held fuel 9 cs = some x) (hx : x.1 = .lit (.string b)) : cs = [.string (bs b)] := by
  obtain ⟨s, rfl, rfl, _⟩ := DataW.trod_string u_string h
  simp only [DataW.lit.injEq, Lit.string.injEq] at hx
  rw [← hx, ← bs_of]
theorem tab_str {name : String} {g t n : Nat} {l : List Bs} {rest : List (String × DataW Unit)} {w : World} (hg : Tryz.prog.globalNamed name = some g) (hty : (Tryz.prog.globals[g]?).map (·.type) = some t)
    (hu : Tryz.prog.underlying t = some (.array n 9)) (hn : l.length = n) (hct : Tryz.prog.cellsOf t = n) (h : laidMet Tryz.prog ((name, .agg (strD l)) :: rest) w) : RdS sE 1 w (some ⟨g, 0, none⟩) l := by
  obtain ⟨ps, ⟨g', t', cs, fuel, p, q, hg', ht', hvar, hd, _, _⟩, _⟩ := h
  obtain rfl := Option.some.inj (hg.symm.trans hg')
  obtain rfl := Option.some.inj (hty.symm.trans ht')
  obtain ⟨xs, m, _, hx, hl, hxs, hf⟩ := DataW.trod_array hu hd
  rw [hct] at hl
  rw [c_string] at hf
  have hxs2 : xs.map (·.1) = strD l := by
    have := congrArg Prod.fst hx
    simp only [DataW.agg.injEq] at this
    exact this.symm
  have hblk : ∃ tt fr cs0, w.heap[g]? = some (.cells cs0 tt fr) ∧ cs0.toList = cs.toList := by
    simp only [World.var?, hg, Option.bind_some] at hvar
    split at hvar
    · rename_i c1 t1 f1 hh
      simp at hvar; subst hvar
      exact ⟨t1, f1, _, hh, rfl⟩
    · simp at hvar
  obtain ⟨tt, fr, cs0, hb, hcs0⟩ := hblk
  unfold RdS
  refine ⟨fun _ => ⟨by simp, (Array.getElem?_eq_some_iff.1 hb).1⟩, fun i b hb2 => ⟨sE b, rfl, rfl, fun j v hv => ?_⟩⟩
  have hi : i < n := by rw [← hn]; exact (List.getElem?_eq_some_iff.1 hb2).1
  have h3 := hf i hi
  rw [List.getElem?_eq_getElem (by omega)] at h3
  have h4 : (xs.map (·.1))[i]? = some (.lit (.string b)) := by rw [hxs2, strD, List.getElem?_map, hb2]; rfl
  rw [List.getElem?_map, List.getElem?_eq_getElem (by omega)] at h4
  have h5 := str_cell h3 (Option.some.inj h4)
  have hj : j = 0 := by
    have := (List.getElem?_eq_some_iff.1 hv).1
    simp [sE] at this; omega
  subst hj
  simp only [gA]
  rw [add_lit]
  simp only [World.cell?, hb]
  rw [Nat.zero_add, ← Array.getElem?_toList]
  have h6 := congrArg (·[0]?) h5
  simp only [List.getElem?_cons_zero] at h6
  rw [List.getElem?_take_of_lt (by omega), List.getElem?_drop] at h6
  rw [hcs0]
  rw [← hv]
  exact h6
theorem u_strs : Tryz.prog.underlying 31 = some (.slice 9) := (T.ok.1.get (t := 31) (i := T.t31) rfl).1
theorem c_strs : Tryz.prog.cellsOf 31 = 1 := by kernel_rfl
theorem strs_cell {H : Type} {enc : TypeId × Value → H} {w : World} {sp : Nat → Bool} {held : Bool} {fuel : Nat} {cs : List Value} {x : DataW H × List MemPlace} {l : List Bs} {r : List (DataW H)}
    (h : DataW.trod enc Tryz.prog w 0 sp held fuel 31 cs = some x) (hx : x.1 = .slice (strD l) r) : ∃ (A : Option Addr) (c : Nat), cs = [.slice A l.length c] ∧ RdS sE 1 w A l := by
  rcases DataW.trod_slice u_strs h with ⟨rfl, rfl⟩ | ⟨a, len, cap, elems, rest, n, _, rfl, rfl, _, hl, hm, hlen, hel, _⟩
  · simp at hx
  simp only [DataW.slice.injEq] at hx
  have hll : l.length = len := by
    have := congrArg List.length hx.1
    simp only [List.length_map, strD] at this
    omega
  refine ⟨some a, cap, by rw [hll], ?_⟩
  rw [c_string] at hel
  have hcell : ∀ i b, l[i]? = some b → w.cell? (a.add (i * 1)) = some (.string (bs b)) := by
    intro i b hb
    have hi : i < len := by rw [← hll]; exact (List.getElem?_eq_some_iff.1 hb).1
    have h1 := hel i hi
    rw [List.getElem?_eq_getElem (by omega), Option.bind_eq_some_iff] at h1
    obtain ⟨vs, hv, hy⟩ := h1
    have h4 : (elems.map (·.1))[i]? = some (.lit (.string b)) := by rw [hx.1, strD, List.getElem?_map, hb]; rfl
    rw [List.getElem?_map, List.getElem?_eq_getElem (by omega)] at h4
    have h5 := str_cell hy (Option.some.inj h4)
    subst h5
    unfold World.cells? at hv
    rw [if_pos (Nat.zero_le _)] at hv
    obtain ⟨u, hu1, hu2⟩ := Lib.mapM_at hv 0 0 (by simp)
    simp at hu1; subst hu1
    exact hu2
  unfold RdS
  refine ⟨fun hn => ⟨by simp, ?_⟩, fun i b hb => ⟨sE b, rfl, rfl, fun j v hv => ?_⟩⟩
  · obtain ⟨b, hb⟩ : ∃ b, l[0]? = some b := ⟨l[0]'(List.length_pos_iff.2 hn), List.getElem?_eq_getElem _⟩
    have := hcell 0 b hb
    simp only [gA]
    rw [← block_add a (0 * 1)]
    exact cell_lt this
  · have hj : j = 0 := by
      have := (List.getElem?_eq_some_iff.1 hv).1
      simp [sE] at this; omega
    subst hj
    simp only [gA, Nat.add_zero]
    rw [hcell i b hb]
    exact hv
theorem tab_lvl {name : String} {g t n : Nat} {ls : List (List Bs)} {rest : List (String × DataW Unit)} {w : World} (hg : Tryz.prog.globalNamed name = some g) (hty : (Tryz.prog.globals[g]?).map (·.type) = some t)
    (hu : Tryz.prog.underlying t = some (.array n 31)) (hn : ls.length = n) (hct : Tryz.prog.cellsOf t = n) (h : laidMet Tryz.prog ((name, .agg (ls.map fun l => .slice (strD l) [])) :: rest) w) :
    ∃ As : List (Option Addr × Nat), As.length = n ∧ RdS (fun x : Option Addr × Nat × Nat => [Value.slice x.1 x.2.1 x.2.2]) 1 w (some ⟨g, 0, none⟩) ((As.zip ls).map fun x => (x.1.1, x.2.length, x.1.2)) ∧ ∀ x ∈ As.zip ls, RdS sE 1 w x.1.1 x.2 := by
  obtain ⟨ps, ⟨g', t', cs, fuel, p, q, hg', ht', hvar, hd, _, _⟩, _⟩ := h
  obtain rfl := Option.some.inj (hg.symm.trans hg')
  obtain rfl := Option.some.inj (hty.symm.trans ht')
  obtain ⟨xs, m, _, hx, hl, hxs, hf⟩ := DataW.trod_array hu hd
  rw [hct] at hl
  rw [c_strs] at hf
  have hxs2 : xs.map (·.1) = ls.map fun l => .slice (strD l) [] := by
    have := congrArg Prod.fst hx
    simp only [DataW.agg.injEq] at this
    exact this.symm
  have hblk : ∃ tt fr cs0, w.heap[g]? = some (.cells cs0 tt fr) ∧ cs0.toList = cs.toList := by
    simp only [World.var?, hg, Option.bind_some] at hvar
    split at hvar
    · rename_i c1 t1 f1 hh
      simp at hvar; subst hvar
      exact ⟨t1, f1, _, hh, rfl⟩
    · simp at hvar
  obtain ⟨tt, fr, cs0, hb, hcs0⟩ := hblk
  obtain ⟨As, hA1, hA2⟩ := exists_list (α := Option Addr × Nat) (Q := fun i A => ∀ l, ls[i]? = some l → (cs.toList.drop (i * 1)).take 1 = [.slice A.1 l.length A.2] ∧ RdS sE 1 w A.1 l) n (fun i hi => by
    have h3 := hf i hi
    rw [List.getElem?_eq_getElem (by omega)] at h3
    obtain ⟨l, hli⟩ : ∃ l, ls[i]? = some l := ⟨ls[i]'(by omega), List.getElem?_eq_getElem _⟩
    have h4 : (xs.map (·.1))[i]? = some (.slice (strD l) []) := by rw [hxs2, List.getElem?_map, hli]; rfl
    rw [List.getElem?_map, List.getElem?_eq_getElem (by omega)] at h4
    obtain ⟨A, c, h5, h6⟩ := strs_cell h3 (Option.some.inj h4)
    exact ⟨(A, c), fun l' hl' => by rw [hli] at hl'; obtain rfl := Option.some.inj hl'; exact ⟨h5, h6⟩⟩)
  refine ⟨As, hA1, ?_, fun x hx => ?_⟩
  · unfold RdS
    refine ⟨fun _ => ⟨by simp, (Array.getElem?_eq_some_iff.1 hb).1⟩, fun i y hy => ⟨_, rfl, rfl, fun j v hv => ?_⟩⟩
    rw [List.getElem?_map] at hy
    obtain ⟨z, hz1, rfl⟩ := Option.map_eq_some_iff.1 hy
    obtain ⟨h7, h8⟩ := List.getElem?_zip_eq_some.1 hz1
    obtain ⟨h9, _⟩ := hA2 i z.1 h7 z.2 h8
    have hj : j = 0 := by
      have := (List.getElem?_eq_some_iff.1 hv).1
      simp at this; omega
    subst hj
    simp only [gA]
    rw [add_lit]
    simp only [World.cell?, hb]
    rw [Nat.zero_add, ← Array.getElem?_toList]
    have h6 := congrArg (·[0]?) h9
    simp only [List.getElem?_cons_zero] at h6
    rw [List.getElem?_take_of_lt (by omega), List.getElem?_drop] at h6
    rw [hcs0]
    rw [← hv]
    exact h6
  · obtain ⟨i, hi⟩ := List.getElem?_of_mem hx
    obtain ⟨h7, h8⟩ := List.getElem?_zip_eq_some.1 hi
    exact (hA2 i x.1 h7 x.2 h8).2
theorem Pow.ext {w w' : World} (h : Pow w) (e : Ext w w') (hb : ∀ g, Tryz.prog.globalNamed "internal/strconv.uint64pow10" = some g → g < w.heap.size) : Pow w' := by
  unfold Pow Go.Lib.TabIs World.var? at h ⊢
  cases hg : Tryz.prog.globalNamed "internal/strconv.uint64pow10" with
  | none => rw [hg] at h; exact h
  | some g =>
    rw [hg] at h
    simp only [Option.bind_some] at h ⊢
    have e2 := e
    unfold Ext at e2
    rw [Go.RowKit.Below.block e2 g (hb g hg)]
    exact h
theorem Pow.lt {w : World} (h : Pow w) (g : Nat) (hg : Tryz.prog.globalNamed "internal/strconv.uint64pow10" = some g) : g < w.heap.size := by
  unfold Pow Go.Lib.TabIs World.var? at h
  rw [hg] at h
  simp only [Option.bind_some] at h
  rcases Nat.lt_or_ge g w.heap.size with h1 | h1
  · exact h1
  · rw [Array.getElem?_eq_none h1] at h
    simp at h
theorem rg_of {w : World} (hk : RdS sE 1 w (some ⟨3, 0, none⟩) keywords) (hs : RdS sE 1 w (some ⟨2, 0, none⟩) signs) (hn : RdS sE 1 w (some ⟨4, 0, none⟩) opNames)
    (hl : ∃ As : List (Option Addr × Nat), As.length = 8 ∧ RdS (fun x : Option Addr × Nat × Nat => [Value.slice x.1 x.2.1 x.2.2]) 1 w (some ⟨6, 0, none⟩) ((As.zip levels).map fun x => (x.1.1, x.2.length, x.1.2)) ∧ ∀ x ∈ As.zip levels, RdS sE 1 w x.1.1 x.2)
    (hP : Pow w) (hE : EG w) : Rg w :=
  ⟨⟨hk, hs, hn, hl, fun s w' e h1 h2 h3 => parse_c s w' h1 h2 h3 fun w'' e2 => hP.ext (Ext.trans e e2) hP.lt⟩, hE⟩
theorem eg_of {w : World} (h : handlesMet Tryz.prog [("errors.errorType", Rows.laid_errors_errorType)] w) : EG w := by
  obtain ⟨name, u, ty, e1, e2, e3, e4, e5⟩ := h _ (List.mem_singleton.2 rfl)
  have en : name = [101, 114, 114, 111, 114] := (Option.some.inj e1).symm
  subst en
  have hrt : (Tryz.prog.cutTypes.find? (·.1 == "internal/reflectlite.rtype")).map (·.2) = some 137 := by kernel_rfl
  obtain rfl := Option.some.inj (hrt.symm.trans e2)
  have hone : ((List.range Tryz.prog.types.size).filter fun t => Tryz.prog.rowNamed t [101, 114, 114, 111, 114]) = [58] := by kernel_rfl
  have hm : ty ∈ (List.range Tryz.prog.types.size).filter fun t => Tryz.prog.rowNamed t [101, 114, 114, 111, 114] := List.mem_filter.2 ⟨List.mem_range.2 e3, e4⟩
  rw [hone] at hm
  obtain rfl := List.mem_singleton.1 hm
  have hh : typeHandle Tryz.prog 58 = .pointer (some ⟨10, 58, none⟩) := by kernel_rfl
  rw [hh] at e5
  have het : Tryz.prog.globalNamed "errors.errorType" = some 0 := by kernel_rfl
  have := World.var?_cell het e5 0
  unfold EG
  simpa using this
end Go.Proofs.YtfnjodpehomgfaaGreatDoor
namespace Go.Proofs.YtfnjodpehomgfaaGreatDoor
open Go Go.Sh Go.Tx
attribute [local irreducible] Blk Ext RdS
theorem kids : Kids Tryz.prog (· < Tryz.prog.types.size) := kids_rows (by kernel_rfl) (by kernel_rfl)
theorem full : ∀ t e, t < Tryz.prog.types.size → Tryz.prog.underlying t = some (.slice e) → 0 < Tryz.prog.cellsOf e := slices_full_of _ (by kernel_rfl)
theorem own : ownKnob Tryz.prog.godebug = none := by kernel_rfl
theorem u_int : Tryz.prog.underlying 3 = some (.int .i64) := (T.ok.1.get (t := 3) (i := T.t3) rfl).1
theorem u_int64 : Tryz.prog.underlying 2 = some (.int .i64) := (T.ok.1.get (t := 2) (i := T.t2) rfl).1
theorem u_bool : Tryz.prog.underlying 4 = some .bool := (T.ok.1.get (t := 4) (i := T.t4) rfl).1
abbrev laidData : List (String × DataW Unit) := [("math/bits.deBruijn32tab", Rows.laid_math_bits_deBruijn32tab), ("math/bits.deBruijn64tab", Rows.laid_math_bits_deBruijn64tab), ("internal/strconv.uint64pow10", Rows.laid_internal_strconv_uint64pow10), ("plunder/ops.names", Rows.laid_plunder_ops_names), ("plunder/text.levels", Rows.laid_plunder_text_levels), ("plunder/text.keywords", Rows.laid_plunder_text_keywords), ("plunder/text.signs", Rows.laid_plunder_text_signs)]
theorem rg_laid {W : World} (h : laidMet Tryz.prog laidData W ∧ handlesMet Tryz.prog [("errors.errorType", Rows.laid_errors_errorType)] W) : Rg W ∧ Pow W := by
  have h1 := laidMet.tail (laidMet.tail h.1)
  have hp : Pow W := Lib.tabIs_of_head (zs := Lib.pow10Tab) (g := 7) (t := 198) (e := 170) (n := 20) (by kernel_rfl) (by kernel_rfl) (by kernel_rfl) (by kernel_rfl) (by kernel_rfl) (by kernel_rfl) h1
  have h2 := laidMet.tail h1
  have hn := tab_str (l := opNames) (g := 4) (n := 16) (by kernel_rfl) rfl (by kernel_rfl) rfl (by kernel_rfl) h2
  have h3 := laidMet.tail h2
  have hl := tab_lvl (ls := levels) (g := 6) (n := 8) (by kernel_rfl) rfl (by kernel_rfl) rfl (by kernel_rfl) h3
  have h4 := laidMet.tail h3
  have hk := tab_str (l := keywords) (g := 3) (n := 15) (by kernel_rfl) rfl (by kernel_rfl) rfl (by kernel_rfl) h4
  have h5 := laidMet.tail h4
  have hs := tab_str (l := signs) (g := 2) (n := 24) (by kernel_rfl) rfl (by kernel_rfl) rfl (by kernel_rfl) h5
  exact ⟨rg_of hk hs hn hl hp (eg_of h.2), hp⟩
def litV : DataW Unit → List Value
  | .lit (.int k n) => [.int k n]
  | .lit (.string s) => [.string (bs s)]
  | _ => []
def litVs : DataW Unit → List Value
  | .agg l => l.flatMap litV
  | _ => []
def setG (cs : List Value) : Obj → Obj
  | .cells _ t frozen => .cells cs.toArray t frozen
  | o => o
noncomputable def laidWorld (os : Os) : World :=
  let w0 := World.holding Tryz.prog os ⟨#[], #[], []⟩
  let n := w0.heap.size
  { w0 with heap := ((((((((w0.heap.modify 8 (setG (litVs Rows.laid_math_bits_deBruijn32tab))).modify 9 (setG (litVs Rows.laid_math_bits_deBruijn64tab))).modify 7 (setG (litVs Rows.laid_internal_strconv_uint64pow10))).modify 4 (setG (litVs Rows.laid_plunder_ops_names))).modify 3 (setG (litVs Rows.laid_plunder_text_keywords))).modify 2 (setG (litVs Rows.laid_plunder_text_signs))).modify 0 (setG [.iface 137 (.agg #[.pointer (some ⟨10, 58, none⟩)])])).modify 6 (setG ((List.range 8).map fun i => .slice (some ⟨n + i, 0, none⟩) ((levels.map List.length).getD i 0) ((levels.map List.length).getD i 0)))) ++ (levels.map fun l => Obj.cells (l.map fun b => Value.string (bs b)).toArray 9 (0, 0)).toArray }
end Go.Proofs.YtfnjodpehomgfaaGreatDoor
namespace Go.Tx
def W (l : Bs) (p : Nat) : List Tk := words l (l.length + 1 - p) p
theorem dec_len : ∀ (k m : Nat), m < 10 ^ (k + 1) → (Go.Lib.decDigits m).length ≤ k + 1
  | 0, m, h => by
    rw [Go.Lib.decDigits, dif_pos (by omega)]; simp
  | k + 1, m, h => by
    rw [Go.Lib.decDigits]
    split
    · simp
    · have := dec_len k (m / 10) (by rw [Nat.pow_succ] at h; omega)
      rw [List.length_append, List.length_singleton]; omega
theorem itoa_len {v : Int} (h0 : -9223372036854775808 ≤ v) (h1 : v ≤ 9223372036854775807) : (Go.Lib.itoa v).length ≤ 20 := by
  unfold Go.Lib.itoa
  split
  · have := dec_len 18 v.natAbs (by omega)
    rw [List.length_cons]; omega
  · have := dec_len 18 v.toNat (by omega)
    omega
end Go.Tx
namespace Go.Tx
def nmB (i : Nat) (c : UInt8) : Bool := letter c || (i != 0 && digit c)
def isNameB (s : Bs) : Bool := !(decide (s = []) || decide (24 < s.length) || isKw s) && (List.range s.length).all fun i => nmB i (s[i]?.getD 0)
def opNm (o : Int) : Bs := if 0 ≤ o ∧ o < 16 then opNames[o.toNat]?.getD [] else []
def sgS (kd o : Int) : Bs := if kd = 8 then s_andd else if kd = 9 then s_orr else if kd = 4 then opNm o else []
def lvAux (s : Bs) : List (List Bs) → Nat → Bs × Nat
  | [], _ => ([], 8)
  | l :: r, i => if l.contains s = true then (s, i) else lvAux s r (i + 1)
def sgn2 (s : Bs) : Bs × Nat := lvAux s levels 0
def sgK (kd o : Int) : Bs × Nat := sgn2 (sgS kd o)
def sgE : Ex → Bs × Nat
  | .mk kd o _ _ _ _ => sgK kd o
def hdB (kd o n : Int) (nm cb : Bs) (m : Nat) : Bool :=
  if kd = 0 then decide (m = 0) && decide (o = 0) && decide (nm = []) && decide (cb = [])
  else if kd = 1 then decide (m = 0) && decide (o = 0) && decide (n = 0) && decide (cb = []) && isNameB nm
  else if kd = 2 ∨ kd = 3 then decide (m = 1) && decide (o = 0) && decide (n = 0) && decide (nm = []) && decide (cb = [])
  else if kd = 8 ∨ kd = 9 then decide (m = 2) && decide (o = 0) && decide (n = 0) && decide (nm = []) && decide (cb = [])
  else if kd = 4 then decide (m = 2) && decide (opNm o ≠ []) && decide (n = 0) && decide (nm = []) && decide (cb = [])
  else if kd = 5 then decide (o = 0) && decide (n = 0) && decide (cb = []) && isNameB nm
  else if kd = 6 then decide (m = 3) && decide (o = 0) && decide (n = 0) && isNameB nm && isNameB cb
  else if kd = 7 then decide (m = 2) && decide (o = 0) && decide (n = 0) && decide (cb = []) && isNameB nm
  else false
mutual
def exB : Ex → Bool
  | .mk kd o n nm cb ks => exBs ks && hdB kd o n nm cb ks.length
def exBs : List Ex → Bool
  | [] => true
  | e :: r => exB e && exBs r
end
def zeroB : Ex → Bool
  | .mk kd o n nm cb ks => decide (kd = 0) && decide (o = 0) && decide (n = 0) && decide (nm = []) && decide (cb = []) && decide (ks.length = 0)
def isCall : Ex → Bool
  | .mk kd _ _ _ _ _ => decide (kd = 5)
mutual
def stB : St → Bool
  | .mk kd nm e b f =>
    if kd = 0 ∨ kd = 1 then isNameB nm && exB e && decide (b.length = 0) && decide (f.length = 0)
    else if kd = 2 then isNameB nm && isCall e && exB e && decide (b.length = 0) && decide (f.length = 0)
    else if kd = 3 ∨ kd = 8 ∨ kd = 9 then decide (nm = []) && zeroB e && decide (b.length = 0) && decide (f.length = 0)
    else if kd = 6 ∨ kd = 7 then decide (nm = []) && exB e && decide (b.length = 0) && decide (f.length = 0)
    else if kd = 5 then decide (nm = []) && exB e && stBs b && decide (f.length = 0)
    else if kd = 4 then decide (nm = []) && exB e && stBs b && stBs f
    else false
def stBs : List St → Bool
  | [] => true
  | s :: r => stB s && stBs r
end
def fnB (f : Fnc) : Bool := isNameB f.name && f.params.all isNameB && stBs f.body
def treeB (l : List Fnc) : Bool := decide (l ≠ []) && l.all fnB
def par (b : Bool) (t : Bs) : Bs := if b = true then 40 :: (t ++ [41]) else t
def joinC : List Bs → Bs
  | [] => []
  | [x] => x
  | x :: y :: r => x ++ 44 :: 32 :: joinC (y :: r)
def posB : Ex → Bool
  | .mk kd _ n _ _ _ => decide (kd = 0) && decide (0 ≤ n)
def txN (kd o n : Int) (nm cb : Bs) (ks : List Ex) (ts : List Bs) : Bs :=
  if (sgK kd o).1 ≠ [] then par (decide ((sgE (ks.getD 0 .zero)).2 < (sgK kd o).2)) (ts.getD 0 []) ++ (32 :: ((sgK kd o).1 ++ 32 :: par (decide ((sgE (ks.getD 1 .zero)).2 ≤ (sgK kd o).2)) (ts.getD 1 [])))
  else if kd = 0 then Go.Lib.itoa n
  else if kd = 1 then nm
  else if kd = 2 then 45 :: par (decide ((sgE (ks.getD 0 .zero)).1 ≠ []) || posB (ks.getD 0 .zero)) (ts.getD 0 [])
  else if kd = 3 then 33 :: par (decide ((sgE (ks.getD 0 .zero)).1 ≠ [])) (ts.getD 0 [])
  else if kd = 4 then opNm o ++ 40 :: (joinC ts ++ [41])
  else if kd = 5 then nm ++ 40 :: (joinC ts ++ [41])
  else if kd = 6 then k_reduce ++ 40 :: (nm ++ 44 :: 32 :: (cb ++ 44 :: 32 :: (joinC ts ++ [41])))
  else k_each ++ 40 :: (nm ++ 44 :: 32 :: (joinC ts ++ [41]))
mutual
def txE : Ex → Bs
  | .mk kd o n nm cb ks => txN kd o n nm cb ks (txEs ks)
def txEs : List Ex → List Bs
  | [] => []
  | e :: r => txE e :: txEs r
end
def tabs (n : Nat) : Bs := List.replicate n 9
def elseT (o : Nat) (f : List St) (one many : Bs) : Bs := match f with
  | [] => []
  | .mk kd _ _ _ _ :: r => if r = [] ∧ kd = 4 then 32 :: (k_else ++ 32 :: one) else 32 :: (k_else ++ 32 :: 123 :: 10 :: (many ++ (tabs o ++ [125])))
def stT (kd : Int) (nm e : Bs) (o : Nat) (b els : Bs) : Bs :=
  if kd = 0 then k_let ++ 32 :: (nm ++ 32 :: 61 :: 32 :: (e ++ [59]))
  else if kd = 1 then nm ++ 32 :: 61 :: 32 :: (e ++ [59])
  else if kd = 2 then k_spawn ++ 32 :: (nm ++ 32 :: 61 :: 32 :: (e ++ [59]))
  else if kd = 3 then k_sync ++ [59]
  else if kd = 8 then k_break ++ [59]
  else if kd = 9 then k_continue ++ [59]
  else if kd = 6 then k_do ++ 32 :: (e ++ [59])
  else if kd = 7 then k_return ++ 32 :: (e ++ [59])
  else if kd = 5 then k_while ++ 32 :: (e ++ 32 :: 123 :: 10 :: (b ++ (tabs o ++ [125])))
  else if kd = 4 then k_if ++ 32 :: (e ++ 32 :: 123 :: 10 :: (b ++ (tabs o ++ 125 :: els)))
  else []
mutual
def txS : Nat → St → Bs
  | o, .mk kd nm e b f => stT kd nm (txE e) o (txB (o + 1) b) (elseT o f (txH o f) (txB (o + 1) f))
def txB : Nat → List St → Bs
  | _, [] => []
  | o, s :: r => tabs o ++ (txS o s ++ 10 :: txB o r)
def txH : Nat → List St → Bs
  | _, [] => []
  | o, s :: _ => txS o s
end
def txF (f : Fnc) : Bs := k_fn ++ 32 :: (f.name ++ 40 :: (joinC f.params ++ 41 :: 32 :: 123 :: 10 :: (txB 1 f.body ++ [125, 10])))
def whole (l : List Fnc) : Bs := l.flatMap txF
mutual
def nE : Ex → Nat
  | .mk _ _ _ _ _ ks => nEs ks + 1
def nEs : List Ex → Nat
  | [] => 0
  | e :: r => nE e + nEs r
end
mutual
def rgE : Ex → Prop
  | .mk _ _ n _ _ ks => (-9223372036854775808 ≤ n ∧ n ≤ 9223372036854775807) ∧ rgEs ks
def rgEs : List Ex → Prop
  | [] => True
  | e :: r => rgE e ∧ rgEs r
end
theorem name_len {s : Bs} (h : isNameB s = true) : s.length ≤ 24 := by
  unfold isNameB at h
  simp only [Bool.and_eq_true, Bool.not_eq_true', Bool.or_eq_false_iff, decide_eq_false_iff_not] at h
  omega
theorem opNm_len (o : Int) : (opNm o).length ≤ 3 := by
  unfold opNm
  split
  · rename_i h
    obtain ⟨k, rfl⟩ : ∃ k : Nat, o = (k : Int) := ⟨o.toNat, by omega⟩
    have hk : k < 16 := by omega
    have : ∀ k, k < 16 → (opNames[k]?.getD []).length ≤ 3 := by decide
    simpa using this k hk
  · simp
theorem sgK_len (kd o : Int) : (sgK kd o).1.length ≤ 3 := by
  have h : ∀ (s : Bs) (l : List (List Bs)) (i : Nat), (lvAux s l i).1.length ≤ s.length := by
    intro s l
    induction l with
    | nil => intro i; simp [lvAux]
    | cons x r ih =>
      intro i
      unfold lvAux
      split
      · exact Nat.le_refl _
      · exact ih _
  have h2 : (sgS kd o).length ≤ 3 := by
    unfold sgS
    split
    · decide
    · split
      · decide
      · split
        · exact opNm_len o
        · simp
  exact Nat.le_trans (h _ _ _) h2
theorem par_len (b : Bool) (t : Bs) : (par b t).length ≤ t.length + 2 := by
  unfold par
  split <;> simp
theorem joinC_len : ∀ l : List Bs, (joinC l).length ≤ (l.map (fun x => x.length + 2)).sum
  | [] => by simp [joinC]
  | [x] => by simp [joinC]
  | x :: y :: r => by
    have ih := joinC_len (y :: r)
    simp only [joinC, List.length_append, List.length_cons, List.map_cons, List.sum_cons] at ih ⊢
    omega
theorem kids_two {kd o n : Int} {nm cb : Bs} {m : Nat} (h : hdB kd o n nm cb m = true) (hs : (sgK kd o).1 ≠ []) : m = 2 := by
  have hk : kd = 8 ∨ kd = 9 ∨ kd = 4 := by
    by_cases h8 : kd = 8
    · exact .inl h8
    · by_cases h9 : kd = 9
      · exact .inr (.inl h9)
      · by_cases h4 : kd = 4
        · exact .inr (.inr h4)
        · refine absurd ?_ hs
          unfold sgK sgS
          rw [if_neg h8, if_neg h9, if_neg h4]
          rfl
  unfold hdB at h
  rcases hk with rfl | rfl | rfl <;> simp at h <;> omega
mutual
theorem txE_len : ∀ e : Ex, exB e = true → rgE e → (txE e).length + 4 ≤ 80 * nE e
  | .mk kd o n nm cb ks, hb, hr => by
    simp only [exB, Bool.and_eq_true] at hb
    have ih := txEs_len ks hb.1 hr.2
    have hn := Go.Tx.itoa_len hr.1.1 hr.1.2
    have hj := joinC_len (txEs ks)
    have hs := sgK_len kd o
    have ho := opNm_len o
    have hh := hb.2
    simp only [txE, nE]
    have hsum : ((txEs ks).map (fun x => x.length + 2)).sum ≤ ((txEs ks).map (fun x => x.length + 4)).sum := by
      clear ih hj
      induction txEs ks with
      | nil => simp
      | cons x r ih => simp only [List.map_cons, List.sum_cons]; omega
    unfold txN
    split
    · rename_i hne
      have h2 := kids_two hb.2 hne
      match ks, h2, ih with
      | [a, b], _, ih =>
        have p1 := par_len (decide ((sgE a).2 < (sgK kd o).2)) (txE a)
        have p2 := par_len (decide ((sgE b).2 ≤ (sgK kd o).2)) (txE b)
        simp [txEs, nEs] at ih ⊢
        omega
    · split
      · omega
      · split
        · rename_i h0 h1
          have : nm.length ≤ 24 := name_len (by simp [hdB, h1] at hh; exact hh.2)
          omega
        · split
          · rename_i h2
            have hm : ks.length = 1 := by simp [hdB, h2] at hh; exact hh.1.1.1.1
            match ks, hm, ih with
            | [a], _, ih =>
              have p1 := par_len (decide ((sgE a).1 ≠ []) || posB a) (txE a)
              simp [txEs, nEs] at ih p1 ⊢
              omega
          · split
            · rename_i h3
              have hm : ks.length = 1 := by simp [hdB, h3] at hh; exact hh.1.1.1.1
              match ks, hm, ih with
              | [a], _, ih =>
                have p1 := par_len (decide ((sgE a).1 ≠ [])) (txE a)
                simp [txEs, nEs] at ih p1 ⊢
                omega
            · split
              · simp only [List.length_append, List.length_cons, List.length_nil]
                omega
              · split
                · rename_i h5
                  have : nm.length ≤ 24 := name_len (by simp [hdB, h5] at hh; exact hh.2)
                  simp only [List.length_append, List.length_cons, List.length_nil]
                  omega
                · split
                  · rename_i h6
                    have : nm.length ≤ 24 := name_len (by simp [hdB, h6] at hh; exact hh.1.2)
                    have : cb.length ≤ 24 := name_len (by simp [hdB, h6] at hh; exact hh.2)
                    have : k_reduce.length = 6 := rfl
                    simp only [List.length_append, List.length_cons, List.length_nil]
                    omega
                  · have h7 : kd = 7 := by
                      rename_i a1 a2 a3 a4 a5 a6 a7
                      unfold hdB at hh
                      rw [if_neg a1, if_neg a2, if_neg (by omega), if_neg] at hh
                      · rw [if_neg a5, if_neg a6, if_neg a7] at hh
                        by_cases h : kd = 7
                        · exact h
                        · rw [if_neg h] at hh; exact absurd hh (by simp)
                      · rintro (rfl | rfl)
                        · exact absurd (show (sgn2 s_andd).1 ≠ [] from by decide) (by assumption)
                        · exact absurd (show (sgn2 s_orr).1 ≠ [] from by decide) (by assumption)
                    have : nm.length ≤ 24 := name_len (by simp [hdB, h7] at hh; exact hh.2)
                    have : k_each.length = 4 := rfl
                    simp only [List.length_append, List.length_cons, List.length_nil]
                    omega
theorem txEs_len : ∀ l : List Ex, exBs l = true → rgEs l → ((txEs l).map (fun x => x.length + 4)).sum ≤ 80 * nEs l
  | [], _, _ => by simp [txEs]
  | e :: r, hb, hr => by
    simp only [exBs, Bool.and_eq_true] at hb
    have h1 := txE_len e hb.1 hr.1
    have h2 := txEs_len r hb.2 hr.2
    simp only [txEs, nEs, List.map_cons, List.sum_cons]
    omega
end
mutual
def nS : St → Nat
  | .mk _ _ e b f => nE e + nSs b + nSs f + 1
def nSs : List St → Nat
  | [] => 0
  | s :: r => nS s + nSs r
end
mutual
def rgS : St → Prop
  | .mk _ _ e b f => rgE e ∧ rgSs b ∧ rgSs f
def rgSs : List St → Prop
  | [] => True
  | s :: r => rgS s ∧ rgSs r
end
theorem txB_app (o : Nat) : ∀ a b : List St, txB o (a ++ b) = txB o a ++ txB o b
  | [], b => by simp [txB]
  | s :: r, b => by simp [txB, txB_app o r b]
end Go.Tx
namespace Go.Proofs.YtfnjodpehomgfaaGreatDoor
open Go Go.Sh Go.Tx
attribute [local irreducible] Blk Ext RdS
theorem dec_hi {s : ByteArray} {p : Nat} (h : 128 ≤ (s.get! p).toNat) : 128 ≤ (Utf8.decode s p).1 ∧ 1 ≤ (Utf8.decode s p).2 := by
  unfold Utf8.decode
  simp only [Nat.add_zero]
  rw [if_neg (by omega)]
  repeat' split
  all_goals first | (simp only [Utf8.runeError]; omega) | (rename_i hc; simp only [Bool.and_eq_true, decide_eq_true_eq, ge_iff_le] at hc; omega)
theorem Sm.snextH {S : Nat → Prop} {w0 w : World} {Γ L R : List Ck} {P : Program} {k : Value → World → Prop} {Y : List PanicEntry → World → Prop} {ty : TypeId} {l : List UInt8} {r p : Nat} {b : UInt8} (H : Hp S w0 w Γ) (hb : l[p]? = some b) (h7 : 128 ≤ b.toNat) (hk : ∀ (w' : World) (c n : Nat), Hp S w0 w' (L ++ si r l (p + n) :: R) → 128 ≤ c → k (.tuple #[.bool true, .int .i64 (p : Int), .int .i32 (c : Int)]) w')
    (u : Sp Γ L (si r l p) R := by (repeat (first | exact Sp.head | apply Sp.tail))) : Sm P (Instr.next (.pointer (some ⟨r, 0, none⟩)) true ty) w k Y := by
  have hr : w.heap[r]? = some (.stringIter (bs l) p) := H.mem (c := si r l p) (by rw [u.eq]; simp)
  have hsz := bs_size l
  have hpl := (List.getElem?_eq_some_iff.1 hb).1
  have h0 : (bs l).get! p = b := by
    have : (bs l).data[p]! = b := by simp [bs, hpl, (List.getElem?_eq_some_iff.1 hb).2]
    exact this
  obtain ⟨c, n, hdec⟩ : ∃ c n, Utf8.decode (bs l) p = (c, n) := ⟨_, _, rfl⟩
  have hc := (dec_hi (s := bs l) (p := p) (by rw [h0]; exact h7)).1
  rw [hdec] at hc
  have hrun : (Instr.next (.pointer (some ⟨r, 0, none⟩)) true ty).run P w = .ok (.tuple #[.bool true, .int .i64 (p : Int), .int .i32 (c : Int)]) (ChangeMaps.setBlock w r (.stringIter (bs l) (p + n))) := by
    have hlt : p < (bs l).size := by omega
    simp only [Instr.next, getObj, Sem.run_bind, Sem.run, hr, Result.andThen]
    simp [hlt, hdec, setObj, Sem.run, Result.andThen, hr, ChangeMaps.setBlock, goInt]
  refine ⟨?_⟩
  rw [hrun]
  have hupd : Upd r w (ChangeMaps.setBlock w r (.stringIter (bs l) (p + n))) := by
    refine ⟨rfl, rfl, rfl, by simp [ChangeMaps.setBlock], fun j hj => ?_⟩
    show (w.heap.setIfInBounds r _)[j]? = w.heap[j]?
    rw [Array.getElem?_setIfInBounds, if_neg (fun e : r = j => hj e.symm)]
  refine hk _ c n (H.putS u (Hp.one ((Tch.refl _ _).upd hupd (.inl rfl)) (si_ok ?_) fun k hk => .inl hk) rfl (.inl rfl)) hc
  show (w.heap.setIfInBounds r _)[r]? = _
  simp [(Array.getElem?_eq_some_iff.1 hr).1]
theorem letter_hi (c : Nat) (w : World) (h : 128 ≤ c) : Cl Tryz.prog 69 #[.int .i32 (c : Int)] w (fun v w' => v = .bool false ∧ Ext w w') (fun _ _ => False) := by
  refine calls_ex (args := [.int .i32 (c : Int)]) T.ok Tryz.func69 rfl rfl rfl rfl ?_
  have H := Hp.begin nw w
  repeat' ((conv => whnf); first | refine ztS ?_ | (refine ztB ?_ ?_ <;> intro _ <;> try (exfalso; omega)) | (refine ztA ?_; clear H; intro _ _ H _) | fail)
  all_goals first | (exfalso; omega) | skip
  all_goals (refine ⟨b_eq ?_, H.e⟩; first | rfl | (rw [Bool.eq_iff_iff]; simp; omega))
theorem digit_hi (c : Nat) (w : World) (h : 128 ≤ c) : Cl Tryz.prog 70 #[.int .i32 (c : Int)] w (fun v w' => v = .bool false ∧ Ext w w') (fun _ _ => False) := by
  refine calls_ex (args := [.int .i32 (c : Int)]) T.ok Tryz.func70 rfl rfl rfl rfl ?_
  have H := Hp.begin nw w
  repeat' ((conv => whnf); first | refine ztS ?_ | (refine ztB ?_ ?_ <;> intro _ <;> try (exfalso; omega)) | (refine ztA ?_; clear H; intro _ _ H _) | fail)
  all_goals first | (exfalso; omega) | skip
  all_goals (refine ⟨b_eq ?_, H.e⟩; first | rfl | (rw [Bool.eq_iff_iff]; simp; omega))
theorem isName_c (s : Bs) (w : World) (hK : RdK w) (hl : s.length ≤ 9000000) : Cl Tryz.prog 41 #[.string (bs s)] w (fun v w' => v = .bool (isNameB s) ∧ Ext w w') (fun _ _ => False) := by
  refine calls_ex (args := [.string (bs s)]) T.ok Tryz.func41 rfl rfl rfl rfl ?_
  have H := Hp.begin nw w
  have hsz := bs_size s
  repeat' ((conv => whnf); first | refine ztT ?_ | (refine ztB ?_ ?_ <;> intro _ <;> try (exfalso; omega)) | (refine ztA ?_; clear H; intro _ _ H _) | fail)
  · have h0 : s = [] := by
      have h := (by assumption : (bs s == _) = true)
      rw [show (⟨#[]⟩ : ByteArray) = bs [] from rfl, bs_eq] at h
      exact of_decide_eq_true h
    subst h0
    repeat' ((conv => whnf); first | refine ztT ?_ | (refine ztB ?_ ?_ <;> intro _ <;> try (exfalso; omega)) | (refine ztA ?_; clear H; intro _ _ H _) | fail)
    exact ⟨rfl, H.e⟩
  · repeat' ((conv => whnf); first | refine ztT ?_ | (refine ztB ?_ ?_ <;> intro _ <;> try (exfalso; omega)) | (refine ztA ?_; clear H; intro _ _ H _) | fail)
    refine ⟨b_eq ?_, H.e⟩
    unfold isNameB
    rw [show decide (24 < s.length) = true from decide_eq_true (by omega)]
    simp
  have h0 : s ≠ [] := by
    have h := (by assumption : (bs s == _) = false)
    rw [show (⟨#[]⟩ : ByteArray) = bs [] from rfl, bs_eq] at h
    exact of_decide_eq_false h
  have h24 : ¬ 24 < s.length := by omega
  (((conv => whnf); refine Cl.mk (keyword_c s _ (RdS.from H.e hK)) ?_); rintro _ _ ⟨rfl, hx⟩; replace H := H.ext hx; clear hx)
  repeat' ((conv => whnf); first | refine ztT ?_ | (refine ztB ?_ ?_ <;> intro _ <;> try (exfalso; omega)) | (refine ztA ?_; clear H; intro _ _ H _) | fail)
  · have hk : isKw s = true := by assumption
    repeat' ((conv => whnf); first | refine ztT ?_ | (refine ztB ?_ ?_ <;> intro _ <;> try (exfalso; omega)) | (refine ztA ?_; clear H; intro _ _ H _) | fail)
    refine ⟨b_eq ?_, H.e⟩
    unfold isNameB
    rw [hk]; simp
  have hk : isKw s = false := by assumption
  repeat' ((conv => whnf); first | refine ztT ?_ | (refine ztB ?_ ?_ <;> intro _ <;> try (exfalso; omega)) | (refine ztA ?_; clear H; intro _ _ H _) | fail)
  (conv => whnf)
  refine Sm.srange H T.ok (fun r w2 H _ => ?_)
  repeat' ((conv => whnf); first | refine ztT ?_ | (refine ztB ?_ ?_ <;> intro _ <;> try (exfalso; omega)) | (refine ztA ?_; clear H; intro _ _ H _) | fail)
  refine Lp.g0 T.ok (σ := Nat) (fun p => [(17, .pointer (some ⟨r, 0, none⟩))])
    (fun p w' => p ≤ s.length ∧ (∀ i, i < p → nmB i (s[i]?.getD 0) = true) ∧ Hp nw w w' [si r s p]) (fun p _ => s.length - p) 0 rfl ⟨rfl, trivial⟩ ⟨Nat.zero_le _, fun i hi => absurd hi (by omega), H⟩ ?_
  clear H
  rintro p w5 ⟨hp, hall, H⟩
  by_cases hlt : p < s.length
  case neg =>
    repeat' ((conv => whnf); first | refine ztT ?_ | (refine ztB ?_ ?_ <;> intro _ <;> try (exfalso; omega)) | (refine ztA ?_; clear H; intro _ _ H _) | fail)
    refine Sm.send (l := s) (p := p) H (by omega) ?_
    repeat' ((conv => whnf); first | refine ztT ?_ | (refine ztB ?_ ?_ <;> intro _ <;> try (exfalso; omega)) | (refine ztA ?_; clear H; intro _ _ H _) | fail)
    refine ⟨b_eq ?_, H.e⟩
    unfold isNameB
    rw [hk, decide_eq_false h0, decide_eq_false h24]
    symm
    simp only [Bool.or_self, Bool.not_false, Bool.true_and, List.all_eq_true, List.mem_range]
    exact fun i hi => hall i (by omega)
  obtain ⟨b, hb⟩ : ∃ b, s[p]? = some b := ⟨_, List.getElem?_eq_getElem hlt⟩
  have hgd : s[p]?.getD 0 = b := by rw [hb]; rfl
  have hno : nmB p b = false → isNameB s = false := fun h => by
    unfold isNameB
    rw [Bool.and_eq_false_iff]
    refine .inr ?_
    rw [List.all_eq_false]
    exact ⟨p, List.mem_range.2 hlt, by rw [hgd, h]; simp⟩
  have hyes : nmB p b = true → ∀ i, i < p + 1 → nmB i (s[i]?.getD 0) = true := fun h i hi => by
    by_cases e : i = p
    · subst e; rw [hgd]; exact h
    · exact hall i (by omega)
  by_cases h7 : b.toNat < 128
  · repeat' ((conv => whnf); first | refine ztT ?_ | (refine ztB ?_ ?_ <;> intro _ <;> try (exfalso; omega)) | (refine ztA ?_; clear H; intro _ _ H _) | fail)
    refine Sm.snext (l := s) (p := p) H hb h7 (fun w6 H => ?_)
    repeat' ((conv => whnf); first | refine ztT ?_ | (refine ztB ?_ ?_ <;> intro _ <;> try (exfalso; omega)) | (refine ztA ?_; clear H; intro _ _ H _) | fail)
    (((conv => whnf); refine Cl.mk (letter_c b _) ?_); rintro _ _ ⟨rfl, hx⟩; replace H := H.ext hx; clear hx)
    repeat' ((conv => whnf); first | refine ztT ?_ | (refine ztB ?_ ?_ <;> intro _ <;> try (exfalso; omega)) | (refine ztA ?_; clear H; intro _ _ H _) | fail)
    · have h1 : letter b = true := by assumption
      repeat' ((conv => whnf); first | refine ztT ?_ | (refine ztB ?_ ?_ <;> intro _ <;> try (exfalso; omega)) | (refine ztA ?_; clear H; intro _ _ H _) | fail)
      exact ⟨p + 1, ⟨rfl, trivial⟩, rfl, ⟨by omega, hyes (by unfold nmB; rw [h1]; rfl), H⟩, by omega⟩
    · have h1 : letter b = false := by assumption
      have hp0 : p = 0 := by omega
      repeat' ((conv => whnf); first | refine ztT ?_ | (refine ztB ?_ ?_ <;> intro _ <;> try (exfalso; omega)) | (refine ztA ?_; clear H; intro _ _ H _) | fail)
      exact ⟨b_eq (hno (by unfold nmB; rw [h1, hp0]; rfl)).symm, H.e⟩
    · have h1 : letter b = false := by assumption
      have hp0 : p ≠ 0 := by omega
      (((conv => whnf); refine Cl.mk (digit_c b _) ?_); rintro _ _ ⟨rfl, hx⟩; replace H := H.ext hx; clear hx)
      repeat' ((conv => whnf); first | refine ztT ?_ | (refine ztB ?_ ?_ <;> intro _ <;> try (exfalso; omega)) | (refine ztA ?_; clear H; intro _ _ H _) | fail)
      · have h2 : digit b = true := by assumption
        repeat' ((conv => whnf); first | refine ztT ?_ | (refine ztB ?_ ?_ <;> intro _ <;> try (exfalso; omega)) | (refine ztA ?_; clear H; intro _ _ H _) | fail)
        exact ⟨p + 1, ⟨rfl, trivial⟩, rfl, ⟨by omega, hyes (by unfold nmB; rw [h1, h2]; simp [hp0]), H⟩, by omega⟩
      · have h2 : digit b = false := by assumption
        repeat' ((conv => whnf); first | refine ztT ?_ | (refine ztB ?_ ?_ <;> intro _ <;> try (exfalso; omega)) | (refine ztA ?_; clear H; intro _ _ H _) | fail)
        exact ⟨b_eq (hno (by unfold nmB; rw [h1, h2]; simp)).symm, H.e⟩
  · have h1 : letter b = false := by simp only [letter, decide_eq_false_iff_not]; omega
    have h2 : digit b = false := by simp only [digit, decide_eq_false_iff_not]; omega
    have hbad : isNameB s = false := hno (by unfold nmB; rw [h1, h2]; simp)
    repeat' ((conv => whnf); first | refine ztT ?_ | (refine ztB ?_ ?_ <;> intro _ <;> try (exfalso; omega)) | (refine ztA ?_; clear H; intro _ _ H _) | fail)
    refine Sm.snextH (l := s) (p := p) H hb (by omega) (fun w6 c n H hc => ?_)
    repeat' ((conv => whnf); first | refine ztT ?_ | (refine ztB ?_ ?_ <;> intro _ <;> try (exfalso; omega)) | (refine ztA ?_; clear H; intro _ _ H _) | fail)
    (((conv => whnf); refine Cl.mk (letter_hi c _ hc) ?_); rintro _ _ ⟨rfl, hx⟩; replace H := H.ext hx; clear hx)
    repeat' ((conv => whnf); first | refine ztT ?_ | (refine ztB ?_ ?_ <;> intro _ <;> try (exfalso; omega)) | (refine ztA ?_; clear H; intro _ _ H _) | fail)
    · exact ⟨b_eq hbad.symm, H.e⟩
    · (((conv => whnf); refine Cl.mk (digit_hi c _ hc) ?_); rintro _ _ ⟨rfl, hx⟩; replace H := H.ext hx; clear hx)
      repeat' ((conv => whnf); first | refine ztT ?_ | (refine ztB ?_ ?_ <;> intro _ <;> try (exfalso; omega)) | (refine ztA ?_; clear H; intro _ _ H _) | fail)
      exact ⟨b_eq hbad.symm, H.e⟩
end Go.Proofs.YtfnjodpehomgfaaGreatDoor
namespace Go.Proofs.YtfnjodpehomgfaaGreatDoor
open Go Go.Sh Go.Tx
attribute [local irreducible] Blk Ext RdS
theorem allNames_c (A : Option Addr) (c : Nat) (l : List Bs) (w : World) (hK : RdK w) (hr : RdS strE 1 w A l) (hll : l.length ≤ 9000000) (hl : ∀ s ∈ l, s.length ≤ 9000000) :
    Cl Tryz.prog 42 #[.slice A l.length c] w (fun v w' => v = .bool (l.all isNameB) ∧ Ext w w') (fun _ _ => False) := by
  refine calls_ex (args := [.slice A l.length c]) T.ok Tryz.func42 rfl rfl rfl rfl ?_
  have H := Hp.begin nw w
  repeat' ((conv => whnf); first | refine ztT ?_ | (refine ztB ?_ ?_ <;> intro _ <;> try (exfalso; omega)) | (refine ztA ?_; clear H; intro _ _ H _) | fail)
  refine Lp.g0 T.ok (σ := Nat) (fun i => [(7, .int .i64 (i : Int)), (6, .int .i64 (l.length : Int)), (5, .slice A l.length c)])
    (fun i w' => i ≤ l.length ∧ (l.take i).all isNameB = true ∧ Hp nw w w' []) (fun i _ => l.length - i) 0 rfl ⟨rfl, rfl, rfl, trivial⟩ ⟨Nat.zero_le _, rfl, H⟩ ?_
  clear H
  rintro i w5 ⟨hi, hall, H⟩
  have hr2 := RdS.from H.e hr
  by_cases hlt : i < l.length
  · obtain ⟨x, hx⟩ : ∃ x, l[i]? = some x := ⟨_, List.getElem?_eq_getElem hlt⟩
    obtain ⟨hx1, hx2⟩ := List.getElem?_eq_some_iff.1 hx
    have htk : (l.take (i + 1)).all isNameB = isNameB x := by
      rw [List.take_succ_eq_append_getElem hx1, List.all_append, hall, hx2]; simp
    repeat' ((conv => whnf); first | refine ztT ?_ | (refine ztB ?_ ?_ <;> intro _ <;> try (exfalso; omega)) | (refine ztA ?_; clear H; intro _ _ H _) | fail)
    (((conv => whnf); refine Cl.mk (isName_c x _ (RdS.from H.e hK) (hl x (List.mem_of_getElem? hx))) ?_); rintro _ _ ⟨rfl, hx⟩; replace H := H.ext hx; clear hx)
    repeat' ((conv => whnf); first | refine ztT ?_ | (refine ztB ?_ ?_ <;> intro _ <;> try (exfalso; omega)) | (refine ztA ?_; clear H; intro _ _ H _) | fail)
    · have h1 : isNameB x = true := by assumption
      repeat' ((conv => whnf); first | refine ztT ?_ | (refine ztB ?_ ?_ <;> intro _ <;> try (exfalso; omega)) | (refine ztA ?_; clear H; intro _ _ H _) | fail)
      exact ⟨i + 1, ⟨at_int (m := ((i + 1 : Nat) : Int)) rfl (w64 (by simp) (by omega) (by omega)), rfl, rfl, trivial⟩, rfl, ⟨by omega, by rw [htk]; exact h1, H⟩, by omega⟩
    · have h1 : isNameB x = false := by assumption
      repeat' ((conv => whnf); first | refine ztT ?_ | (refine ztB ?_ ?_ <;> intro _ <;> try (exfalso; omega)) | (refine ztA ?_; clear H; intro _ _ H _) | fail)
      refine ⟨b_eq ?_, H.e⟩
      symm
      rw [List.all_eq_false]
      exact ⟨x, List.mem_of_getElem? hx, by rw [h1]; simp⟩
  · repeat' ((conv => whnf); first | refine ztT ?_ | (refine ztB ?_ ?_ <;> intro _ <;> try (exfalso; omega)) | (refine ztA ?_; clear H; intro _ _ H _) | fail)
    refine ⟨b_eq ?_, H.e⟩
    rw [List.take_of_length_le (by omega)] at hall
    exact hall.symm
end Go.Proofs.YtfnjodpehomgfaaGreatDoor
