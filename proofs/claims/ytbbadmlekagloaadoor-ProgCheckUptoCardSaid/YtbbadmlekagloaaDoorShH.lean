/- Regions whose order is drawn, with one allocation and one last operation that waits for all others; own work. -/
import Derived.Test.YtbbadmlekagloaaDoorShG
namespace Go.Sh
open Go.RowKit

def dstOf (ops : Array Oper) (i : Nat) : Option Nat := (ops[i]?).bind (·.dst)
def gdOf (ops : Array Oper) (o : Oper) : List Nat := match o.guard with | some (j, _) => (dstOf ops j).toList | none => []
def rdOf (ops : Array Oper) (i : Nat) : List Nat := match ops[i]? with | some o => tmpsOf o ++ gdOf ops o | none => []
def afterOf (ops : Array Oper) (i : Nat) : List Nat := match ops[i]? with | some o => (o.after.toList.filter (Region.binds .any)).map (·.on) | none => []
def ancF (ops : Array Oper) : Nat → Nat → List Nat
  | 0, _ => []
  | f + 1, i => (afterOf ops i).flatMap fun j => j :: ancF ops f j
def AlP (ops : Array Oper) (k : Nat) : Prop :=
  k + 1 < ops.size ∧ (∀ i, i < ops.size → ∀ j ∈ afterOf ops i, j < i) ∧ (∀ j, j < ops.size - 1 → j ∈ ancF ops ops.size (ops.size - 1)) ∧
  (∀ i, i < ops.size → ∀ j, j < ops.size → i ≠ j → (dstOf ops i ≠ none → dstOf ops j ≠ dstOf ops i) ∧
    (i ≠ k → i + 1 ≠ ops.size → ∀ t ∈ rdOf ops i, dstOf ops j = some t → j ≠ k ∧ ((j < i ∧ j ∈ ancF ops ops.size i) ∨ (i < j ∧ i ∈ ancF ops ops.size j))))
def alB (ops : Array Oper) (k : Nat) : Bool :=
  decide (k + 1 < ops.size) && ((List.range ops.size).all fun i => (afterOf ops i).all fun j => decide (j < i)) && ((List.range (ops.size - 1)).all fun j => decide (j ∈ ancF ops ops.size (ops.size - 1))) &&
  ((List.range ops.size).all fun i => (List.range ops.size).all fun j => decide (i = j) || ((decide (dstOf ops i = none) || decide (dstOf ops j ≠ dstOf ops i)) &&
    (decide (i = k) || decide (i + 1 = ops.size) || (rdOf ops i).all fun t => decide (dstOf ops j ≠ some t) || (decide (j ≠ k) && ((decide (j < i) && decide (j ∈ ancF ops ops.size i)) || (decide (i < j) && decide (i ∈ ancF ops ops.size j)))))))
theorem alB_spec {ops : Array Oper} {k : Nat} (h : alB ops k = true) : AlP ops k := by
  simp only [alB, Bool.and_eq_true, Bool.or_eq_true, List.all_eq_true, List.mem_range, decide_eq_true_eq] at h
  obtain ⟨⟨⟨h1, h2⟩, h3⟩, h4⟩ := h
  refine ⟨h1, h2, h3, fun i hi j hj hne => ?_⟩
  rcases h4 i hi j hj with e | ⟨h5, h6⟩
  · exact absurd e hne
  · refine ⟨fun hn => ?_, fun hk hf t ht hd => ?_⟩
    · rcases h5 with e | e
      · exact absurd e hn
      · exact e
    · rcases h6 with (e | e) | e
      · exact absurd e hk
      · exact absurd e hf
      · rcases e t ht with e | e
        · exact absurd hd e
        · exact e

def Lst (listed : Array Bool) (i : Nat) : Prop := listed.getD i true = true
section
variable {P : Program} {T : Tab} {n : Nat} {ops : Array Oper} {k : Nat}
def Closed (ops : Array Oper) (listed : Array Bool) : Prop := ∀ i, i < ops.size → Lst listed i → ∀ j ∈ afterOf ops i, Lst listed j
theorem closed_anc {listed : Array Bool} (hc : Closed ops listed) (hac : ∀ i, i < ops.size → ∀ j ∈ afterOf ops i, j < i) : ∀ (f i j : Nat), i < ops.size → Lst listed i → j ∈ ancF ops f i → Lst listed j
  | 0, _, _, _, _, h => by simp [ancF] at h
  | f + 1, i, j, hi, hl, h => by
    simp only [ancF, List.mem_flatMap, List.mem_cons] at h
    obtain ⟨m, hm, h⟩ := h
    have hlm := hc i hi hl m hm
    rcases h with rfl | h
    · exact hlm
    · exact closed_anc hc hac f m j (by have := hac i hi m hm; omega) hlm h
def cnt (listed : Array Bool) : Nat → Nat
  | 0 => 0
  | m + 1 => cnt listed m + (if listed.getD m true = true then 0 else 1)
theorem getD_set (listed : Array Bool) (i j : Nat) (hi : i < listed.size) : (listed.setIfInBounds i true).getD j true = if j = i then true else listed.getD j true := by
  simp only [Array.getD_eq_getD_getElem?, Array.getElem?_setIfInBounds]
  by_cases h : i = j
  · subst h; simp [hi]
  · rw [if_neg h, if_neg (fun e => h e.symm)]
theorem cnt_set (listed : Array Bool) (i : Nat) (hi : i < listed.size) (hn : ¬ Lst listed i) : ∀ m, cnt (listed.setIfInBounds i true) m + (if i < m then 1 else 0) = cnt listed m
  | 0 => by simp [cnt]
  | m + 1 => by
    have ih := cnt_set listed i hi hn m
    simp only [cnt, getD_set _ _ _ hi]
    unfold Lst at hn
    by_cases h : m = i
    · subst h
      rw [if_neg (by omega)] at ih
      rw [if_pos rfl, if_pos rfl, if_pos (by omega), if_neg hn]
      omega
    · rw [if_neg h]
      by_cases h2 : i < m
      · rw [if_pos h2] at ih; rw [if_pos (show i < m + 1 by omega)]; omega
      · rw [if_neg h2] at ih; rw [if_neg (show ¬ i < m + 1 by omega)]; omega
theorem cnt_pos (listed : Array Bool) (i : Nat) (hn : ¬ Lst listed i) : ∀ m, i < m → 0 < cnt listed m
  | 0, h => by omega
  | m + 1, h => by
    simp only [cnt]
    by_cases e : i = m
    · subst e; unfold Lst at hn; simp [hn]
    · have := cnt_pos listed i hn m (by omega); omega
theorem getD_both' {listed : Array Bool} {j : Nat} (h : j < listed.size) : listed.getD j false = listed.getD j true := by
  simp [Array.getD_eq_getD_getElem?, Array.getElem?_eq_getElem h]
theorem mem_ready {listed : Array Bool} (hs : listed.size = ops.size) (hac : ∀ i, i < ops.size → ∀ j ∈ afterOf ops i, j < i) {i : Nat} : i ∈ Region.ready .any ops listed ↔ i < ops.size ∧ ¬ Lst listed i ∧ ∀ j ∈ afterOf ops i, Lst listed j := by
  unfold Region.ready
  simp only [List.mem_filter, List.mem_range, Bool.and_eq_true, Bool.not_eq_true']
  constructor
  · rintro ⟨h1, h2, h3⟩
    refine ⟨h1, by unfold Lst; simp [h2], fun j hj => ?_⟩
    have hlt := hac i h1 j hj
    unfold afterOf at hj
    simp only [Array.getElem?_eq_getElem h1] at hj h3
    simp only [List.mem_map, List.mem_filter] at hj
    obtain ⟨e, ⟨he, hb⟩, rfl⟩ := hj
    simp only [Option.map_some, Option.getD_some, Array.all_eq_true'] at h3
    have := h3 e (by simpa using he)
    simp only [hb, Bool.not_true, Bool.false_or] at this
    unfold Lst
    rw [← getD_both' (by omega)]
    exact this
  · rintro ⟨h1, h2, h3⟩
    refine ⟨h1, by unfold Lst at h2; simpa using h2, ?_⟩
    simp only [Array.getElem?_eq_getElem h1, Option.map_some, Option.getD_some, Array.all_eq_true']
    intro e he
    by_cases hb : Region.binds .any e = true
    · have hm : e.on ∈ afterOf ops i := by
        unfold afterOf
        simp only [Array.getElem?_eq_getElem h1, List.mem_map, List.mem_filter]
        exact ⟨e, ⟨by simpa using he, hb⟩, rfl⟩
      have := h3 _ hm
      have hlt := hac i h1 _ hm
      unfold Lst at this
      rw [← getD_both' (by omega)] at this
      simp [this]
    · simp [hb]
def PhiF (F : Fr) (l : List Oper) (vals : Nat → Value) : Nat → Nat → Option Value
  | 0, t => look F.env t
  | m + 1, t => if (l[m]?).bind (·.dst) = some t then some (vals m) else PhiF F l vals m t
theorem PhiF_cons {F F1 : Fr} {o : Oper} {r : List Oper} {vals vals1 : Nat → Value} {v : Value} (h0 : vals 0 = v) (h1 : ∀ m, vals (m + 1) = vals1 m)
    (hF : ∀ t, look F1.env t = look (F.put o.dst v).env t) : ∀ m t, PhiF F (o :: r) vals (m + 1) t = PhiF F1 r vals1 m t
  | 0, t => by
    simp only [PhiF, List.getElem?_cons_zero, Option.bind_some, h0, hF]
    cases hd : o.dst with
    | none => simp [Fr.put]
    | some d =>
      simp only [Fr.put, look, Option.some.injEq]
      by_cases e : d = t
      · subst e; simp
      · have : Nat.beq d t = false := by cases hb : Nat.beq d t with | false => rfl | true => exact absurd (Nat.eq_of_beq_eq_true hb) e
        rw [if_neg e, this]
  | m + 1, t => by
    have ih := PhiF_cons (r := r) h0 h1 hF m t
    show (if ((o :: r)[m + 1]?).bind (·.dst) = some t then some (vals (m + 1)) else PhiF F (o :: r) vals (m + 1) t) = (if (r[m]?).bind (·.dst) = some t then some (vals1 m) else PhiF F1 r vals1 m t)
    rw [ih, h1, List.getElem?_cons_succ]
theorem PhiF_none {F : Fr} {l : List Oper} {vals : Nat → Value} {t : Nat} : ∀ m, (∀ j, j < m → (l[j]?).bind (·.dst) ≠ some t) → PhiF F l vals m t = look F.env t
  | 0, _ => rfl
  | m + 1, h => by rw [PhiF, if_neg (h m (by omega)), PhiF_none m (fun j hj => h j (by omega))]
theorem PhiF_some {F : Fr} {l : List Oper} {vals : Nat → Value} {t j : Nat} (hj : (l[j]?).bind (·.dst) = some t) (hu : ∀ i, i ≠ j → (l[i]?).bind (·.dst) ≠ some t) : ∀ m, j < m → PhiF F l vals m t = some (vals j)
  | 0, h => by omega
  | m + 1, h => by
    rw [PhiF]
    by_cases e : m = j
    · subst e; rw [if_pos hj]
    · rw [if_neg (hu m e), PhiF_some hj hu m (by omega)]
variable {W : World → Prop} {Rl : World → World → Prop}
/-- one operation, where its own reads are as they should be -/
def Yq (P : Program) (W : World → Prop) (Rl : World → World → Prop) (ops : Array Oper) (o : Oper) (v : Value) (Φ : Nat → Option Value) : Prop :=
  ∀ a : Act, (∀ t ∈ tmpsOf o ++ gdOf ops o, ∀ u, Φ t = some u → a.tmps[t]? = some u) →
    (Region.wanted o (yielded ops a.tmps) = false ∧ v = undef) ∨
    (Region.wanted o (yielded ops a.tmps) = true ∧ ∀ w, W w → (execOp a.eval o).run P w = Result.ok (.value v) w ∨
      ∃ f args, (execOp a.eval o).run P w = Result.ok (.enter f args) w ∧ Cl P f args w (fun u w'' => u = v ∧ Rl w w'') (fun _ _ => False))
theorem ev_of_phi {o : Oper} {F : Fr} {a : Act} {Φ : Nat → Option Value} (hΦ : ∀ t, look F.env t = Φ t) (ha : ∀ t ∈ tmpsOf o, ∀ u, Φ t = some u → a.tmps[t]? = some u) : ∀ x u, evR o F x = some u → a.eval x = u := by
  intro x u h
  cases x with
  | tmp t =>
    simp only [evR] at h
    split at h
    · rename_i hm
      have hmem : t ∈ tmpsOf o := by
        clear ha h
        generalize tmpsOf o = l at hm
        induction l with
        | nil => simp [memN] at hm
        | cons y r ih =>
          simp only [memN] at hm
          split at hm
          · rename_i he; have := Nat.eq_of_beq_eq_true he; subst this; simp
          · exact List.mem_cons_of_mem _ (ih hm)
      have := ha t hmem u (by rw [← hΦ]; exact h)
      simp [Act.eval, Array.getD_eq_getD_getElem?, this]
    · simp at h
  | const c => simpa [evR, Act.eval] using h
  | global g => simpa [evR, Act.eval] using h
  | func f => simpa [evR, Act.eval] using h
theorem look_put_same {F : Fr} {d : Nat} {v : Value} (h : look F.env d = some v) (t : Nat) : look (F.put (some d) v).env t = look F.env t := by
  simp only [Fr.put, look]
  split
  · rename_i he; have := Nat.eq_of_beq_eq_true he; subst this; exact h.symm
  · rfl
theorem look_put_congr {F F' : Fr} (h : ∀ t, look F.env t = look F'.env t) (d : Option Nat) (v : Value) (t : Nat) : look (F.put d v).env t = look (F'.put d v).env t := by
  cases d with
  | none => exact h t
  | some d => simp only [Fr.put, look]; split <;> simp_all
theorem guardV_spec {F : Fr} {j d : Nat} {v : Value} (hg : guardV ops.toList F j = some (d, v)) : look F.env d = some v ∧ dstOf ops j = some d := by
  unfold guardV at hg
  split at hg; · simp at hg
  rename_i o ho
  split at hg; · simp at hg
  rename_i d' hd
  split at hg <;> simp at hg
  rename_i u hu
  obtain ⟨rfl, rfl⟩ := hg
  refine ⟨hu, ?_⟩
  unfold dstOf
  have : ops[j]? = some o := by simpa using ho
  simp [this, hd]
def ybool : Value → Option Bool
  | .bool b => some b
  | _ => none
theorem yielded_of {a : Act} {j d : Nat} {v : Value} (hd : dstOf ops j = some d) (h : a.tmps[d]? = some v) : yielded ops a.tmps j = ybool v := by
  unfold yielded
  unfold dstOf at hd
  simp only [hd, Option.bind_some, h]
  cases v <;> rfl
theorem quOps_trace (hT : TabOk P T) : ∀ (l : List Oper) (F : Fr) (k : Fr → Prop), quOps P T n W Rl ops.toList l F k →
    ∃ (vals : Nat → Value) (F' : Fr), (∀ m o, l[m]? = some o → dstOk n o.dst = true ∧ Yq P W Rl ops o (vals m) (PhiF F l vals m)) ∧ (∀ t, look F'.env t = PhiF F l vals l.length t) ∧ F'.ds = F.ds ∧ k F'
  | [], F, k, h => ⟨fun _ => undef, F, fun m o h => by simp at h, fun t => rfl, rfl, h⟩
  | o :: r, F, k, h => by
    change stepQu P T n W Rl ops.toList o r (quOps P T n W Rl ops.toList r) F k at h
    unfold stepQu at h
    split at h; · exact h.elim
    rename_i hd
    -- what is left: a value, a frame that looks like F with it
    have key : ∀ (v : Value) (F1 : Fr), (∀ t, look F1.env t = look (F.put o.dst v).env t) → F1.ds = F.ds → Yq P W Rl ops o v (look F.env) → quOps P T n W Rl ops.toList r F1 k →
        ∃ (vals : Nat → Value) (F' : Fr), (∀ m o', (o :: r)[m]? = some o' → dstOk n o'.dst = true ∧ Yq P W Rl ops o' (vals m) (PhiF F (o :: r) vals m)) ∧ (∀ t, look F'.env t = PhiF F (o :: r) vals (o :: r).length t) ∧ F'.ds = F.ds ∧ k F' := by
      intro v F1 hF1 hds hy hq
      obtain ⟨vals1, F', h1, h2, h3, h4⟩ := quOps_trace hT r F1 k hq
      have hcons := PhiF_cons (F := F) (F1 := F1) (o := o) (r := r) (vals := fun m => match m with | 0 => v | m + 1 => vals1 m) (vals1 := vals1) rfl (fun _ => rfl) hF1
      refine ⟨fun m => match m with | 0 => v | m + 1 => vals1 m, F', fun m o' ho => ?_, fun t => ?_, h3.trans hds, h4⟩
      · cases m with
        | zero =>
          simp at ho; subst ho
          exact ⟨hd, hy⟩
        | succ m =>
          simp at ho
          obtain ⟨g1, g2⟩ := h1 m o' ho
          refine ⟨g1, ?_⟩
          have : PhiF F (o :: r) (fun m => match m with | 0 => v | m + 1 => vals1 m) (m + 1) = PhiF F1 r vals1 m := funext (hcons m)
          rw [this]; exact g2
      · rw [List.length_cons, hcons, h2]
    split at h
    · rename_i hg
      obtain ⟨v, hv, hr⟩ := quOp_run hT h
      refine key v _ (fun t => rfl) (by cases o.dst <;> rfl) (fun a ha => .inr ⟨wanted_none hg, fun w hw => hr a (ev_of_phi (fun t => rfl) fun t ht u hu => ha t (by simp [ht]) u hu) w hw⟩) hv
    · rename_i j want hg
      split at h; · exact h.elim
      rename_i d v hgv
      obtain ⟨hl, hdj⟩ := guardV_spec hgv
      have hgm : d ∈ tmpsOf o ++ gdOf ops o := by simp [gdOf, hg, hdj]
      have hyl : ∀ a : Act, (∀ t ∈ tmpsOf o ++ gdOf ops o, ∀ u, look F.env t = some u → a.tmps[t]? = some u) → yielded ops a.tmps j = ybool v := fun a ha => yielded_of hdj (ha d hgm v hl)
      have sk : ∀ F1 : Fr, (∀ t, look F1.env t = look F.env t) → F1.ds = F.ds → (∀ a : Act, (∀ t ∈ tmpsOf o ++ gdOf ops o, ∀ u, look F.env t = some u → a.tmps[t]? = some u) → Region.wanted o (yielded ops a.tmps) = false) →
          quOps P T n W Rl ops.toList r (F1.put o.dst undef) k →
          ∃ (vals : Nat → Value) (F' : Fr), (∀ m o', (o :: r)[m]? = some o' → dstOk n o'.dst = true ∧ Yq P W Rl ops o' (vals m) (PhiF F (o :: r) vals m)) ∧ (∀ t, look F'.env t = PhiF F (o :: r) vals (o :: r).length t) ∧ F'.ds = F.ds ∧ k F' := fun F1 hF1 hds hno hq =>
        key undef _ (look_put_congr hF1 o.dst undef) (by cases o.dst <;> exact hds) (fun a ha => .inl ⟨hno a ha, rfl⟩) hq
      have ex : ∀ F1 : Fr, (∀ t, look F1.env t = look F.env t) → F1.ds = F.ds → (∀ a : Act, (∀ t ∈ tmpsOf o ++ gdOf ops o, ∀ u, look F.env t = some u → a.tmps[t]? = some u) → Region.wanted o (yielded ops a.tmps) = true) →
          quOp P T W Rl (evR o F1) o (fun v => quOps P T n W Rl ops.toList r (F1.put o.dst v) k) →
          ∃ (vals : Nat → Value) (F' : Fr), (∀ m o', (o :: r)[m]? = some o' → dstOk n o'.dst = true ∧ Yq P W Rl ops o' (vals m) (PhiF F (o :: r) vals m)) ∧ (∀ t, look F'.env t = PhiF F (o :: r) vals (o :: r).length t) ∧ F'.ds = F.ds ∧ k F' := fun F1 hF1 hds hyes hq => by
        obtain ⟨v, hv, hr⟩ := quOp_run hT hq
        exact key v _ (look_put_congr hF1 o.dst v) (by cases o.dst <;> exact hds) (fun a ha => .inr ⟨hyes a ha, fun w hw => hr a (ev_of_phi hF1 fun t ht u hu => ha t (by simp [ht]) u hu) w hw⟩) hv
      split at h
      · rename_i b
        simp only [ybool] at hyl
        split at h
        · cases b
          · exact sk _ (look_put_same hl) rfl (fun a ha => by simp [Region.wanted, hg, hyl a ha]) (h.2 rfl)
          · exact ex _ (look_put_same hl) rfl (fun a ha => by simp [Region.wanted, hg, hyl a ha]) (h.1 rfl)
        · cases b
          · exact ex _ (look_put_same hl) rfl (fun a ha => by simp [Region.wanted, hg, hyl a ha]) (h.2 rfl)
          · exact sk _ (look_put_same hl) rfl (fun a ha => by simp [Region.wanted, hg, hyl a ha]) (h.1 rfl)
      · simp only [ybool] at hyl
        exact sk F (fun _ => rfl) rfl (fun a ha => by simp [Region.wanted, hg, hyl a ha]) h
      · exact h.elim
def ix (k i : Nat) : Nat := if i < k then i else i - 1
def quL (ops : Array Oper) (k : Nat) : List Oper := (ops.toList.dropLast).eraseIdx k
theorem quL_get {i : Nat} (_hk : k + 1 < ops.size) (hi : i + 1 < ops.size) (hne : i ≠ k) : (quL ops k)[ix k i]? = ops[i]? := by
  unfold quL ix
  rw [List.getElem?_eraseIdx]
  by_cases h : i < k
  · rw [if_pos h, if_pos h, List.getElem?_dropLast, if_pos (by simp; omega)]; simp
  · rw [if_neg h, if_neg (by omega), show i - 1 + 1 = i by omega, List.getElem?_dropLast, if_pos (by simp; omega)]; simp
theorem quL_get' {m : Nat} (hk : k + 1 < ops.size) : (quL ops k)[m]? = if m < k then ops[m]? else if m + 2 < ops.size then ops[m + 1]? else none := by
  unfold quL
  rw [List.getElem?_eraseIdx]
  by_cases h : m < k
  · rw [if_pos h, if_pos h, List.getElem?_dropLast, if_pos (by simp; omega)]; simp
  · rw [if_neg h, if_neg h, List.getElem?_dropLast]
    by_cases h2 : m + 2 < ops.size
    · rw [if_pos h2, if_pos (by simp; omega)]; simp
    · rw [if_neg h2, if_neg (by simp; omega)]
theorem quL_len (hk : k + 1 < ops.size) : (quL ops k).length = ops.size - 2 := by
  unfold quL
  rw [List.length_eraseIdx, if_pos (by simp; omega)]
  simp; omega
theorem Dr.al (hT : TabOk P T) (hm : P.follows .mixedOrders = true) (k : Nat) {id : Nat} {F : Fr} {w : World} {K : Exit → Fr → World → Prop} {ty : TypeId} {ti : TI} {ok of : Oper} {dk : Nat}
    (hB : alB ops k = true) (hk : ops[k]? = some ok) (hko : ok.op = .alloc ty) (hkg : ok.guard = none) (hkd : ok.dst = some dk) (hkn : dstOk n (some dk) = true) (hti : getT T.ts ty = some ti)
    (hf : ops.toList.getLast? = some of) (hfg : of.guard = none)
    (h : ∀ W, QW W w Ext → quOps P T n W Ext ops.toList (quL ops k) F (fun F' => ∀ p w', w.heap.size ≤ p → Ext w w' → Blk w' p ty ti.zero.cells.toList →
      exOps P T n ops.toList [of] (F'.put (some dk) (.pointer (some ⟨p, 0, none⟩))) w' (fun F w => K .normal F w) (fun ch F w => K (.panic ch) F w))) : Dr P n id ops F w K := by
  obtain ⟨hk1, hac, hlast, huq⟩ := alB_spec hB
  obtain ⟨vals, F', hY, hlook, hds, hfin⟩ := quOps_trace hT (quL ops k) F _ (h (fun x => Ext w x) ⟨fun _ q => q, fun a b q r => q.trans r⟩)
  have hN : ops.size - 1 < ops.size := by omega
  have hofx : ops[ops.size - 1]? = some of := by
    rw [List.getLast?_eq_getElem?] at hf
    simpa using hf
  have hlenq := quL_len (ops := ops) hk1
  have hdq : ∀ m, ((quL ops k)[m]?).bind (·.dst) = if m < k then dstOf ops m else if m + 2 < ops.size then dstOf ops (m + 1) else none := fun m => by
    rw [quL_get' hk1]
    unfold dstOf
    split
    · rfl
    · split <;> rfl
  -- the look of a slot ahead of operation i
  have hPhi : ∀ (i : Nat), i + 1 < ops.size → i ≠ k → ∀ (t : Nat) (M : Nat), (∀ j, j + 1 < ops.size → j ≠ k → dstOf ops j = some t → ix k j < M → False) → PhiF F (quL ops k) vals M t = look F.env t := by
    intro i hi hne t M hno
    refine PhiF_none M fun m hm hd => ?_
    rw [hdq] at hd
    split at hd
    · rename_i hlt
      exact hno m (by omega) (by omega) hd (by unfold ix; rw [if_pos hlt]; exact hm)
    · rename_i hge
      split at hd
      · rename_i hlt
        exact hno (m + 1) (by omega) (by omega) hd (by unfold ix; rw [if_neg (by omega)]; omega)
      · simp at hd
  have hPhiW : ∀ (j t M : Nat), j + 1 < ops.size → j ≠ k → dstOf ops j = some t → ix k j < M → PhiF F (quL ops k) vals M t = some (vals (ix k j)) := by
    intro j t M hj hjk hd hlt
    refine PhiF_some ?_ (fun m hm hd' => ?_) M hlt
    · rw [quL_get hk1 hj hjk]; exact hd
    · rw [hdq] at hd'
      split at hd'
      · rename_i hmk
        have hmj : m ≠ j := fun e => by subst e; unfold ix at hm; rw [if_pos hmk] at hm; exact hm rfl
        exact (huq j (by omega) m (by omega) (fun e => hmj e.symm)).1 (by rw [hd]; simp) (by rw [hd, hd'])
      · rename_i hmk
        split at hd'
        · have hmj : m + 1 ≠ j := fun e => by subst e; unfold ix at hm; rw [if_neg (by omega)] at hm; exact hm (by omega)
          exact (huq j (by omega) (m + 1) (by omega) (fun e => hmj e.symm)).1 (by rw [hd]; simp) (by rw [hd, hd'])
        · simp at hd'
  refine ⟨fun a0 ha0 => ?_⟩
  refine wp_region_any hm ?_
  -- the state while operations come up
  have main : ∀ (fuel : Nat) (listed : Array Bool) (a : Act) (w' : World), listed.size = ops.size → Closed ops listed → cnt listed ops.size ≤ fuel → ¬ Lst listed (ops.size - 1) → Ext w w' →
      a.tmps.size = n → a.defers = F.ds → (∀ i, i + 1 < ops.size → i ≠ k → Lst listed i → ∀ d, dstOf ops i = some d → a.tmps[d]? = some (vals (ix k i))) →
      (∀ t u, look F.env t = some u → (∀ i, i < ops.size → Lst listed i → dstOf ops i ≠ some t) → a.tmps[t]? = some u) →
      (Lst listed k → ∃ p, a.tmps[dk]? = some (.pointer (some ⟨p, 0, none⟩)) ∧ Blk w' p ty ti.zero.cells.toList ∧ w.heap.size ≤ p) →
      wpAny P .any ops (Lift n K) fuel listed a w' := by
    intro fuel
    induction fuel with
    | zero => intro listed a w' _ _ hc hnl; exact absurd (cnt_pos listed _ hnl ops.size hN) (by omega)
    | succ fuel ih =>
      intro listed a w' hs hcl hc hnl hx hsz hdf hA hB' hC
      refine ⟨fun hr => ?_, fun i hi => ?_⟩
      · -- some operation is ready
        exfalso
        have : ∃ i, i < ops.size ∧ ¬ Lst listed i ∧ ∀ j, j < i → Lst listed j := by
          have : ∀ m, m ≤ ops.size - 1 → (∀ j, j < m → Lst listed j) ∨ ∃ i, i < ops.size ∧ ¬ Lst listed i ∧ ∀ j, j < i → Lst listed j := by
            intro m
            induction m with
            | zero => intro _; exact .inl fun j hj => by omega
            | succ m ihm =>
              intro hm
              rcases ihm (by omega) with h1 | h1
              · by_cases hl : Lst listed m
                · exact .inl fun j hj => (Nat.lt_or_ge j m).elim (h1 j) fun h2 => (show j = m by omega) ▸ hl
                · exact .inr ⟨m, by omega, hl, h1⟩
              · exact .inr h1
          rcases this (ops.size - 1) (Nat.le_refl _) with h1 | h1
          · exact ⟨ops.size - 1, hN, hnl, h1⟩
          · exact h1
        obtain ⟨i, h1, h2, h3⟩ := this
        have := (mem_ready hs hac).2 ⟨h1, h2, fun j hj => h3 j (hac i h1 j hj)⟩
        rw [hr] at this
        exact absurd this (by simp)
      · obtain ⟨hi1, hi2, hi3⟩ := (mem_ready hs hac).1 hi
        have hs' : (listed.setIfInBounds i true).size = ops.size := by simpa using hs
        have hLs : ∀ j, Lst (listed.setIfInBounds i true) j ↔ j = i ∨ Lst listed j := fun j => by
          unfold Lst; rw [getD_set _ _ _ (by omega)]; by_cases e : j = i <;> simp [e]
        have hcl' : Closed ops (listed.setIfInBounds i true) := fun m hm hl j hj => by
          rw [hLs] at hl ⊢
          rcases hl with rfl | hl
          · exact .inr (hi3 j hj)
          · exact .inr (hcl m hm hl j hj)
        have hc' : cnt (listed.setIfInBounds i true) ops.size ≤ fuel := by
          have := cnt_set listed i (by omega) hi2 ops.size
          rw [if_pos hi1] at this; omega
        have hanc : ∀ j, j ∈ ancF ops ops.size i → Lst listed j := fun j hj => by
          have := closed_anc hcl' hac ops.size i j hi1 ((hLs i).2 (.inl rfl)) hj
          rcases (hLs j).1 this with rfl | h1
          · -- no operation is ahead of itself
            exfalso
            have lt : ∀ (f m j : Nat), m < ops.size → j ∈ ancF ops f m → j < m := by
              intro f
              induction f with
              | zero => intro m j _ h; simp [ancF] at h
              | succ f ihf =>
                intro m j hm h
                simp only [ancF, List.mem_flatMap, List.mem_cons] at h
                obtain ⟨q, hq, h⟩ := h
                have hqm := hac m hm q hq
                rcases h with rfl | h
                · exact hqm
                · have := ihf q j (by omega) h; omega
            have := lt _ _ _ hi1 hj; omega
          · exact h1
        unfold wpOp
        by_cases hlast' : i = ops.size - 1
        · -- the last one
          subst hlast'
          have hall : ∀ j, j < ops.size - 1 → Lst listed j := fun j hj => hanc j (hlast j hj)
          simp only [hofx]
          obtain ⟨p, hp1, hp2, hp3⟩ := hC (hall k (by omega))
          have hagr : Agr n (F'.put (some dk) (.pointer (some ⟨p, 0, none⟩))) a := by
            refine ⟨hsz, by simpa [Fr.put, hds] using hdf, fun t u ht => ?_⟩
            simp only [Fr.put, look] at ht
            split at ht
            · rename_i he; have := Nat.eq_of_beq_eq_true he; subst this
              simp at ht; subst ht; exact hp1
            · rename_i he
              have hne : dk ≠ t := fun e => by subst e; simp at he
              rw [hlook] at ht
              by_cases hw : ∃ j, j + 1 < ops.size ∧ j ≠ k ∧ dstOf ops j = some t
              · obtain ⟨j, h1, h2, h3⟩ := hw
                rw [hPhiW j t _ h1 h2 h3 (by rw [hlenq]; unfold ix; split <;> omega)] at ht
                simp at ht; subst ht
                exact hA j h1 h2 (hall j (by omega)) t h3
              · rw [PhiF_none] at ht
                · refine hB' t u ht fun j hj hl hd => ?_
                  by_cases e1 : j = ops.size - 1
                  · subst e1; exact hnl hl
                  · by_cases e2 : j = k
                    · subst e2
                      unfold dstOf at hd
                      rw [hk] at hd
                      simp [hkd] at hd
                      exact hne hd
                    · exact hw ⟨j, by omega, e2, hd⟩
                · intro m hm hd
                  rw [hdq] at hd
                  split at hd
                  · exact hw ⟨m, by omega, by omega, hd⟩
                  · split at hd
                    · exact hw ⟨m + 1, by omega, by omega, hd⟩
                    · simp at hd
          have hwp := exOps_sound hT ops.toList (Q := Lift n K) [of] _ a w' _ _ hagr (hfin p w' hp3 hx hp2) (fun F a w ha q => ⟨F, ha, q⟩) (fun ch F a w ha q => ⟨F, ha, q⟩)
          unfold wpList at hwp
          rw [if_pos (wanted_none hfg)] at hwp ⊢
          have hready : Region.ready .any ops (listed.setIfInBounds (ops.size - 1) true) = [] := by
            rw [List.eq_nil_iff_forall_not_mem]
            intro j hj
            obtain ⟨h1, h2, _⟩ := (mem_ready hs' hac).1 hj
            refine h2 ((hLs j).2 ?_)
            by_cases e : j = ops.size - 1
            · exact .inl e
            · exact .inr (hall j (by omega))
          rcases hwp with hwp | hwp
          · refine .inl (Oper.wp_mono (fun a w q => ?_) hwp)
            cases fuel with
            | zero => exact ⟨hready, q⟩
            | succ f => exact ⟨fun _ => q, fun j hj => by rw [hready] at hj; exact absurd hj (by simp)⟩
          · exact .inr hwp
        · have hi' : i + 1 < ops.size := by omega
          have hnl' : ¬ Lst (listed.setIfInBounds i true) (ops.size - 1) := fun e => by
            rcases (hLs _).1 e with e | e
            · omega
            · exact hnl e
          by_cases hik : i = k
          · -- the new block
            subst hik
            simp only [hk]
            rw [if_pos (wanted_none hkg)]
            refine .inl ?_
            unfold Oper.wp
            have hrun : (execOp a.eval ok).run P w' = Result.ok (.value (.pointer (some ⟨w'.heap.size, 0, none⟩))) (w'.alloc (.cells ti.zero.cells ty)) := by
              unfold execOp
              simp [hko, Instr.alloc, run_zero hT.1 hti, newVar, newRow]
            refine upon_val hrun ?_
            have hxa := Ext.alloc w' (.cells ti.zero.cells ty)
            have hdn : dk < a.tmps.size := by rw [hsz]; simpa [dstOk] using hkn
            refine ih _ _ _ hs' hcl' hc' hnl' (hx.trans hxa) (by simp [hkd, Act.put, hsz]) (by simpa [hkd, Act.put] using hdf) (fun j hj hjk hl d hd => ?_) (fun t u ht hno => ?_) (fun _ => ⟨w'.heap.size, ?_, ?_, hx.size⟩)
            · have hne : dk ≠ d := fun e => by
                subst e
                refine (huq i hi1 j (by omega) (fun e => hjk e.symm)).1 ?_ ?_ <;> simp [dstOf, hk, hkd] at hd ⊢
                exact hd
              simp only [hkd, Act.put]
              rw [Array.getElem?_setIfInBounds_ne hne]
              exact hA j hj hjk (((hLs j).1 hl).resolve_left hjk) d hd
            · have hne : dk ≠ t := fun e => by
                subst e
                exact hno i hi1 ((hLs i).2 (.inl rfl)) (by simp [dstOf, hk, hkd])
              simp only [hkd, Act.put]
              rw [Array.getElem?_setIfInBounds_ne hne]
              exact hB' t u ht fun j hj hl => hno j hj ((hLs j).2 (.inr hl))
            · simp only [hkd, Act.put]
              rw [Array.getElem?_setIfInBounds_self_of_lt hdn]
            · unfold Blk; show (w'.heap.push _)[w'.heap.size]? = _; simp
          · -- one that changes nothing
            obtain ⟨o, ho⟩ : ∃ o, ops[i]? = some o := ⟨ops[i], Array.getElem?_eq_getElem hi1⟩
            obtain ⟨hdo, hy⟩ := hY (ix k i) o (by rw [quL_get hk1 hi' hik]; exact ho)
            simp only [ho]
            have hreads : ∀ t ∈ tmpsOf o ++ gdOf ops o, ∀ u, PhiF F (quL ops k) vals (ix k i) t = some u → a.tmps[t]? = some u := by
              intro t ht u hu
              have hrd : t ∈ rdOf ops i := by unfold rdOf; simp only [ho]; exact ht
              by_cases hw : ∃ j, j < ops.size ∧ j ≠ i ∧ dstOf ops j = some t
              · obtain ⟨j, h1, h2, h3⟩ := hw
                obtain ⟨hjk, hor⟩ := (huq i hi1 j h1 (fun e => h2 e.symm)).2 hik (by omega) t hrd h3
                rcases hor with ⟨hlt, han⟩ | ⟨hlt, han⟩
                · have hlj := hanc j han
                  rw [hPhiW j t _ (by omega) hjk h3 (by unfold ix; split <;> split <;> omega)] at hu
                  simp at hu; subst hu
                  exact hA j (by omega) hjk hlj t h3
                · -- j comes behind: it isn't listed, nobody has written t
                  have hnlj : ¬ Lst listed j := fun hl => by
                    have := closed_anc hcl hac ops.size j i h1 hl han
                    exact hi2 this
                  have honly : ∀ m, m < ops.size → m ≠ j → dstOf ops m ≠ some t := fun m hm hmj hd => (huq j h1 m hm (fun e => hmj e.symm)).1 (by rw [h3]; simp) (by rw [h3, hd])
                  rw [hPhi i hi' hik t _ (fun m hm hmk hd hlt' => by
                    by_cases e : m = j
                    · subst e; unfold ix at hlt'; split at hlt' <;> split at hlt' <;> omega
                    · exact honly m (by omega) e hd)] at hu
                  exact hB' t u hu fun m hm hl hd => by
                    by_cases e : m = j
                    · subst e; exact hnlj hl
                    · exact honly m hm e hd
              · rw [hPhi i hi' hik t _ (fun m hm hmk hd hlt' => by
                  by_cases e : m = i
                  · subst e; omega
                  · exact hw ⟨m, by omega, e, hd⟩)] at hu
                exact hB' t u hu fun m hm hl hd => by
                  by_cases e : m = i
                  · subst e; exact hi2 hl
                  · exact hw ⟨m, hm, e, hd⟩
            have hnext : ∀ w'', Ext w' w'' → wpAny P .any ops (Lift n K) fuel (listed.setIfInBounds i true) (a.put o.dst (vals (ix k i))) w'' := fun w'' hx' => by
              have hdi : dstOf ops i = o.dst := by simp [dstOf, ho]
              refine ih _ _ _ hs' hcl' hc' hnl' (hx.trans hx') ?_ ?_ (fun j hj hjk hl d hd => ?_) (fun t u ht hno => ?_) (fun hl => ?_)
              · cases o.dst <;> simp [Act.put, hsz]
              · cases o.dst <;> simpa [Act.put] using hdf
              · by_cases e : j = i
                · subst e
                  rw [hdi] at hd
                  rw [hd] at hdo ⊢
                  simp only [Act.put]
                  rw [Array.getElem?_setIfInBounds_self_of_lt (by rw [hsz]; simpa [dstOk] using hdo)]
                · have := hA j hj hjk (((hLs j).1 hl).resolve_left e) d hd
                  cases hod : o.dst with
                  | none => exact this
                  | some d' =>
                    have hne : d' ≠ d := fun e' => by
                      subst e'
                      exact (huq i hi1 j (by omega) (fun e'' => e e''.symm)).1 (by rw [hdi, hod]; simp) (by rw [hdi, hod, hd])
                    simp only [Act.put]
                    rw [Array.getElem?_setIfInBounds_ne hne]
                    exact this
              · have := hB' t u ht fun j hj hl => hno j hj ((hLs j).2 (.inr hl))
                cases hod : o.dst with
                | none => exact this
                | some d' =>
                  have hne : d' ≠ t := fun e' => by subst e'; exact hno i hi1 ((hLs i).2 (.inl rfl)) (by rw [hdi, hod])
                  simp only [Act.put]
                  rw [Array.getElem?_setIfInBounds_ne hne]
                  exact this
              · obtain ⟨p, g1, g2, g3⟩ := hC (((hLs k).1 hl).resolve_left (fun e => hik e.symm))
                refine ⟨p, ?_, g2.ext hx', g3⟩
                cases hod : o.dst with
                | none => exact g1
                | some d' =>
                  have hne : d' ≠ dk := fun e' => by
                    subst e'
                    exact (huq i hi1 k (by omega) hik).1 (by rw [hdi, hod]; simp) (by rw [hdi, hod]; simp [dstOf, hk, hkd])
                  simp only [Act.put]
                  rw [Array.getElem?_setIfInBounds_ne hne]
                  exact g1
            rcases hy a hreads with ⟨hno, hv⟩ | ⟨hyes, hrun⟩
            · rw [if_neg (by rw [hno]; simp)]
              rw [← hv]
              exact hnext w' (Ext.refl _)
            · rw [if_pos hyes]
              refine .inl ?_
              unfold Oper.wp
              rcases hrun w' hx with e | ⟨f, args, e, hcl2⟩
              · exact upon_val e (hnext w' (Ext.refl _))
              · rw [e]
                refine Calls.mono hcl2.out fun en w'' q => ?_
                cases en with
                | returned u => obtain ⟨q1, q2⟩ := q; subst q1; exact hnext w'' q2
                | panicked ch => exact q.elim
                | outgrown => exact q.elim
  refine main ops.size _ a0 _ (by simp) (fun i hi hl => ?_) ?_ ?_ ⟨rfl, rfl, rfl, Nat.le_refl _, fun _ _ => rfl⟩ ha0.1 ha0.2.1 (fun i hi _ hl => ?_) (fun t u ht _ => ha0.2.2 t u ht) (fun hl => ?_)
  · exact absurd hl (by unfold Lst; simp [Array.getD_eq_getD_getElem?, hi])
  · have : ∀ m, m ≤ ops.size → cnt (Array.replicate ops.size false) m ≤ m := by
      intro m
      induction m with
      | zero => intro _; simp [cnt]
      | succ m ihm => intro h; have := ihm (by omega); simp only [cnt]; split <;> omega
    exact this _ (Nat.le_refl _)
  · unfold Lst; simp [Array.getD_eq_getD_getElem?, hN]
  · exact absurd hl (by unfold Lst; simp [Array.getD_eq_getD_getElem?, show i < ops.size by omega])
  · exact absurd hl (by unfold Lst; simp [Array.getD_eq_getD_getElem?, show k < ops.size by omega])
end
end Go.Sh
