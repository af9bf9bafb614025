/- The evaluator of code over known slots, fourth part: regions and code; own work. -/
import Derived.Test.YtbbadmlekagloaaDoorShC
namespace Go.Sh

def dstOk (n : Nat) : Option Nat → Bool
  | none => true
  | some d => Nat.blt d n
def guardV (all : List Oper) (F : Fr) (j : Nat) : Option (Nat × Value) :=
  match all[j]? with
  | none => none
  | some o => match o.dst with
    | none => none
    | some d => match look F.env d with | some v => some (d, v) | none => none
section
variable (P : Program) (T : Tab) (n : Nat)
def stepOps (all : List Oper) (o : Oper) (_r : List Oper) (ih : Fr → World → (Fr → World → Prop) → (List PanicEntry → Fr → World → Prop) → Prop)
    (F : Fr) (w : World) (k : Fr → World → Prop) (X : List PanicEntry → Fr → World → Prop) : Prop :=
    match dstOk n o.dst with
    | false => False
    | true => match o.guard with
      | none => match o.op with
        | .defer c => alo (allSome (c.args.toList.map (evF F))) fun args => match c.callee with
          | .value f => obp (evF F f) fun vf => match vf with
            | .func fn first cap => ih (({ F with ds := { target := .fn fn cap, args := first ++ args.toArray } :: F.ds } : Fr).put o.dst undef) w k X
            | _ => False
          | _ => False
        | _ => exOp P T (evF F) o w (fun v w' => ih (F.put o.dst v) w' k X) (fun ch w' => X ch F w')
      | some (j, want) => match guardV all F j with
        | none => False
        | some (d, v) => match v with
          | .bool b => match want with
            | true => Gd b (exOp P T (evF (F.put (some d) (.bool true))) o w (fun v w' => ih ((F.put (some d) (.bool true)).put o.dst v) w' k X) (fun ch w' => X ch (F.put (some d) (.bool true)) w'))
                (ih ((F.put (some d) (.bool false)).put o.dst undef) w k X)
            | false => Gd b (ih ((F.put (some d) (.bool true)).put o.dst undef) w k X)
                (exOp P T (evF (F.put (some d) (.bool false))) o w (fun v w' => ih ((F.put (some d) (.bool false)).put o.dst v) w' k X) (fun ch w' => X ch (F.put (some d) (.bool false)) w'))
          | .tuple _ => ih (F.put o.dst undef) w k X
          | _ => False
def exOps (all : List Oper) (l : List Oper) : Fr → World → (Fr → World → Prop) → (List PanicEntry → Fr → World → Prop) → Prop :=
  List.rec (motive := fun _ => Fr → World → (Fr → World → Prop) → (List PanicEntry → Fr → World → Prop) → Prop) (fun F w k _ => k F w) (stepOps P T n all) l

def Lift (K : Exit → Fr → World → Prop) : Exit → Act → World → Prop := fun e a w => ∃ F, Agr n F a ∧ K e F w
/-- a loop, and a region whose order is drawn: as they are -/
structure Lp (c : Code) (F : Fr) (w : World) (K : Exit → Fr → World → Prop) : Prop where
  of ::
  out : ∀ a, Agr n F a → (Code.loop c).wp P (Lift n K) a w
structure Dr (id : Nat) (ops : Array Oper) (F : Fr) (w : World) (K : Exit → Fr → World → Prop) : Prop where
  of ::
  out : ∀ a, Agr n F a → (Code.region id ops true).wp P (Lift n K) a w
structure Sq (x : (Exit → Fr → World → Prop) → Prop) (y : Fr → World → Prop) (K : Exit → Fr → World → Prop) : Prop where
  of ::
  out : x fun e F w => match e with | .normal => y F w | e => K e F w
abbrev CC := Fr → World → (Exit → Fr → World → Prop) → Prop
def cN : CC := fun F w K => K .normal F w
def cF : CC := fun _ _ _ => False
def cRegion (id : Nat) (ops : Array Oper) (draw : Bool) : CC := fun F w K =>
  match draw with
    | false => exOps P T n ops.toList ops.toList F w (fun F w => K .normal F w) (fun ch F w => K (.panic ch) F w)
    | true => Dr P n id ops F w K
def cSeq (x y : CC) : CC := fun F w K => Sq (fun K' => x F w K') (fun F w => y F w K) K
def cCond (c : Operand) (x y : CC) : CC := fun F w K => obp (evF F c) fun v => match v with | .bool b => Gd b (x F w K) (y F w K) | _ => False
def cBlock (id : Nat) (x : CC) : CC := fun F w K => x F w fun e F w => match e with
    | .exit i => match Nat.beq i id with | true => K .normal F w | false => K (.exit i) F w
    | e => K e F w
def cScope (x : CC) : CC := fun F w K => x F w fun e F w => match e with | .goto _ => False | e => K e F w
def exC (c : Code) : CC :=
  Code.rec (motive := fun _ => CC) cN (cRegion P T n) (fun _ _ x y => cSeq x y) (fun c _ _ x y => cCond c x y) (fun id _ x => cBlock id x) (fun c _ => fun F w K => Lp P n c F w K)
    (fun _ _ _ _ _ _ => cF) (fun id => fun F w K => K (.exit id) F w) (fun _ x => cScope x) (fun _ => cN) (fun l => fun F w K => K (.goto l) F w) (fun F w K => K .ret F w) (fun _ => cF) c

variable {P T n}
theorem Agr.ev {F : Fr} {a : Act} (h : Agr n F a) : ∀ x v, evF F x = some v → a.eval x = v := by
  intro x v hx
  cases x with
  | tmp t =>
    have := h.2.2 t v hx
    simp [Act.eval, Array.getD_eq_getD_getElem?, this]
  | const c => simpa [evF, Act.eval] using hx
  | global g => simpa [evF, Act.eval] using hx
  | func f => simpa [evF, Act.eval] using hx
theorem Agr.put {F : Fr} {a : Act} (h : Agr n F a) {d : Option Nat} (hd : dstOk n d = true) (v : Value) : Agr n (F.put d v) (a.put d v) := by
  cases d with
  | none => exact h
  | some d =>
    obtain ⟨h1, h2, h3⟩ := h
    have hd' : d < n := by simpa [dstOk] using hd
    refine ⟨by simpa [Act.put] using h1, by simpa [Act.put, Fr.put] using h2, fun t u ht => ?_⟩
    simp only [Fr.put, look] at ht
    split at ht
    · rename_i he
      have := Nat.eq_of_beq_eq_true he
      subst this
      simp at ht
      subst ht
      simp only [Act.put]
      rw [Array.getElem?_setIfInBounds_self_of_lt (by omega)]
    · rename_i he
      have hne : d ≠ t := fun e => by subst e; simp at he
      simp only [Act.put]
      rw [Array.getElem?_setIfInBounds_ne hne]
      exact h3 t u ht
theorem Agr.same {F : Fr} {a : Act} (h : Agr n F a) {d : Nat} {v : Value} (hl : look F.env d = some v) : Agr n (F.put (some d) v) a := by
  obtain ⟨h1, h2, h3⟩ := h
  refine ⟨h1, h2, fun t u ht => ?_⟩
  simp only [Fr.put, look] at ht
  split at ht
  · rename_i he
    have := Nat.eq_of_beq_eq_true he
    subst this
    simp at ht
    subst ht
    exact h3 _ _ hl
  · exact h3 t u ht
theorem wanted_none {o : Oper} {y : Nat → Option Bool} (h : o.guard = none) : Region.wanted o y = true := by simp [Region.wanted, h]
theorem guard_yield {all : List Oper} {F : Fr} {a : Act} (h : Agr n F a) {j d : Nat} {v : Value} (hg : guardV all F j = some (d, v)) :
    look F.env d = some v ∧ yielded all.toArray a.tmps j = (match v with | .bool b => some b | _ => none) := by
  unfold guardV at hg
  split at hg; · simp at hg
  rename_i o ho
  split at hg; · simp at hg
  rename_i d' hd
  split at hg <;> simp at hg
  rename_i u hu
  obtain ⟨rfl, rfl⟩ := hg
  refine ⟨hu, ?_⟩
  have := h.2.2 _ _ hu
  unfold yielded
  have e1 : all.toArray[j]? = some o := by simpa using ho
  simp only [e1, Option.bind_some, hd, this]
  cases u <;> rfl
theorem exOps_sound (hT : TabOk P T) (all : List Oper) {Q : Exit → Act → World → Prop} : ∀ (l : List Oper) (F : Fr) (a : Act) (w : World) (k : Fr → World → Prop) (X : List PanicEntry → Fr → World → Prop),
    Agr n F a → exOps P T n all l F w k X → (∀ F a w, Agr n F a → k F w → Q .normal a w) → (∀ ch F a w, Agr n F a → X ch F w → Q (.panic ch) a w) → wpList P all.toArray Q l a w
  | [], F, a, w, k, X, ha, h, hk, _ => hk _ _ _ ha h
  | o :: r, F, a, w, k, X, ha, h, hk, hX => by
    have ih := exOps_sound hT all (Q := Q) r
    change stepOps P T n all o r (exOps P T n all r) F w k X at h
    unfold stepOps at h
    split at h; · exact h.elim
    rename_i hd
    split at h
    · rename_i hg
      unfold wpList
      rw [if_pos (wanted_none hg)]
      refine .inl ?_
      split at h
      · rename_i c e
        replace h := alo_some h
        obtain ⟨args, hargs, h⟩ := h
        split at h <;> try (exact h.elim)
        rename_i f hc
        replace h := obp_some h
        obtain ⟨vf, hf, h⟩ := h
        split at h <;> try (exact h.elim)
        rename_i fn first cap
        have hm := map_ev ha.ev hargs
        unfold Oper.wp execOp
        simp only [e, resolve, hc, ha.ev _ _ hf, Deferred.ofValue, hm, Sem.run_bind, Sem.run_pure, Result.andThen_ok]
        refine ih _ _ _ k X ?_ h hk hX
        refine Agr.put ?_ hd _
        exact ⟨ha.1, by simp [ha.2.1], ha.2.2⟩
      · exact exOp_sound hT ha.ev h (fun v w' q => ih _ _ _ k X (ha.put hd v) q hk hX) (fun ch w' q => hX _ _ _ _ ha q)
    · rename_i j want hg
      split at h; · exact h.elim
      rename_i d v hgv
      obtain ⟨hl, hy⟩ := guard_yield ha hgv
      unfold wpList
      split at h
      · rename_i b
        simp only at hy
        split at h
        · cases b
          · rw [if_neg (by simp [Region.wanted, hg, hy])]
            exact ih _ _ _ k X ((ha.same hl).put hd _) (h.2 rfl) hk hX
          · rw [if_pos (by simp [Region.wanted, hg, hy])]
            exact .inl (exOp_sound hT (ha.same hl).ev (h.1 rfl) (fun v w' q => ih _ _ _ k X ((ha.same hl).put hd v) q hk hX) (fun ch w' q => hX _ _ _ _ (ha.same hl) q))
        · cases b
          · rw [if_pos (by simp [Region.wanted, hg, hy])]
            exact .inl (exOp_sound hT (ha.same hl).ev (h.2 rfl) (fun v w' q => ih _ _ _ k X ((ha.same hl).put hd v) q hk hX) (fun ch w' q => hX _ _ _ _ (ha.same hl) q))
          · rw [if_neg (by simp [Region.wanted, hg, hy])]
            exact ih _ _ _ k X ((ha.same hl).put hd _) (h.1 rfl) hk hX
      · simp only at hy
        rw [if_neg (by simp [Region.wanted, hg, hy])]
        exact ih _ _ _ k X (ha.put hd _) h hk hX
      · exact h.elim
theorem exC_sound (hT : TabOk P T) : ∀ (c : Code) (F : Fr) (a : Act) (w : World) (K : Exit → Fr → World → Prop), Agr n F a → exC P T n c F w K → c.wp P (Lift n K) a w := by
  intro c
  induction c with
  | skip => exact fun F a w K ha h => wp_skip ⟨F, ha, h⟩
  | label l => exact fun F a w K ha h => wp_label ⟨F, ha, h⟩
  | region id ops draw =>
    intro F a w K ha h
    cases draw with
    | false =>
      refine wp_region_list ?_
      exact exOps_sound hT ops.toList ops.toList F a w _ _ ha h (fun F a w ha q => ⟨F, ha, q⟩) (fun ch F a w ha q => ⟨F, ha, q⟩)
    | true => exact h.out a ha
  | seq x y ihx ihy =>
    intro F a w K ha h
    refine wp_seq (wp_mono (ihx F a w _ ha h.out) fun e a' w' q => ?_)
    obtain ⟨F', ha', q⟩ := q
    cases e with
    | normal => exact ihy F' a' w' K ha' q
    | _ => exact ⟨F', ha', q⟩
  | cond c x y ihx ihy =>
    intro F a w K ha h
    obtain ⟨v, hv, h⟩ := obp_some h
    split at h <;> try (exact h.elim)
    rename_i b
    cases b
    · exact wp_cond_false (ha.ev _ _ hv) (ihy F a w K ha (h.2 rfl))
    · exact wp_cond_true (ha.ev _ _ hv) (ihx F a w K ha (h.1 rfl))
  | block id c ih =>
    intro F a w K ha h
    refine wp_block (wp_mono (ih F a w _ ha h) fun e a' w' q => ?_)
    obtain ⟨F', ha', q⟩ := q
    cases e with
    | exit i =>
      simp only at q
      by_cases hi : i = id
      · subst hi
        simp at q
        simp [Exit.inBlock]
        exact ⟨F', ha', q⟩
      · have : Nat.beq i id = false := by cases hb : Nat.beq i id with | false => rfl | true => exact absurd (Nat.eq_of_beq_eq_true hb) hi
        rw [this] at q
        simp [Exit.inBlock, hi]
        exact ⟨F', ha', q⟩
    | _ => exact ⟨F', ha', q⟩
  | loop c ih => exact fun F a w K ha h => h.out a ha
  | exit i => exact fun F a w K ha h => wp_exit ⟨F, ha, h⟩
  | goto l => exact fun F a w K ha h => wp_goto ⟨F, ha, h⟩
  | ret => exact fun F a w K ha h => wp_ret ⟨F, ha, h⟩
  | scope c ih =>
    intro F a w K ha h
    refine wp_scope_straight (wp_mono (ih F a w _ ha h) fun e a' w' q => ?_)
    obtain ⟨F', ha', q⟩ := q
    cases e with
    | goto l => exact q.elim
    | _ => exact ⟨F', ha', q⟩
  | rangeFunc => exact fun F a w K ha h => h.elim
  | refuse => exact fun F a w K ha h => h.elim

def argsEnv : List Value → Nat → Env
  | [], _ => []
  | v :: r, i => (i, v) :: argsEnv r (i + 1)
def retV (F : Fr) : List ResultVar → Option (List (Value ⊕ (Addr × TypeId)))
  | [] => some []
  | r :: rs => match retV F rs with
    | none => none
    | some l => match r with
      | .tmp t => match look F.env t with | some v => some (.inl v :: l) | none => none
      | .cell t ty => (match look F.env t with | none => none | some v => match v with | .pointer (some p) => some (.inr (p, ty) :: l) | _ => none)
def getR (T : List (Nat × TI)) (w : World) : List (Value ⊕ (Addr × TypeId)) → (List Value → Prop) → Prop
  | [], k => k []
  | .inl v :: r, k => getR T w r fun l => k (v :: l)
  | .inr (p, ty) :: r, k => match getT T ty with
    | none => False
    | some i => match aggD i.desc with
      | true => Ld w p i.size fun vs => getR T w r fun l => k (.agg vs.toArray :: l)
      | false => Ld1 w p fun v => getR T w r fun l => k (v :: l)
def oneV : List Value → Value
  | [v] => v
  | l => .tuple l.toArray
def retK (T : List (Nat × TI)) (rs : List ResultVar) (R : Value → World → Prop) (X : List PanicEntry → World → Prop) : Exit → Fr → World → Prop := fun e F w =>
  match e with
  | .normal | .ret => match F.ds with
    | [] => match retV F rs with
      | none => False
      | some l => getR T w l fun vs => R (oneV vs) w
    | _ => False
  | .panic ch => match F.ds with
    | [] => X ch w
    | _ => False
  | _ => False
theorem run_consM {α β : Type} {f : α → Sem β} {x : α} {xs : List α} {v : β} {vs : List β} {w : World} (h1 : (f x).run P w = Result.ok v w) (h2 : (xs.mapM f).run P w = Result.ok vs w) :
    ((x :: xs).mapM f).run P w = Result.ok (v :: vs) w := by
  simp only [List.mapM_cons, Sem.run_bind, h1, h2, Result.andThen_ok, Sem.run_pure]
theorem run_retV (hT : TabOk P T) (w : World) {F : Fr} {a : Act} (ha : Agr n F a) : ∀ (rs : List ResultVar) (l : List (Value ⊕ (Addr × TypeId))) (k : List Value → Prop), retV F rs = some l → getR T.ts w l k →
    ∃ vs, (rs.mapM (fun r => (match r with | .tmp t => pure (a.tmps.getD t undef) | .cell x t => do loadVar t (← asAddr (a.tmps.getD x undef)) : Sem Value))).run P w = Result.ok vs w ∧ k vs
  | [], l, k, h, hk => by simp [retV] at h; subst h; exact ⟨[], rfl, hk⟩
  | r :: rs, l, k, h, hk => by
    unfold retV at h
    split at h; · simp at h
    rename_i l' hl'
    have hget : ∀ t v, look F.env t = some v → a.tmps.getD t undef = v := fun t v hv => by simp [Array.getD_eq_getD_getElem?, ha.2.2 t v hv]
    split at h
    · split at h <;> simp at h
      rename_i t v hv
      subst h
      obtain ⟨vs, hvs, hk'⟩ := run_retV hT w ha rs l' _ hl' hk
      refine ⟨v :: vs, run_consM ?_ hvs, hk'⟩
      simp only [hget _ _ hv, Sem.run_pure]
    · split at h; · simp at h
      rename_i t ty v hv
      split at h <;> simp at h
      rename_i p
      subst h
      unfold getR at hk
      split at hk; · exact hk.elim
      rename_i i hi
      split at hk
      · rename_i hag
        obtain ⟨us, hl, hc, hk⟩ := hk
        obtain ⟨vs, hvs, hk'⟩ := run_retV hT w ha rs l' _ hl' hk
        refine ⟨.agg us.toArray :: vs, run_consM ?_ hvs, hk'⟩
        have hld := run_loadCells_list (P := P) w p us hc
        rw [hl] at hld
        simp only [Sem.run_bind, Sem.run_pure, Result.andThen_ok, hget _ _ hv, asAddr, loadVar, run_isAgg hT.1 w hi, hag, if_true, run_size hT.1 hi w, hld]
      · rename_i hag
        obtain ⟨u, hu, hk⟩ := hk
        obtain ⟨vs, hvs, hk'⟩ := run_retV hT w ha rs l' _ hl' hk
        refine ⟨u :: vs, run_consM ?_ hvs, hk'⟩
        simp only [Sem.run_bind, Sem.run_pure, Result.andThen_ok, hget _ _ hv, asAddr, loadVar, run_isAgg hT.1 w hi, hag, Bool.false_eq_true, if_false, run_load, hu]
theorem run_results (hT : TabOk P T) (w : World) {F : Fr} {a : Act} (ha : Agr n F a) {fn : Func} {l : List (Value ⊕ (Addr × TypeId))} {k : List Value → Prop} (h : retV F fn.results.toList = some l) (hk : getR T.ts w l k) :
    ∃ vs, (results fn a.tmps).run P w = Result.ok (oneV vs) w ∧ k vs := by
  obtain ⟨vs, hvs, hk⟩ := run_retV hT w ha _ _ _ h hk
  refine ⟨vs, ?_, hk⟩
  unfold results
  simp only [Array.mapM_eq_mapM_toList, Sem.run_bind, Sem.run_map]
  refine (congrArg (fun r : Result (List Value) => (r.andThen fun a w' => Result.ok a.toArray w').andThen fun a w' => Result.ok (if h : a.size = 1 then a[0] else Value.tuple a) w') hvs).trans ?_
  simp only [Result.andThen_ok]
  have : (if h : vs.toArray.size = 1 then vs.toArray[0] else Value.tuple vs.toArray) = oneV vs := by
    match vs with
    | [] => rfl
    | [v] => rfl
    | _ :: _ :: _ => simp [oneV]
  rw [this]
theorem look_args : ∀ (vs : List Value) (i t : Nat) (v : Value), look (argsEnv vs i) t = some v → i ≤ t ∧ vs[t - i]? = some v
  | [], i, t, v, h => by simp [argsEnv, look] at h
  | u :: r, i, t, v, h => by
    simp only [argsEnv, look] at h
    split at h
    · rename_i he
      have := Nat.eq_of_beq_eq_true he
      subst this
      simp at h
      subst h
      exact ⟨Nat.le_refl _, by simp⟩
    · obtain ⟨h1, h2⟩ := look_args r (i + 1) t v h
      refine ⟨by omega, ?_⟩
      rw [show t - i = (t - (i + 1)) + 1 by omega]
      simpa using h2
theorem Agr.enter {fn : Func} {args : List Value} (hn : Nat.ble args.length fn.ntmps = true) :
    Agr fn.ntmps ⟨argsEnv args 0, []⟩ { tmps := args.toArray ++ Array.replicate (fn.ntmps - args.toArray.size) undef, defers := [] } := by
  have hn := Nat.le_of_ble_eq_true hn
  refine ⟨by simp; omega, rfl, fun t v h => ?_⟩
  obtain ⟨_, h2⟩ := look_args args 0 t v h
  simp only [Nat.sub_zero] at h2
  have hlt : t < args.length := (List.getElem?_eq_some_iff.1 h2).1
  rw [Array.getElem?_append_left (by simpa using hlt)]
  simpa using h2
theorem calls_ex (hT : TabOk P T) {f : FuncId} {fn : Func} {c : Code} {args : List Value} {w : World} {R : Value → World → Prop} {X : List PanicEntry → World → Prop} {m : Nat} {rs : List ResultVar}
    (hf : P.funcs[f]? = some fn) (hb : fn.body = some c) (hm : fn.ntmps = m) (hrs : fn.results.toList = rs) (hn : Nat.ble args.length m = true)
    (h : exC P T m c ⟨argsEnv args 0, []⟩ w (retK T.ts rs R X)) : Cl P f args.toArray w R X := by
  subst hm hrs
  refine ⟨calls_of_wp hf hb (wp_mono (exC_sound hT c _ _ w _ (Agr.enter hn) h) fun e a' w' q => ?_)⟩
  obtain ⟨F', ha', q⟩ := q
  have key : (match F'.ds with
    | [] => match retV F' fn.results.toList with
      | none => False
      | some l => getR T.ts w' l fun vs => R (oneV vs) w'
    | _ => False) → bodyPost P fn (fun e w' => match e with | .returned v => R v w' | .panicked ch => X ch w' | .outgrown => False) .ret a' w' := fun q => by
    split at q <;> try (exact q.elim)
    rename_i hds
    split at q <;> try (exact q.elim)
    rename_i l hl
    obtain ⟨vs, hr, q⟩ := run_results hT w' ha' hl q
    exact ⟨ha'.2.1.trans hds, _, hr, q⟩
  cases e with
  | normal => exact key q
  | ret => exact key q
  | panic ch =>
    simp only [retK] at q
    split at q <;> try (exact q.elim)
    rename_i hds
    exact ⟨ha'.2.1.trans hds, q⟩
  | exit i => exact q.elim
  | goto l => exact q.elim
  | outgrown => exact q.elim
omit T n in
theorem wp_loop_st {c : Code} {Q : Exit → Act → World → Prop} {a : Act} {w : World} {σ : Type} (I : σ → Act → World → Prop) (μ : σ → World → Nat) (s0 : σ) (h₀ : I s0 a w)
    (round : ∀ s a w, I s a w → c.wp P (Exit.then (fun a' w' => ∃ s', I s' a' w' ∧ μ s' w' < μ s w) Q) a w) : (Code.loop c).wp P Q a w := by
  intro b k cs
  have key : ∀ m s a w, μ s w = m → I s a w →
      ∃ e a' w', Q e a' w' ∧ Arrives P (lone (b.at a (.code c :: .inLoop c :: k)) cs w) b k cs e a' w' := by
    intro m
    induction m using Nat.strongRecOn with
    | _ m ih =>
      intro s a w hm hI
      obtain ⟨e, a₁, w₁, hq, harr⟩ := round s a w hI b (.inLoop c :: k) cs
      cases e with
      | normal =>
        obtain ⟨s', hI₁, hlt⟩ := hq
        obtain ⟨e₂, a₂, w₂, hq₂, harr₂⟩ := ih (μ s' w₁) (hm ▸ hlt) s' a₁ w₁ rfl hI₁
        exact ⟨e₂, a₂, w₂, hq₂, .of_steps (Steps.trans harr (.one step_inLoop)) harr₂⟩
      | exit id => exact ⟨_, a₁, w₁, hq, .pass (x := .inLoop c) rfl (fun _ _ => .inl (by simp)) harr⟩
      | goto l => exact ⟨_, a₁, w₁, hq, .pass (x := .inLoop c) rfl (fun _ _ => .inl (by simp)) harr⟩
      | ret => exact ⟨_, a₁, w₁, hq, .pass (x := .inLoop c) rfl (fun _ _ => .inl (by simp)) harr⟩
      | panic ch => exact ⟨_, a₁, w₁, hq, .pass (x := .inLoop c) rfl (fun _ _ => .inl (by simp)) harr⟩
      | outgrown => exact ⟨_, a₁, w₁, hq, .pass (x := .inLoop c) rfl (fun _ _ => .inl (by simp)) harr⟩
  obtain ⟨e, a', w', hq, harr⟩ := key _ s0 a w rfl h₀
  exact ⟨e, a', w', hq, .of_steps (.one step_loop) harr⟩
def Sub : Env → Fr → Prop
  | [], _ => True
  | (t, v) :: r, F => look F.env t = some v ∧ Sub r F
omit P T n in
theorem Sub.look {F : Fr} : ∀ {e : Env}, Sub e F → ∀ t v, Sh.look e t = some v → Sh.look F.env t = some v
  | [], _, t, v, h => by simp [Sh.look] at h
  | (d, u) :: r, hs, t, v, h => by
    simp only [Sh.look] at h
    split at h
    · rename_i he
      have := Nat.eq_of_beq_eq_true he
      subst this
      simp at h
      subst h
      exact hs.1
    · exact Sub.look hs.2 t v h
theorem Lp.go (hT : TabOk P T) {c : Code} {F : Fr} {w : World} {K : Exit → Fr → World → Prop} {σ : Type} (mk : σ → Env) (I : σ → World → Prop) (μ : σ → World → Nat)
    (s0 : σ) (h0 : Sub (mk s0) F) (hI : I s0 w)
    (round : ∀ s w, I s w → exC P T n c ⟨mk s, F.ds⟩ w fun e F' w' => match e with
      | .normal => ∃ s', Sub (mk s') F' ∧ F.ds = F'.ds ∧ I s' w' ∧ μ s' w' < μ s w
      | e => K e F' w') : Lp P n c F w K := by
  refine ⟨fun a ha => ?_⟩
  refine wp_loop_st (fun s a w => Agr n ⟨mk s, F.ds⟩ a ∧ I s w) μ s0 ⟨⟨ha.1, ha.2.1, fun t v h => ha.2.2 t v (h0.look t v h)⟩, hI⟩ fun s a w ⟨hA, hI⟩ => ?_
  refine wp_mono (exC_sound hT c _ _ w _ hA (round s w hI)) fun e a' w' q => ?_
  obtain ⟨F', ha', q⟩ := q
  cases e with
  | normal =>
    obtain ⟨s', h1, h2, h3, h4⟩ := q
    exact ⟨s', ⟨⟨ha'.1, ha'.2.1.trans h2.symm, fun t v h => ha'.2.2 t v (h1.look t v h)⟩, h3⟩, h4⟩
  | _ => exact ⟨F', ha', q⟩
theorem Lp.g0 (hT : TabOk P T) {c : Code} {F : Fr} {w : World} {K : Exit → Fr → World → Prop} {σ : Type} (mk : σ → Env) (I : σ → World → Prop) (μ : σ → World → Nat)
    (s0 : σ) (hds : F.ds = []) (h0 : Sub (mk s0) F) (hI : I s0 w)
    (round : ∀ s w, I s w → exC P T n c ⟨mk s, []⟩ w fun e F' w' => match e with
      | .normal => ∃ s', Sub (mk s') F' ∧ F'.ds = [] ∧ I s' w' ∧ μ s' w' < μ s w
      | e => K e F' w') : Lp P n c F w K := by
  refine ⟨fun a ha => ?_⟩
  refine wp_loop_st (fun s a w => Agr n ⟨mk s, []⟩ a ∧ I s w) μ s0 ⟨⟨ha.1, ha.2.1.trans hds, fun t v h => ha.2.2 t v (h0.look t v h)⟩, hI⟩ fun s a w ⟨hA, hI⟩ => ?_
  refine wp_mono (exC_sound hT c _ _ w _ hA (round s w hI)) fun e a' w' q => ?_
  obtain ⟨F', ha', q⟩ := q
  cases e with
  | normal =>
    obtain ⟨s', h1, h2, h3, h4⟩ := q
    exact ⟨s', ⟨⟨ha'.1, ha'.2.1.trans h2, fun t v h => ha'.2.2 t v (h1.look t v h)⟩, h3⟩, h4⟩
  | _ => exact ⟨F', ha', q⟩
/-- what follows is proved once: of the slots, those of 'mk' are known there -/
theorem exC_cut (hT : TabOk P T) {y : Code} {F : Fr} {w : World} {K : Exit → Fr → World → Prop} {e : Env} (h : Sub e F) (hy : exC P T n y ⟨e, F.ds⟩ w K) : ∀ a, Agr n F a → y.wp P (Lift n K) a w :=
  fun a ha => exC_sound hT y ⟨e, F.ds⟩ a w K ⟨ha.1, ha.2.1, fun t v hh => ha.2.2 t v (h.look t v hh)⟩ hy
end
end Go.Sh
