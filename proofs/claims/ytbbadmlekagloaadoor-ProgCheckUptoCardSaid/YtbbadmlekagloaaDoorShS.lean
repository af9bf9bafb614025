/- Functions with one deferred closure, closures that recover; own work. -/
import Derived.Test.YtbbadmlekagloaaDoorShD
import Derived.Recover
namespace Go.Sh
set_option linter.unusedVariables false
set_option linter.unusedSimpArgs false
structure DCl (P : Program) (f : Nat) (args : Array Value) (u : FrameMode) (w : World) (k : FrameMode → World → Prop) : Prop where
  of ::
  out : CallsD P f args u w fun e u' w' => match e with | .returned _ => k u' w' | _ => False
def retR (T : List (Nat × TI)) (rs : List ResultVar) (R : Value → World → Prop) (F : Fr) (w : World) : Prop :=
  match retV F rs with
  | none => False
  | some l => getR T w l fun vs => R (oneV vs) w
def dfT (fs : List Nat) (d : Deferred) (k : Nat → Array Value → Prop) : Prop :=
  match d.target with
  | .fn fn cap => match fn with
    | .func g => match memN fs g with | true => k g (cat d.args.toList cap.toList).toArray | false => False
    | _ => False
  | _ => False
def retD (P : Program) (T : Tab) (rs : List ResultVar) (R : Value → World → Prop) (X : List PanicEntry → World → Prop) : Exit → Fr → World → Prop := fun e F w =>
  match e with
  | .normal | .ret => match F.ds with
    | [] => retR T.ts rs R F w
    | d :: ds => match ds with
      | [] => dfT T.fs d fun g args => DCl P g args .returning w fun u w' => u = .returning ∧ retR T.ts rs R F w'
      | _ => False
  | .panic ch => match F.ds with
    | [] => X ch w
    | d :: ds => match ds with
      | [] => dfT T.fs d fun g args => DCl P g args (.panicking ch) w fun u w' => match settle u with
        | .returning => retR T.ts rs R F w'
        | .panicking ch' => X ch' w'
        | .run => False
      | _ => False
  | _ => False
section
variable {P : Program} {T : Tab}
theorem dfT_some (hT : TabOk P T) {d : Deferred} {k : Nat → Array Value → Prop} (h : dfT T.fs d k) : ∃ fv cap g args, d.target = .fn fv cap ∧ (∀ w, (invoke d.target d.args).run P w = .ok (.enter g args) w) ∧ k g args := by
  unfold dfT at h
  split at h <;> try (exact h.elim)
  rename_i fn cap ht
  split at h <;> try (exact h.elim)
  rename_i g
  split at h <;> try (exact h.elim)
  rename_i hm
  obtain ⟨fn', hf, hn, hb⟩ := hT.2.get hm
  refine ⟨_, _, _, _, ht, fun w => ?_, h⟩
  rw [ht]
  have e : (cat d.args.toList cap.toList).toArray = d.args ++ cap := by
    unfold cat
    split
    · rename_i hc; simp [Array.toList_eq_nil_iff] at hc; simp [hc]
    · rename_i hc; apply Array.ext'; simp
  rw [e]
  have hn' : ¬ fn'.name = "runtime.NumGoroutine" := by simpa using hn
  have hb' : ¬ fn'.body = none := by
    intro h0; rw [h0] at hb; simp at hb
  simp [invoke, callFunc, hf, hn', hb']
theorem calls_exd (hT : TabOk P T) {f : FuncId} {fn : Func} {c : Code} {args : List Value} {w : World} {R : Value → World → Prop} {X : List PanicEntry → World → Prop} {m : Nat} {rs : List ResultVar}
    (hf : P.funcs[f]? = some fn) (hb : fn.body = some c) (hm : fn.ntmps = m) (hrs : fn.results.toList = rs) (hn : Nat.ble args.length m = true)
    (h : exC P T m c ⟨argsEnv args 0, []⟩ w (retD P T rs R X)) : Cl P f args.toArray w R X := by
  subst hm hrs
  let Q : Ending → World → Prop := fun e w' => match e with | .returned v => R v w' | .panicked ch => X ch w' | .outgrown => False
  refine ⟨calls_of_wp_defers hf hb (wp_mono (exC_sound hT c _ _ w _ (Agr.enter hn) h) fun e a' w' q => ?_)⟩
  obtain ⟨F', ha', q⟩ := q
  have res : ∀ w', retR T.ts fn.results.toList R F' w' → ∃ v, (results fn a'.tmps).run P w' = .ok v w' ∧ Q (.returned v) w' := fun w' q => by
    unfold retR at q
    split at q <;> try (exact q.elim)
    rename_i l hl
    obtain ⟨vs, hr, q⟩ := run_results hT w' ha' hl q
    exact ⟨_, hr, q⟩
  have fin : ∀ w' u', (match settle u' with | .returning => retR T.ts fn.results.toList R F' w' | .panicking ch' => X ch' w' | .run => False) → Leaves P fn a'.tmps Q [] (settle u') w' := fun w' u' q => by
    split at q <;> rename_i hs <;> rw [hs]
    · exact res w' q
    · exact q
    · exact q.elim
  have key : retD P T fn.results.toList R X .ret F' w' → Leaves P fn a'.tmps Q a'.defers .returning w' := fun q => by
    unfold retD at q
    simp only at q
    rw [ha'.2.1]
    split at q
    · rename_i hds; rw [hds]; exact res w' q
    · rename_i d ds hds
      rw [hds]
      split at q <;> try (exact q.elim)
      obtain ⟨fv, cap, g, args, h1, h2, hd⟩ := dfT_some hT q
      refine ⟨by simp, fv, cap, g, args, h1, h2 w', CallsD.mono hd.out fun e u' w'' q => ?_⟩
      cases e with
      | returned v =>
        obtain ⟨rfl, q⟩ := q
        exact fin w'' .returning (by simpa [settle] using q)
      | panicked ch => exact q.elim
      | outgrown => exact q.elim
  cases e with
  | normal => exact key q
  | ret => exact key q
  | panic ch =>
    unfold retD at q
    simp only at q
    show Leaves P fn a'.tmps Q a'.defers (.panicking ch) w'
    rw [ha'.2.1]
    split at q
    · rename_i hds; rw [hds]; exact q
    · rename_i d ds hds
      rw [hds]
      split at q <;> try (exact q.elim)
      obtain ⟨fv, cap, g, args, h1, h2, hd⟩ := dfT_some hT q
      refine ⟨by simp, fv, cap, g, args, h1, h2 w', CallsD.mono hd.out fun e u' w'' q => ?_⟩
      cases e with
      | returned v => exact fin w'' u' q
      | panicked ch => exact q.elim
      | outgrown => exact q.elim
  | _ => exact q.elim
/-- a closure whose first region recovers alone -/
theorem DCl.recov (hT : TabOk P T) {f : FuncId} {fn : Func} {args : List Value} {w : World} {k : FrameMode → World → Prop} {m id d : Nat} {o : Oper} {c2 : Code} {u u1 : FrameMode} {v : Value}
    (hf : P.funcs[f]? = some fn) (hb : fn.body = some (.seq (.region id #[o] false) c2)) (hm : fn.ntmps = m) (hrs : fn.results = #[]) (hn : Nat.ble args.length m = true)
    (ho : ∀ ρ w, (execOp ρ o).run P w = .ok .recover w) (hg : o.guard = none) (hd : o.dst = some d) (hdn : Nat.blt d m = true)
    (hu : (u = .returning ∧ v = .nilIface ∧ u1 = .returning) ∨ ∃ x, u = .panicking [{ v := x, recovered := false }] ∧ v = x ∧ u1 = .panicking [{ v := x, recovered := true }])
    (h : exC P T m c2 ⟨(d, v) :: argsEnv args 0, []⟩ w (fun e F w' => match e with | .normal | .ret => F.ds = [] ∧ k u1 w' | _ => False)) : DCl P f args.toArray u w k := by
  subst hm
  refine ⟨callsD_of_wpS hf hb fun c₀ cs hc => ?_⟩
  refine wpS_seq (wpS_region ?_)
  have hr0 : List.range (#[o] : Array Oper).size = [0] := rfl
  rw [hr0]
  have ha := (Agr.enter (fn := fn) hn).put (d := some d) (by simpa [dstOk] using hdn) v
  have fin : ∀ c₁ : Frame, c₁ = { c₀ with mode := u1 } → c2.wpS P (bodyPostS P fn c₀ cs (fun e u' w' => match e with | .returned _ => k u' w' | _ => False)) (Act.put { tmps := args.toArray ++ Array.replicate (fn.ntmps - args.toArray.size) undef, defers := [] } (some d) v) (c₁ :: cs) w := fun c₁ h1 => by
    refine wpS_of_wp (wp_mono (exC_sound hT c2 _ _ w _ ha (by exact h)) fun e a' w' q => ?_)
    obtain ⟨F', ha', q⟩ := q
    cases e with
    | normal =>
      refine ⟨ha'.2.1.trans q.1, u1, by rw [h1], .tuple #[], ?_, q.2⟩
      exact (by simp [results, hrs] : (results fn a'.tmps).run P w' = .ok (.tuple #[]) w')
    | ret =>
      refine ⟨ha'.2.1.trans q.1, u1, by rw [h1], .tuple #[], ?_, q.2⟩
      exact (by simp [results, hrs] : (results fn a'.tmps).run P w' = .ok (.tuple #[]) w')
    | _ => exact q.elim
  unfold wpOpsS
  simp only [List.getElem?_toArray, List.getElem?_cons_zero, wanted_none hg, if_true, ho, hd]
  rcases hu with ⟨h1, rfl, h3⟩ | ⟨x, h1, rfl, h3⟩
  · have : recoverD (c₀ :: cs) = none := by simp [recoverD, hc, h1]
    simp only [this]
    exact fin c₀ (by rw [h3, ← h1, ← hc])
  · have : recoverD (c₀ :: cs) = some (v, { c₀ with mode := u1 } :: cs) := by simp [recoverD, hc, h1, h3]
    simp only [this]
    exact fin _ rfl
theorem DCl.mono {f : Nat} {args : Array Value} {u : FrameMode} {w : World} {k k' : FrameMode → World → Prop} (h : DCl P f args u w k) (hk : ∀ u' w', k u' w' → k' u' w') : DCl P f args u w k' :=
  ⟨CallsD.mono h.out fun e u' w' q => by
    cases e with
    | returned v => exact hk u' w' q
    | panicked ch => exact q.elim
    | outgrown => exact q.elim⟩
theorem Sm.ran {s : Sem Value} {w w' : World} {v : Value} {k : Value → World → Prop} {X : List PanicEntry → World → Prop} (h : s.run P w = .ok v w') (hk : k v w') : Sm P s w k X := ⟨by rw [h]; exact hk⟩
end
end Go.Sh
