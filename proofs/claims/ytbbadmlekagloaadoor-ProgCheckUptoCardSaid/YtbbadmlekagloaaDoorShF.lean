/- Regions whose order is drawn: reads and calls that change nothing, in the text's order; own work. -/
import Derived.Test.YtbbadmlekagloaaDoorShE
import Derived.Deep.Quiet
import Derived.StillTail
namespace Go.Sh
open Go.RowKit

inductive QLd (W : World → Prop) (p : Addr) (m : Nat) (k : List Value → Prop) : Prop where
  | intro (vs : List Value) (h1 : ∀ w', W w' → vs.length = m ∧ ∀ i v, vs[i]? = some v → w'.cell? (p.add i) = some v) (h2 : k vs)
inductive QLd1 (W : World → Prop) (p : Addr) (k : Value → Prop) : Prop where
  | intro (v : Value) (h1 : ∀ w', W w' → w'.cell? p = some v) (h2 : k v)
inductive QSm (P : Program) (s : Sem Value) (W : World → Prop) (k : Value → Prop) : Prop where
  | intro (v : Value) (h1 : ∀ w', W w' → s.run P w' = .ok v w') (h2 : k v)
inductive QCl (P : Program) (f : Nat) (args : Array Value) (W : World → Prop) (Rl : World → World → Prop) (k : Value → Prop) : Prop where
  | intro (v : Value) (h1 : ∀ w', W w' → Cl P f args w' (fun u w'' => u = v ∧ Rl w' w'') (fun _ _ => False)) (h2 : k v)
section
variable (P : Program) (T : Tab) (n : Nat) (W : World → Prop) (Rl : World → World → Prop)
def quOp (ev : Operand → Option Value) (o : Oper) (k : Value → Prop) : Prop :=
  match pu T.ts ev o.op with
  | some v => k v
  | none => match o.op with
    | .pick c a b => obp (ev c) fun vc => obp (ev a) fun va => obp (ev b) fun vb => match vc with | .bool t => Gd t (k va) (k vb) | _ => False
    | .load t a => obp (ev a) fun va => match va with
      | .pointer (some p) => match getT T.ts t with
        | none => False
        | some i => match aggD i.desc with
          | true => QLd W p i.size fun vs => k (.agg vs.toArray)
          | false => QLd1 W p fun v => k v
      | _ => False
    | .indexAddr t x i => obp (ev x) fun vx => obp (ev i) fun vi => match vi with
      | .int _ m => match getT T.ts t with
        | none => False
        | some ti => match ti.desc with
          | .slice e => match getT T.ts e with
            | none => False
            | some ei => match vx with | .slice A len _ => Ix A len m ei.size fun ad => k (.pointer (some ad)) | _ => False
          | .array len e => match getT T.ts e with
            | none => False
            | some ei => match vx with | .pointer (some p) => Ix (some p) len m ei.size fun ad => k (.pointer (some ad)) | _ => False
          | _ => False
      | _ => False
    | .index t x i => obp (ev x) fun vx => obp (ev i) fun vi => QSm P (Instr.index t vx vi) W k
    | .slice t x lo hi mx => obp (ev x) fun vx => obo (optL ev lo) fun a => obo (optL ev hi) fun b => obo (optL ev mx) fun c => QSm P (Instr.sliceAt t vx a b c) W k
    | .binOp b t x y _ => obp (ev x) fun vx => obp (ev y) fun vy => QSm P (do eqGuard b t x y vx vy; binOp b t vx vy) W k
    | .lookup t x i ok => obp (ev x) fun vx => obp (ev i) fun vi => QSm P (Instr.lookup t vx vi ok) W k
    | .typeAssert x t u ok => obp (ev x) fun vx => QSm P (Instr.typeAssert vx t u ok) W k
    | .call c => alo (allSome (c.args.toList.map ev)) fun args => match c.callee with
      | .value f => obp (ev f) fun vf => match vf with
        | .func fn first cap => match fn with
          | .func g => match memN T.fs g with
            | true => QCl P g (cat (first.toList ++ args) cap.toList).toArray W Rl k
            | false => False
          | _ => False
        | _ => False
      | .builtin b => match b with
        | .len => QSm P (Builtin.len_ c.argTypes o.type args.toArray) W k
        | .cap => QSm P (Builtin.cap_ c.argTypes o.type args.toArray) W k
        | _ => False
      | _ => False
    | _ => False
def tmpsOf (o : Oper) : List Nat := o.op.operands.toList.filterMap fun x => match x with | .tmp t => some t | _ => none
def evR (o : Oper) (F : Fr) : Operand → Option Value := fun x => match x with
  | .tmp t => match memN (tmpsOf o) t with | true => look F.env t | false => none
  | .const v => some v
  | .global g => some (.pointer (some ⟨g, 0, none⟩))
  | .func f => some (.func (.func f) #[] #[])
def stepQu (all : List Oper) (o : Oper) (_r : List Oper) (ih : Fr → (Fr → Prop) → Prop) (F : Fr) (k : Fr → Prop) : Prop :=
    match dstOk n o.dst with
    | false => False
    | true => match o.guard with
      | none => quOp P T W Rl (evR o F) o (fun v => ih (F.put o.dst v) k)
      | some (j, want) => match guardV all F j with
        | none => False
        | some (d, v) => match v with
          | .bool b => match want with
            | true => Gd b (quOp P T W Rl (evR o (F.put (some d) (.bool true))) o (fun v => ih ((F.put (some d) (.bool true)).put o.dst v) k)) (ih ((F.put (some d) (.bool false)).put o.dst undef) k)
            | false => Gd b (ih ((F.put (some d) (.bool true)).put o.dst undef) k) (quOp P T W Rl (evR o (F.put (some d) (.bool false))) o (fun v => ih ((F.put (some d) (.bool false)).put o.dst v) k))
          | .tuple _ => ih (F.put o.dst undef) k
          | _ => False
def quOps (all : List Oper) (l : List Oper) : Fr → (Fr → Prop) → Prop :=
  List.rec (motive := fun _ => Fr → (Fr → Prop) → Prop) (fun F k => k F) (stepQu P T n W Rl all) l
variable {P T n W Rl}
section sound
variable (hT : TabOk P T)
def RunQ (P : Program) (W : World → Prop) (Rl : World → World → Prop) (ev : Operand → Option Value) (o : Oper) (v : Value) : Prop :=
  ∀ a : Act, (∀ x u, ev x = some u → a.eval x = u) → ∀ w, W w → (execOp a.eval o).run P w = Result.ok (.value v) w ∨
    ∃ f args, (execOp a.eval o).run P w = Result.ok (.enter f args) w ∧ Cl P f args w (fun u w'' => u = v ∧ Rl w w'') (fun _ _ => False)
theorem runq_val {ev : Operand → Option Value} {o : Oper} {v : Value} {k : Value → Prop} (hr : ∀ a : Act, (∀ x u, ev x = some u → a.eval x = u) → ∀ w, W w → (execOp a.eval o).run P w = Result.ok (.value v) w) (h : k v) : ∃ v, k v ∧ RunQ P W Rl ev o v :=
  ⟨v, h, fun a hev w hw => .inl (hr a hev w hw)⟩
theorem runq_sm {ev : Operand → Option Value} {o : Oper} {s : Sem Value} {k : Value → Prop} (hr : ∀ a : Act, (∀ x u, ev x = some u → a.eval x = u) → execOp a.eval o = (do pure (.value (← s)))) (h : QSm P s W k) : ∃ v, k v ∧ RunQ P W Rl ev o v := by
  obtain ⟨v, h1, h2⟩ := h
  exact ⟨v, h2, fun a hev w hw => .inl (by rw [hr a hev]; simp [h1 w hw])⟩
include hT in
theorem quOp_run {ev : Operand → Option Value} {o : Oper} {k : Value → Prop} (h : quOp P T W Rl ev o k) : ∃ v, k v ∧ RunQ P W Rl ev o v := by
  unfold quOp at h
  split at h
  · rename_i v hv
    exact runq_val (fun a hev w _ => pu_sound hT.1 w hev hv) h
  · rename_i hnone; clear hnone
    split at h
    · -- pick
      rename_i c x y e
      replace h := obp_some h; obtain ⟨vc, hc, h⟩ := h
      replace h := obp_some h; obtain ⟨vx, hx, h⟩ := h
      replace h := obp_some h; obtain ⟨vy, hy, h⟩ := h
      split at h <;> try (exact h.elim)
      rename_i t
      cases t
      · exact runq_val (v := vy) (fun a hev w _ => by unfold execOp; simp [e, hev _ _ hc, hev _ _ hx, hev _ _ hy, asBool]) (h.2 rfl)
      · exact runq_val (v := vx) (fun a hev w _ => by unfold execOp; simp [e, hev _ _ hc, hev _ _ hx, hev _ _ hy, asBool]) (h.1 rfl)
    · -- load
      rename_i t x e
      replace h := obp_some h; obtain ⟨v, hx, h⟩ := h
      split at h <;> try (exact h.elim)
      rename_i p
      split at h <;> try (exact h.elim)
      rename_i i hi
      split at h
      · rename_i hag
        obtain ⟨vs, hc, h⟩ := h
        refine runq_val (v := .agg vs.toArray) (fun a hev w hw => ?_) h
        have := run_loadCells_list (P := P) w p vs (hc w hw).2
        rw [(hc w hw).1] at this
        unfold execOp
        simp [e, hev _ _ hx, Instr.loadAt, Instr.sureAddr, loadVar, run_isAgg hT.1 w hi, hag, run_size hT.1 hi, this]
      · rename_i hag
        obtain ⟨u, hu, h⟩ := h
        refine runq_val (v := u) (fun a hev w hw => ?_) h
        unfold execOp
        simp [e, hev _ _ hx, Instr.loadAt, Instr.sureAddr, loadVar, run_isAgg hT.1 w hi, hag, hu w hw]
    · -- indexAddr
      rename_i t x y e
      replace h := obp_some h; obtain ⟨v, hx, h⟩ := h
      replace h := obp_some h; obtain ⟨u, hy, h⟩ := h
      split at h <;> try (exact h.elim)
      rename_i kk n
      split at h <;> try (exact h.elim)
      rename_i ti hti
      split at h
      · rename_i el hd
        split at h <;> try (exact h.elim)
        rename_i ei hei
        split at h <;> try (exact h.elim)
        rename_i A len cap
        obtain ⟨hn, h0, h1, h⟩ := h
        obtain ⟨ad, rfl⟩ : ∃ ad, A = some ad := Option.ne_none_iff_exists'.1 hn
        simp only [gA] at h
        refine runq_val (v := .pointer (some (ad.add (n.toNat * ei.size)))) (fun a hev w hw => ?_) h
        unfold execOp
        simp [e, hev _ _ hx, hev _ _ hy, Instr.indexAt, asIntOf, run_und hT.1 hti, hd, h0, h1, run_size hT.1 hei]
      · rename_i len el hd
        split at h <;> try (exact h.elim)
        rename_i ei hei
        split at h <;> try (exact h.elim)
        rename_i p
        obtain ⟨_, h0, h1, h⟩ := h
        simp only [gA] at h
        refine runq_val (v := .pointer (some (p.add (n.toNat * ei.size)))) (fun a hev w hw => ?_) h
        unfold execOp
        simp [e, hev _ _ hx, hev _ _ hy, Instr.indexAt, asIntOf, run_und hT.1 hti, hd, h0, h1, run_size hT.1 hei, Instr.sureAddr]
      · exact h.elim
    · rename_i t x y e
      replace h := obp_some h; obtain ⟨v0, h0, h⟩ := h
      replace h := obp_some h; obtain ⟨v1, h1, h⟩ := h
      exact runq_sm (fun a hev => by unfold execOp; simp only [e, hev _ _ h0, hev _ _ h1]) h
    · rename_i t x lo hi mx e
      replace h := obp_some h; obtain ⟨v0, h0, h⟩ := h
      replace h := obo_some h; obtain ⟨v1, h1, h⟩ := h
      replace h := obo_some h; obtain ⟨v2, h2, h⟩ := h
      replace h := obo_some h; obtain ⟨v3, h3, h⟩ := h
      exact runq_sm (fun a hev => by unfold execOp; simp only [e, hev _ _ h0, optL_ev hev h1, optL_ev hev h2, optL_ev hev h3]) h
    · rename_i b t x y yt e
      replace h := obp_some h; obtain ⟨v0, h0, h⟩ := h
      replace h := obp_some h; obtain ⟨v1, h1, h⟩ := h
      exact runq_sm (fun a hev => by unfold execOp; simp only [e, hev _ _ h0, hev _ _ h1]) h
    · rename_i t x i ok e
      replace h := obp_some h; obtain ⟨v0, h0, h⟩ := h
      replace h := obp_some h; obtain ⟨v1, h1, h⟩ := h
      exact runq_sm (fun a hev => by unfold execOp; simp only [e, hev _ _ h0, hev _ _ h1]) h
    · rename_i x t u ok e
      replace h := obp_some h; obtain ⟨v0, h0, h⟩ := h
      exact runq_sm (fun a hev => by unfold execOp; simp only [e, hev _ _ h0]) h
    · -- call
      rename_i c e
      replace h := alo_some h; obtain ⟨args, hargs, h⟩ := h
      split at h
      · rename_i f hc
        replace h := obp_some h; obtain ⟨vf, hf, h⟩ := h
        split at h <;> try (exact h.elim)
        rename_i fn first cap
        split at h <;> try (exact h.elim)
        rename_i g
        split at h <;> try (exact h.elim)
        rename_i hg
        obtain ⟨fun_, h1, h2, h3⟩ := hT.2.get hg
        have hcat : (cat (first.toList ++ args) cap.toList).toArray = first ++ args.toArray ++ cap := by
          obtain ⟨fl⟩ := first; obtain ⟨cl⟩ := cap
          cases cl <;> simp [cat]
        obtain ⟨v, hq, h⟩ := h
        refine ⟨v, h, fun a hev w hw => .inr ⟨_, _, ?_, hq w hw⟩⟩
        have ha := map_ev hev hargs
        have hrun : (execOp a.eval o).run P w = Result.ok (.enter g (cat (first.toList ++ args) cap.toList).toArray) w := by
          unfold execOp
          have h2' : fun_.name ≠ "runtime.NumGoroutine" := by simpa using h2
          have h3' : fun_.body ≠ none := by intro hn; simp [hn] at h3
          simp only [e, resolve, hc, hev _ _ hf, Deferred.ofValue, ha, hcat]
          simp [invoke, callFunc, h1, h2', h3']
        exact hrun
      · rename_i b hc
        split at h
        · exact runq_sm (fun a hev => by unfold execOp; simp only [e, resolve, hc, map_ev hev hargs, pure_bind, invoke, builtin]) h
        · exact runq_sm (fun a hev => by unfold execOp; simp only [e, resolve, hc, map_ev hev hargs, pure_bind, invoke, builtin]) h
        · exact h.elim
      · exact h.elim
    · exact h.elim
include hT in
theorem quOp_sound {a : Act} {ev : Operand → Option Value} (hcl : ∀ a b, W a → Rl a b → W b) (hev : ∀ x v, ev x = some v → a.eval x = v) {o : Oper} {k : Value → Prop} {next : Act → Prop} (h : quOp P T W Rl ev o k) (hk : ∀ v, k v → next (a.put o.dst v)) : o.quiet P a W next := by
  obtain ⟨v, hv, hr⟩ := quOp_run hT h
  refine ⟨v, fun w hw => ?_, hk v hv⟩
  unfold Oper.quietAt
  rcases hr a hev w hw with e | ⟨f, args, e, hc⟩
  · rw [e]; exact ⟨rfl, rfl⟩
  · rw [e]
    refine ⟨rfl, Calls.mono hc.out fun e w' q => ?_⟩
    cases e with
    | returned u => exact ⟨by rw [q.1], hcl _ _ hw q.2⟩
    | panicked ch => exact q.elim
    | outgrown => exact q.elim
theorem evR_evF {o : Oper} {F : Fr} {x : Operand} {v : Value} (h : evR o F x = some v) : evF F x = some v := by
  cases x with
  | tmp t =>
    simp only [evR] at h
    split at h
    · exact h
    · simp at h
  | _ => exact h
theorem quOps_sound (hT : TabOk P T) (hcl : ∀ a b, W a → Rl a b → W b) (all : List Oper) {Q : Act → Prop} : ∀ (l : List Oper) (F : Fr) (a : Act) (k : Fr → Prop),
    Agr n F a → quOps P T n W Rl all l F k → (∀ F a, Agr n F a → k F → Q a) → wpQuiet P all.toArray W Q l a
  | [], F, a, k, ha, h, hk => hk _ _ ha h
  | o :: r, F, a, k, ha, h, hk => by
    have ih := quOps_sound hT hcl all (Q := Q) r
    change stepQu P T n W Rl all o r (quOps P T n W Rl all r) F k at h
    unfold stepQu at h
    split at h; · exact h.elim
    rename_i hd
    unfold wpQuiet
    split at h
    · rename_i hg
      rw [if_pos (wanted_none hg)]
      exact quOp_sound hT hcl (fun x v h => ha.ev x v (evR_evF h)) h fun v q => ih _ _ k (ha.put hd v) q hk
    · rename_i j want hg
      split at h; · exact h.elim
      rename_i d v hgv
      obtain ⟨hl, hy⟩ := guard_yield ha hgv
      split at h
      · rename_i b
        simp only at hy
        split at h
        · cases b
          · rw [if_neg (by simp [Region.wanted, hg, hy])]
            exact ih _ _ k ((ha.same hl).put hd _) (h.2 rfl) hk
          · rw [if_pos (by simp [Region.wanted, hg, hy])]
            exact quOp_sound hT hcl (fun x v h => (ha.same hl).ev x v (evR_evF h)) (h.1 rfl) fun v q => ih _ _ k ((ha.same hl).put hd v) q hk
        · cases b
          · rw [if_pos (by simp [Region.wanted, hg, hy])]
            exact quOp_sound hT hcl (fun x v h => (ha.same hl).ev x v (evR_evF h)) (h.2 rfl) fun v q => ih _ _ k ((ha.same hl).put hd v) q hk
          · rw [if_neg (by simp [Region.wanted, hg, hy])]
            exact ih _ _ k ((ha.same hl).put hd _) (h.1 rfl) hk
      · simp only at hy
        rw [if_neg (by simp [Region.wanted, hg, hy])]
        exact ih _ _ k (ha.put hd _) h hk
      · exact h.elim
end sound
theorem quiet_still {w : World} {o : Oper} {a : Act} {K : Act → Prop} (h : o.quiet P a (fun w' => w' = w) K) : o.still P a w K := by
  obtain ⟨v, h1, h2⟩ := h
  have h3 := h1 w rfl
  unfold Oper.quietAt at h3
  unfold Oper.still
  generalize (execOp a.eval o).run P w = r at *
  cases r with
  | ok n w' =>
    cases n <;> simp only [Oper.quietUpon] at h3 <;> simp only [Oper.stillUpon]
    case value u => obtain ⟨e1, e2⟩ := h3; subst e2; exact ⟨e1, h2⟩
    case skip => obtain ⟨e1, e2⟩ := h3; subst e2; exact ⟨e1, h2⟩
    case enter f args =>
      obtain ⟨e1, hc⟩ := h3
      exact ⟨e1, v, hc, h2⟩
  | halt x w' => simp only [Oper.quietUpon] at h3
theorem wpQuiet_still {w : World} {ops : Array Oper} {Q : Act → Prop} : ∀ (l : List Oper) (a : Act), wpQuiet P ops (fun w' => w' = w) Q l a → wpStill P ops w Q l a
  | [], a, h => h
  | o :: r, a, h => by
    unfold wpQuiet at h
    unfold wpStill
    split
    · rename_i hw
      rw [if_pos hw] at h
      exact quiet_still (Oper.quiet_mono (fun a q => wpQuiet_still r a q) h)
    · rename_i hw
      rw [if_neg hw] at h
      exact wpQuiet_still r _ h
def QW (W : World → Prop) (w : World) (Rl : World → World → Prop) : Prop := (∀ w', W w' → Ext w w') ∧ (∀ a b, W a → Rl a b → W b)
theorem Dr.quiet (hT : TabOk P T) (hm : P.follows .mixedOrders = true) {id : Nat} {ops : Array Oper} {F : Fr} {w : World} {K : Exit → Fr → World → Prop} (hB : Region.lexB .any ops = true)
    (h : ∀ W, QW W w Ext → quOps P T n W Ext ops.toList ops.toList F (fun F' => ∀ w', Ext w w' → K .normal F' w')) : Dr P n id ops F w K := by
  refine ⟨fun a ha => ?_⟩
  refine wp_region_quiet (C := fun w' => Ext w w') hm hB ⟨rfl, rfl, rfl, Nat.le_refl _, fun _ _ => rfl⟩ ?_
  exact quOps_sound hT (fun a b q r => Ext.trans q r) ops.toList ops.toList F a _ ha (h _ ⟨fun _ q => q, fun a b q r => Ext.trans q r⟩) fun F a ha q w' hw' => ⟨F, ha, q w' hw'⟩
theorem Dr.tail (hT : TabOk P T) (hm : P.follows .mixedOrders = true) (m : Nat) {id : Nat} {ops : Array Oper} {F : Fr} {w : World} {K : Exit → Fr → World → Prop} (hB : Region.lexTailB .any ops m = true)
    (h : ∀ W w1, QW W w (fun a b => b = a) → Ext w w1 → w1.heap.size = w.heap.size →
      quOps P T n W (fun a b => b = a) ops.toList (ops.toList.take m) F (fun F' => exOps P T n ops.toList (ops.toList.drop m) F' w1 (fun F w => K .normal F w) (fun ch F w => K (.panic ch) F w))) : Dr P n id ops F w K := by
  refine ⟨fun a ha => ?_⟩
  obtain ⟨l⟩ := ops
  have e1 : Ext w { w with drawn := w.drawn + 1 } := ⟨rfl, rfl, rfl, Nat.le_refl _, fun _ _ => rfl⟩
  refine wp_region_still_tail m hm hB (wpQuiet_still _ _ ?_)
  exact quOps_sound hT (fun a b q r => r.trans q) l (l.take m) F a _ ha (h _ { w with drawn := w.drawn + 1 } ⟨fun w' q => q ▸ e1, fun a b q r => r.trans q⟩ e1 rfl) fun F a ha q =>
    exOps_sound hT l (l.drop m) F a _ _ _ ha q (fun F a w ha q => ⟨F, ha, q⟩) (fun ch F a w ha q => ⟨F, ha, q⟩)

section rules
variable {w : World} {Rl : World → World → Prop} (hW : QW W w Rl)
include hW
theorem QLd.blk {b o m : Nat} {t : TypeId} {vs : List Value} {k : List Value → Prop} (h : Blk w b t vs) (hm : ((vs.drop o).take m).length = m) (hk : k ((vs.drop o).take m)) : QLd W ⟨b, o, none⟩ m k := by
  refine ⟨_, fun w' hw' => ⟨hm, fun i v hv => ?_⟩, hk⟩
  rw [add_lit, (h.ext (hW.1 w' hw')).cell]
  have : i < m := by have := (List.getElem?_eq_some_iff.1 hv).1; omega
  rw [List.getElem?_take_of_lt this, List.getElem?_drop] at hv
  exact hv
theorem QLd1.blk {b o : Nat} {t : TypeId} {vs : List Value} {v : Value} {k : Value → Prop} (h : Blk w b t vs) (hv : vs[o]? = some v) (hk : k v) : QLd1 W ⟨b, o, none⟩ k :=
  ⟨v, fun w' hw' => ((h.ext (hW.1 w' hw')).cell o).trans hv, hk⟩
variable {α : Type} {sz B : Nat} {A : Option Addr} {l : List α} {enc : α → List Value} {i o : Nat} {x : α}
theorem QLd.rd {k : List Value → Prop} (h : Rd (Fl enc) sz w B A l) (hB : B ≤ w.heap.size) (hx : l[i]? = some x) (hk : k (enc x)) : QLd W ((gA A).add (i * sz)) sz k := by
  refine ⟨enc x, fun w' hw' => ?_, hk⟩
  obtain ⟨vs, h1, h2, h3⟩ := (h.ext (hW.1 w' hw') hB).at_ i x hx
  unfold Fl at h2
  subst h2
  exact ⟨h1, fun j v hv => by rw [add_add]; exact h3 j v hv⟩
theorem QLd1.rd {v : Value} {k : Value → Prop} (h : Rd (Fl enc) 1 w B A l) (hB : B ≤ w.heap.size) (hx : l[i]? = some x) (hv : (enc x)[0]? = some v) (hk : k v) : QLd1 W ((gA A).add (i * 1)) k := by
  refine ⟨v, fun w' hw' => ?_, hk⟩
  obtain ⟨vs, h1, h2, h3⟩ := (h.ext (hW.1 w' hw') hB).at_ i x hx
  unfold Fl at h2
  subst h2
  simpa using h3 0 v hv
theorem QLd1.rdF {v : Value} {k : Value → Prop} (h : Rd (Fl enc) sz w B A l) (hB : B ≤ w.heap.size) (hx : l[i]? = some x) (hv : (enc x)[o]? = some v) (hk : k v) : QLd1 W (pAdd ((gA A).add (i * sz)) o) k := by
  refine ⟨v, fun w' hw' => ?_, hk⟩
  obtain ⟨vs, h1, h2, h3⟩ := (h.ext (hW.1 w' hw') hB).at_ i x hx
  unfold Fl at h2
  subst h2
  rw [pAdd_add]
  exact h3 o v hv
theorem QLd.rs {k : List Value → Prop} (h : RdS enc sz w A l) (hx : l[i]? = some x) (hk : k (enc x)) : QLd W ((gA A).add (i * sz)) sz k := QLd.rd hW h (Nat.le_refl _) hx hk
theorem QLd1.rs {v : Value} {k : Value → Prop} (h : RdS enc 1 w A l) (hx : l[i]? = some x) (hv : (enc x)[0]? = some v) (hk : k v) : QLd1 W ((gA A).add (i * 1)) k := QLd1.rd hW h (Nat.le_refl _) hx hv hk
theorem QLd1.rsF {v : Value} {k : Value → Prop} (h : RdS enc sz w A l) (hx : l[i]? = some x) (hv : (enc x)[o]? = some v) (hk : k v) : QLd1 W (pAdd ((gA A).add (i * sz)) o) k := QLd1.rdF hW h (Nat.le_refl _) hx hv hk
theorem QCl.mk {f : Nat} {args : Array Value} {v : Value} {k : Value → Prop} (h : ∀ w', Ext w w' → Cl P f args w' (fun u w'' => u = v ∧ Rl w' w'') (fun _ _ => False)) (hk : k v) : QCl P f args W Rl k :=
  ⟨v, fun w' hw' => h w' (hW.1 w' hw'), hk⟩
theorem QSm.mk {s : Sem Value} {v : Value} {k : Value → Prop} (h : ∀ w', Ext w w' → s.run P w' = .ok v w') (hk : k v) : QSm P s W k := ⟨v, fun w' hw' => h w' (hW.1 w' hw'), hk⟩
end rules
end
end Go.Sh
