/- The evaluator of code over known slots, third part: operations with memory, regions, code; own work. -/
import Derived.Test.YtbbadmlekagloaaDoorShB
import Derived.RowKit
namespace Go.Sh

def obp (o : Option Value) (f : Value → Prop) : Prop := match o with | some v => f v | none => False
def evF (F : Fr) : Operand → Option Value
  | .tmp t => look F.env t
  | .const v => some v
  | .global g => some (.pointer (some ⟨g, 0, none⟩))
  | .func f => some (.func (.func f) #[] #[])
def cat (a b : List Value) : List Value := match b with | [] => a | _ :: _ => a ++ b
def alo (o : Option (List Value)) (f : List Value → Prop) : Prop := match o with | some v => f v | none => False
def optL (ev : Operand → Option Value) : Option Operand → Option (Option Value)
  | none => some none
  | some x => match ev x with | some v => some (some v) | none => none
def obo (o : Option (Option Value)) (f : Option Value → Prop) : Prop := match o with | some v => f v | none => False

section
variable (P : Program) (T : Tab)
def exCall (ev : Operand → Option Value) (c : Call) (ty : TypeId) (w : World) (k : Value → World → Prop) (X : List PanicEntry → World → Prop) : Prop :=
  alo (allSome (c.args.toList.map ev)) fun args =>
  match c.callee with
  | .value f => obp (ev f) fun vf => match vf with
    | .func fn first cap => match fn with
      | .func g => match memN T.fs g with
        | true => Cl P g (cat (first.toList ++ args) cap.toList).toArray w k X
        | false => False
      | _ => False
    | _ => False
  | .builtin b => match b with
    | .append => Sm P (Builtin.append_ c.argTypes ty args.toArray) w k X
    | .cap => Sm P (Builtin.cap_ c.argTypes ty args.toArray) w k X
    | .clear => Sm P (Builtin.clear_ c.argTypes ty args.toArray) w k X
    | .copy => Sm P (Builtin.copy_ c.argTypes ty args.toArray) w k X
    | .delete => Sm P (Builtin.delete_ c.argTypes ty args.toArray) w k X
    | .len => Sm P (Builtin.len_ c.argTypes ty args.toArray) w k X
    | .max => Sm P (Builtin.max_ c.argTypes ty args.toArray) w k X
    | .min => Sm P (Builtin.min_ c.argTypes ty args.toArray) w k X
    | .panic => match args with
      | [v] => match v with | .iface _ _ => X [{ v, recovered := false }] w | _ => False
      | _ => False
    | _ => False
  | _ => False
def exOp (ev : Operand → Option Value) (o : Oper) (w : World) (k : Value → World → Prop) (X : List PanicEntry → World → Prop) : Prop :=
  match pu T.ts ev o.op with
  | some v => k v w
  | none => match o.op with
    | .pick c a b => obp (ev c) fun vc => obp (ev a) fun va => obp (ev b) fun vb => match vc with | .bool t => Gd t (k va w) (k vb w) | _ => False
    | .alloc t => match getT T.ts t with
      | none => False
      | some i => Al i.zero.cells.toList t w fun p w' => k (.pointer (some ⟨p, 0, none⟩)) w'
    | .box t x => obp (ev x) fun v => Al v.cells.toList t w fun p w' => k (.pointer (some ⟨p, 0, none⟩)) w'
    | .load t a => obp (ev a) fun va => match va with
      | .pointer (some p) => match getT T.ts t with
        | none => False
        | some i => match aggD i.desc with
          | true => Ld w p i.size fun vs => k (.agg vs.toArray) w
          | false => Ld1 w p fun v => k v w
      | _ => False
    | .store t a x => obp (ev a) fun va => obp (ev x) fun v => match va with
      | .pointer (some p) => match getT T.ts t with
        | none => False
        | some i => match Nat.beq v.cells.toList.length i.size with
          | true => St w p v.cells.toList fun w' => k undef w'
          | false => False
      | _ => False
    | .indexAddr t x i => obp (ev x) fun vx => obp (ev i) fun vi => match vi with
      | .int _ n => match getT T.ts t with
        | none => False
        | some ti => match ti.desc with
          | .slice e => match getT T.ts e with
            | none => False
            | some ei => match vx with | .slice A len _ => Ix A len n ei.size fun ad => k (.pointer (some ad)) w | _ => False
          | .array len e => match getT T.ts e with
            | none => False
            | some ei => match vx with | .pointer (some p) => Ix (some p) len n ei.size fun ad => k (.pointer (some ad)) w | _ => False
          | _ => False
      | _ => False
    | .index t x i => obp (ev x) fun vx => obp (ev i) fun vi => Sm P (Instr.index t vx vi) w k X
    | .slice t x lo hi mx => obp (ev x) fun vx => obo (optL ev lo) fun a => obo (optL ev hi) fun b => obo (optL ev mx) fun c => Sm P (Instr.sliceAt t vx a b c) w k X
    | .binOp b t x y _ => obp (ev x) fun vx => obp (ev y) fun vy => Sm P (do eqGuard b t x y vx vy; binOp b t vx vy) w k X
    | .makeMap t r => match r with | none => Sm P (Instr.makeMap t none) w k X | some x => obp (ev x) fun v => Sm P (Instr.makeMap t (some v)) w k X
    | .makeSlice t l c => obp (ev l) fun vl => obp (ev c) fun vc => Sm P (Instr.makeSlice t vl vc) w k X
    | .buildSlice t len parts => alo (allSome (parts.toList.map fun p => ev p.2)) fun vs => Sm P (Instr.buildSlice t len ((parts.toList.map (·.1)).zip vs).toArray) w k X
    | .lookup t x i ok => obp (ev x) fun vx => obp (ev i) fun vi => Sm P (Instr.lookup t vx vi ok) w k X
    | .mapUpdate t m i x => obp (ev m) fun vm => obp (ev i) fun vi => obp (ev x) fun vx => SmU P (Instr.mapUpdate t vm vi vx) w (fun w' => k undef w') X
    | .insert t m i x => obp (ev m) fun vm => obp (ev i) fun vi => obp (ev x) fun vx => SmU P (Instr.mapUpdate t vm vi vx) w (fun w' => k undef w') X
    | .mapEntry t m i => obp (ev m) fun vm => obp (ev i) fun vi => Sm P (Instr.mapEntry t vm vi) w k X
    | .entryStore t m i x => obp (ev m) fun vm => obp (ev i) fun vi => obp (ev x) fun vx => SmU P (Instr.entryStore t vm vi vx) w (fun w' => k undef w') X
    | .range t x => obp (ev x) fun vx => Sm P (Instr.range t vx) w k X
    | .next x s => obp (ev x) fun vx => Sm P (Instr.next vx s o.type) w k X
    | .entry x => obp (ev x) fun vx => Sm P (Instr.entry vx) w k X
    | .typeAssert x t u ok => obp (ev x) fun vx => Sm P (Instr.typeAssert vx t u ok) w k X
    | .convert s d x => obp (ev x) fun vx => Sm P (convert s d vx) w k X
    | .panic x => obp (ev x) fun v => match v with | .iface _ _ => X [{ v, recovered := false }] w | _ => False
    | .call c => exCall P T ev c o.type w k X
    | _ => False

variable {P T}
section sound
variable (hT : TabOk P T) {a : Act} {w : World} {ev : Operand → Option Value} (hev : ∀ x v, ev x = some v → a.eval x = v)
  {next : Act → World → Prop} {Q : Exit → Act → World → Prop}

theorem obp_some {o : Option Value} {f : Value → Prop} (h : obp o f) : ∃ v, o = some v ∧ f v := by
  cases o with
  | none => exact h.elim
  | some v => exact ⟨v, rfl, h⟩
theorem alo_some {o : Option (List Value)} {f : List Value → Prop} (h : alo o f) : ∃ v, o = some v ∧ f v := by
  cases o with
  | none => exact h.elim
  | some v => exact ⟨v, rfl, h⟩
theorem obo_some {o : Option (Option Value)} {f : Option Value → Prop} (h : obo o f) : ∃ v, o = some v ∧ f v := by
  cases o with
  | none => exact h.elim
  | some v => exact ⟨v, rfl, h⟩
include hev in
theorem optL_ev {x : Option Operand} {v : Option Value} (h : optL ev x = some v) : x.map a.eval = v := by
  cases x with
  | none => simp [optL] at h; subst h; rfl
  | some x =>
    simp only [optL] at h
    split at h <;> simp at h
    subst h
    rename_i u hu
    simp [hev _ _ hu]
theorem upon_val {o : Oper} {v : Value} {w' : World} {r : Result Next} (hr : r = Result.ok (.value v) w') (h : next (a.put o.dst v) w') : o.upon P a next Q r := by
  subst hr; exact h
theorem upon_skip' {o : Oper} {w' : World} {r : Result Next} (hr : r = Result.ok .skip w') (h : next (a.put o.dst undef) w') : o.upon P a next Q r := by
  subst hr; exact h
theorem upon_Sm {o : Oper} {s : Sem Value} {k : Value → World → Prop} {X : List PanicEntry → World → Prop} {r : Result Next}
    (hr : r = (do pure (.value (← s)) : Sem Next).run P w) (h : Sm P s w k X) (hk : ∀ v w', k v w' → next (a.put o.dst v) w') (hX : ∀ ch w', X ch w' → Q (.panic ch) a w') : o.upon P a next Q r := by
  subst hr
  replace h := h.out
  simp only [Sem.run_bind]
  cases hs : s.run P w with
  | ok v w' => rw [hs] at h; exact hk _ _ h
  | halt x w' =>
    rw [hs] at h
    cases x with
    | panic v => exact hX _ _ h
    | _ => exact h.elim
theorem upon_SmU {o : Oper} {s : Sem Unit} {k : World → Prop} {X : List PanicEntry → World → Prop} {r : Result Next}
    (hr : r = (do s; pure .skip : Sem Next).run P w) (h : SmU P s w k X) (hk : ∀ w', k w' → next (a.put o.dst undef) w') (hX : ∀ ch w', X ch w' → Q (.panic ch) a w') : o.upon P a next Q r := by
  subst hr
  replace h := h.out
  simp only [Sem.run_bind]
  cases hs : s.run P w with
  | ok v w' => rw [hs] at h; exact hk _ h
  | halt x w' =>
    rw [hs] at h
    cases x with
    | panic v => exact hX _ _ h
    | _ => exact h.elim
theorem upon_Cl {o : Oper} {f : Nat} {args : Array Value} {k : Value → World → Prop} {X : List PanicEntry → World → Prop} {r : Result Next}
    (hr : r = Result.ok (.enter f args) w) (h : Cl P f args w k X) (hk : ∀ v w', k v w' → next (a.put o.dst v) w') (hX : ∀ ch w', X ch w' → Q (.panic ch) a w') : o.upon P a next Q r := by
  subst hr
  refine Calls.mono h.out fun e w' q => ?_
  cases e with
  | returned v => exact hk _ _ q
  | panicked ch => exact hX _ _ q
  | outgrown => exact q.elim
theorem run_storeCells_sh (p : Addr) : ∀ (vs : List Value) (i : Nat) (w : World), (∀ v ∈ vs, v.oneCell' = true) →
    (∀ j, j < vs.length → (∃ u, w.cell? (p.add (i + j)) = some u) ∧ w.frozen? (p.add (i + j)) = false) →
    (storeCells p vs i).run P w = Result.ok () (setCells w p vs i)
  | [], i, w, _, _ => rfl
  | v :: r, i, w, h1, hc => by
    obtain ⟨⟨u, hu⟩, hf⟩ := hc 0 (by simp)
    simp only [Nat.add_zero] at hu hf
    have hst : (store (p.add i) v).run P w = Result.ok () (w.setCell (p.add i) v) := by
      rw [run_store P w _ v _ (h1 v (by simp))]
      simp [hu, hf]
    simp only [storeCells, Sem.run_bind, hst, Result.andThen_ok, setCells]
    refine run_storeCells_sh p r (i + 1) _ (fun v hv => h1 v (by simp [hv])) fun j hj => ?_
    obtain ⟨⟨u', hu'⟩, hf'⟩ := hc (j + 1) (by simp; omega)
    rw [show i + 1 + j = i + (j + 1) by omega]
    refine ⟨?_, ?_⟩
    · by_cases e : p.add (i + (j + 1)) = p.add i
      · rw [e]
        have := RowKit.cell?_setCell_some (w := w) (p := p.add i) (x := v) (q := p.add i) (v := u) hu
        exact ⟨_, this.choose_spec⟩
      · obtain ⟨y, hy⟩ := RowKit.cell?_setCell_some (w := w) (p := p.add i) (x := v) (q := p.add (i + (j + 1))) (v := u') hu'
        exact ⟨y, hy⟩
    · rw [World.frozen?_setCell]; exact hf'
include hT hev in
theorem exCall_sound {o : Oper} {c : Call} (e : o.op = .call c) {k : Value → World → Prop} {X : List PanicEntry → World → Prop} (h : exCall P T ev c o.type w k X)
    (hk : ∀ v w', k v w' → next (a.put o.dst v) w') (hX : ∀ ch w', X ch w' → Q (.panic ch) a w') : o.wp P a w next Q := by
  unfold exCall at h
  obtain ⟨args, hargs, h⟩ := alo_some h
  have ha := map_ev hev hargs
  unfold Oper.wp execOp
  simp only [e]
  split at h
  · rename_i f hc
    obtain ⟨vf, hf, h⟩ := obp_some h
    split at h <;> try (exact h.elim)
    rename_i fn first cap
    split at h <;> try (exact h.elim)
    rename_i g
    split at h <;> try (exact h.elim)
    rename_i hg
    obtain ⟨fun_, h1, h2, h3⟩ := hT.2.get hg
    have hcat : (cat (first.toList ++ args) cap.toList).toArray = first ++ args.toArray ++ cap := by
      obtain ⟨fl⟩ := first; obtain ⟨cl⟩ := cap
      cases cl <;> simp [cat]
    refine upon_Cl (f := g) (args := (cat (first.toList ++ args) cap.toList).toArray) ?_ h hk hX
    simp only [resolve, hc, hev _ _ hf, Deferred.ofValue, ha, hcat]
    have h2' : fun_.name ≠ "runtime.NumGoroutine" := by simpa using h2
    have h3' : fun_.body ≠ none := by intro hn; simp [hn] at h3
    simp [invoke, callFunc, h1, h2', h3']
  · rename_i b hc
    split at h
    all_goals first
      | exact h.elim
      | (refine upon_Sm ?_ h hk hX; simp only [resolve, hc, ha, Sem.run_bind, Sem.run_pure, Result.andThen_ok, invoke, builtin])
      | skip
    split at h <;> try (exact h.elim)
    split at h <;> try (exact h.elim)
    rename_i t v
    simp only [resolve, hc, ha, Sem.run_bind, Sem.run_pure, Result.andThen_ok, invoke, builtin]
    exact hX _ _ h
  · exact h.elim
include hT hev in
theorem exOp_sound {o : Oper} {k : Value → World → Prop} {X : List PanicEntry → World → Prop} (h : exOp P T ev o w k X)
    (hk : ∀ v w', k v w' → next (a.put o.dst v) w') (hX : ∀ ch w', X ch w' → Q (.panic ch) a w') : o.wp P a w next Q := by
  unfold exOp at h
  split at h
  · rename_i v hv
    exact upon_val (pu_sound hT.1 w hev hv) (hk _ _ h)
  · rename_i hnone; clear hnone
    split at h
    · -- pick
      rename_i c x y e
      replace h := obp_some h; obtain ⟨vc, hc, h⟩ := h
      replace h := obp_some h; obtain ⟨vx, hx, h⟩ := h
      replace h := obp_some h; obtain ⟨vy, hy, h⟩ := h
      split at h <;> try (exact h.elim)
      rename_i t
      unfold Oper.wp execOp
      simp only [e, hev _ _ hc, hev _ _ hx, hev _ _ hy]
      cases t
      · exact upon_val (v := vy) (w' := w) (by simp [asBool]) (hk _ _ (h.2 rfl))
      · exact upon_val (v := vx) (w' := w) (by simp [asBool]) (hk _ _ (h.1 rfl))
    · -- alloc
      rename_i t e
      split at h <;> try (exact h.elim)
      rename_i i hi
      unfold Oper.wp execOp
      simp only [e]
      refine upon_val (w' := w.alloc (.cells i.zero.cells t)) (v := .pointer (some ⟨w.heap.size, 0, none⟩)) ?_ (hk _ _ h.out)
      simp [Instr.alloc, run_zero hT.1 hi, newVar, newRow]
    · -- box
      rename_i t x e
      replace h := obp_some h; obtain ⟨v, hx, h⟩ := h
      unfold Oper.wp execOp
      simp only [e, hev _ _ hx]
      refine upon_val (w' := w.alloc (.cells v.cells t)) (v := .pointer (some ⟨w.heap.size, 0, none⟩)) ?_ (hk _ _ h.out)
      simp [Instr.box, newVar, newRow]
    · -- load
      rename_i t x e
      replace h := obp_some h; obtain ⟨v, hx, h⟩ := h
      split at h <;> try (exact h.elim)
      rename_i p
      split at h <;> try (exact h.elim)
      rename_i i hi
      unfold Oper.wp execOp
      simp only [e, hev _ _ hx]
      split at h
      · rename_i hag
        obtain ⟨vs, hl, hc, h⟩ := h
        refine upon_val (w' := w) (v := .agg vs.toArray) ?_ (hk _ _ h)
        have := run_loadCells_list (P := P) w p vs hc
        rw [hl] at this
        simp [Instr.loadAt, Instr.sureAddr, loadVar, run_isAgg hT.1 w hi, hag, run_size hT.1 hi, this]
      · rename_i hag
        obtain ⟨u, hu, h⟩ := h
        refine upon_val (w' := w) (v := u) ?_ (hk _ _ h)
        simp [Instr.loadAt, Instr.sureAddr, loadVar, run_isAgg hT.1 w hi, hag, hu]
    · -- store
      rename_i t x y e
      replace h := obp_some h; obtain ⟨v, hx, h⟩ := h
      replace h := obp_some h; obtain ⟨u, hy, h⟩ := h
      split at h <;> try (exact h.elim)
      rename_i p
      split at h <;> try (exact h.elim)
      rename_i i hi
      split at h <;> try (exact h.elim)
      rename_i hsz
      have hsz := Nat.eq_of_beq_eq_true hsz
      obtain ⟨h1, hc, h⟩ := h
      unfold Oper.wp execOp
      simp only [e, hev _ _ hx, hev _ _ hy]
      refine upon_skip' (w' := setCells w p u.cells.toList 0) ?_ (hk _ _ h)
      have := run_storeCells_sh (P := P) p u.cells.toList 0 w h1 (fun j hj => by simpa using hc j hj)
      have hs' : u.cells.size = i.size := by simpa using hsz
      simp [Instr.storeAt, Instr.sureAddr, storeVar, run_size hT.1 hi, this, hs']
    · -- indexAddr
      rename_i t x y e
      replace h := obp_some h; obtain ⟨v, hx, h⟩ := h
      replace h := obp_some h; obtain ⟨u, hy, h⟩ := h
      split at h <;> try (exact h.elim)
      rename_i kk n
      split at h <;> try (exact h.elim)
      rename_i ti hti
      unfold Oper.wp execOp
      simp only [e, hev _ _ hx, hev _ _ hy]
      split at h
      · rename_i el hd
        split at h <;> try (exact h.elim)
        rename_i ei hei
        split at h <;> try (exact h.elim)
        rename_i A len cap
        obtain ⟨hn, h0, h1, h⟩ := h
        obtain ⟨ad, rfl⟩ : ∃ ad, A = some ad := Option.ne_none_iff_exists'.1 hn
        simp only [gA] at h
        refine upon_val (w' := w) (v := .pointer (some (ad.add (n.toNat * ei.size)))) ?_ (hk _ _ h)
        simp [Instr.indexAt, asIntOf, run_und hT.1 hti, hd, h0, h1, run_size hT.1 hei]
      · rename_i len el hd
        split at h <;> try (exact h.elim)
        rename_i ei hei
        split at h <;> try (exact h.elim)
        rename_i p
        obtain ⟨_, h0, h1, h⟩ := h
        simp only [gA] at h
        refine upon_val (w' := w) (v := .pointer (some (p.add (n.toNat * ei.size)))) ?_ (hk _ _ h)
        simp [Instr.indexAt, asIntOf, run_und hT.1 hti, hd, h0, h1, run_size hT.1 hei, Instr.sureAddr]
      · exact h.elim
    · rename_i t x y e
      replace h := obp_some h; obtain ⟨v0, h0, h⟩ := h
      replace h := obp_some h; obtain ⟨v1, h1, h⟩ := h
      unfold Oper.wp execOp
      simp only [e, hev _ _ h0, hev _ _ h1]
      exact upon_Sm rfl h hk hX
    · rename_i t x lo hi mx e
      replace h := obp_some h; obtain ⟨v0, h0, h⟩ := h
      replace h := obo_some h; obtain ⟨v1, h1, h⟩ := h
      replace h := obo_some h; obtain ⟨v2, h2, h⟩ := h
      replace h := obo_some h; obtain ⟨v3, h3, h⟩ := h
      unfold Oper.wp execOp
      simp only [e, hev _ _ h0, optL_ev hev h1, optL_ev hev h2, optL_ev hev h3]
      exact upon_Sm rfl h hk hX
    · rename_i b t x y yt e
      replace h := obp_some h; obtain ⟨v0, h0, h⟩ := h
      replace h := obp_some h; obtain ⟨v1, h1, h⟩ := h
      unfold Oper.wp execOp
      simp only [e, hev _ _ h0, hev _ _ h1]
      exact upon_Sm rfl h hk hX
    · rename_i t r e
      split at h
      · unfold Oper.wp execOp
        simp only [e]
        exact upon_Sm rfl h hk hX
      · rename_i x
        replace h := obp_some h; obtain ⟨v0, h0, h⟩ := h
        unfold Oper.wp execOp
        simp only [e]
        refine upon_Sm ?_ h hk hX
        simp [hev _ _ h0]
    · rename_i t x y e
      replace h := obp_some h; obtain ⟨v0, h0, h⟩ := h
      replace h := obp_some h; obtain ⟨v1, h1, h⟩ := h
      unfold Oper.wp execOp
      simp only [e, hev _ _ h0, hev _ _ h1]
      exact upon_Sm rfl h hk hX
    · rename_i t len parts e
      replace h := alo_some h; obtain ⟨vs, hvs, h⟩ := h
      unfold Oper.wp execOp
      simp only [e]
      refine upon_Sm ?_ h hk hX
      have hm := allSome_spec _ _ hvs
      have : (parts.map fun x => (x.1, a.eval x.2)) = ((parts.toList.map (·.1)).zip vs).toArray := by
        apply Array.ext'
        simp only [Array.toList_map]
        apply List.ext_getElem?
        intro i
        have hi := congrArg (·[i]?) hm
        simp only [List.getElem?_map] at hi ⊢
        cases hp : parts.toList[i]? with
        | none =>
          rw [hp] at hi
          cases hv : vs[i]? with
          | none => simp only [Option.map_none]; symm; rw [List.getElem?_eq_none_iff]; simp at hp hv ⊢; omega
          | some v => rw [hv] at hi; simp at hi
        | some y =>
          rw [hp] at hi
          cases hv : vs[i]? with
          | none => rw [hv] at hi; simp at hi
          | some v =>
            rw [hv] at hi
            simp at hi
            simp only [Option.map_some]
            symm
            rw [List.getElem?_zip_eq_some]
            simp [hp, hv, hev _ _ hi]
      rw [← this]
    · rename_i t x i ok e
      replace h := obp_some h; obtain ⟨v0, h0, h⟩ := h
      replace h := obp_some h; obtain ⟨v1, h1, h⟩ := h
      unfold Oper.wp execOp
      simp only [e, hev _ _ h0, hev _ _ h1]
      exact upon_Sm rfl h hk hX
    · rename_i t m i x e
      replace h := obp_some h; obtain ⟨v0, h0, h⟩ := h
      replace h := obp_some h; obtain ⟨v1, h1, h⟩ := h
      replace h := obp_some h; obtain ⟨v2, h2, h⟩ := h
      unfold Oper.wp execOp
      simp only [e, hev _ _ h0, hev _ _ h1, hev _ _ h2]
      exact upon_SmU rfl h (fun w' q => hk _ _ q) hX
    · rename_i t m i x e
      replace h := obp_some h; obtain ⟨v0, h0, h⟩ := h
      replace h := obp_some h; obtain ⟨v1, h1, h⟩ := h
      replace h := obp_some h; obtain ⟨v2, h2, h⟩ := h
      unfold Oper.wp execOp
      simp only [e, hev _ _ h0, hev _ _ h1, hev _ _ h2]
      exact upon_SmU rfl h (fun w' q => hk _ _ q) hX
    · rename_i t m i e
      replace h := obp_some h; obtain ⟨v0, h0, h⟩ := h
      replace h := obp_some h; obtain ⟨v1, h1, h⟩ := h
      unfold Oper.wp execOp
      simp only [e, hev _ _ h0, hev _ _ h1]
      exact upon_Sm rfl h hk hX
    · rename_i t m i x e
      replace h := obp_some h; obtain ⟨v0, h0, h⟩ := h
      replace h := obp_some h; obtain ⟨v1, h1, h⟩ := h
      replace h := obp_some h; obtain ⟨v2, h2, h⟩ := h
      unfold Oper.wp execOp
      simp only [e, hev _ _ h0, hev _ _ h1, hev _ _ h2]
      exact upon_SmU rfl h (fun w' q => hk _ _ q) hX
    · rename_i t x e
      replace h := obp_some h; obtain ⟨v0, h0, h⟩ := h
      unfold Oper.wp execOp
      simp only [e, hev _ _ h0]
      exact upon_Sm rfl h hk hX
    · rename_i x s e
      replace h := obp_some h; obtain ⟨v0, h0, h⟩ := h
      unfold Oper.wp execOp
      simp only [e, hev _ _ h0]
      exact upon_Sm rfl h hk hX
    · rename_i x e
      replace h := obp_some h; obtain ⟨v0, h0, h⟩ := h
      unfold Oper.wp execOp
      simp only [e, hev _ _ h0]
      exact upon_Sm rfl h hk hX
    · rename_i x t u ok e
      replace h := obp_some h; obtain ⟨v0, h0, h⟩ := h
      unfold Oper.wp execOp
      simp only [e, hev _ _ h0]
      exact upon_Sm rfl h hk hX
    · rename_i s d x e
      replace h := obp_some h; obtain ⟨v0, h0, h⟩ := h
      unfold Oper.wp execOp
      simp only [e, hev _ _ h0]
      exact upon_Sm rfl h hk hX
    · rename_i x e
      replace h := obp_some h; obtain ⟨v0, h0, h⟩ := h
      split at h <;> try (exact h.elim)
      unfold Oper.wp execOp
      simp only [e, hev _ _ h0]
      exact hX _ _ h
    · rename_i c e
      exact exCall_sound hT hev e h hk hX
    · exact h.elim
end sound
end
end Go.Sh
