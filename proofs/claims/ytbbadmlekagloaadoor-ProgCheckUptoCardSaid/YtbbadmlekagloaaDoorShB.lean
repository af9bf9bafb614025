/- The evaluator of code over known slots, second part: operations, regions, code; own work. -/
import Derived.Test.YtbbadmlekagloaaDoorShA
namespace Go.Sh

def ob {α : Type} (o : Option Value) (f : Value → Option α) : Option α := match o with | some v => f v | none => none
def placesOf (T : List (Nat × TI)) : List Field → Option (List (Nat × Nat))
  | [] => some []
  | f :: r => match getT T f.type with
    | none => none
    | some ti => match placesOf T r with
      | none => none
      | some l => some ((f.offset, ti.size) :: l)
def puBuild (pl : List (Nat × Nat)) : List Value → List (Nat × Option Value) → Option (List Value)
  | cells, [] => some cells
  | cells, (i, v?) :: r => match v? with
    | none => none
    | some v => match pl[i]? with
      | none => none
      | some (off, sz) => match Nat.beq v.cells.toList.length sz with
          | false => none
          | true => match Nat.ble (off + v.cells.toList.length) cells.length with
            | false => none
            | true => puBuild pl (cells.take off ++ v.cells.toList ++ cells.drop (off + v.cells.toList.length)) r
def un (op : UnOp) (x : Value) : Option Value :=
  match op with
  | .not => match x with | .bool b => some (.bool (!b)) | _ => none
  | .neg => match x with | .int k n => some (.int k (k.wrap (0 - n))) | _ => none
  | _ => none
def cv (d s : TypeDesc) (x : Value) : Option Value :=
  match d with
  | .int k => match x with | .int _ n => some (.int k (k.wrap n)) | _ => none
  | .string => match s with
    | .string => match x with | .string _ => some x | _ => none
    | _ => none
  | _ => none
def isIf : TypeDesc → Bool
  | .interface _ => true
  | _ => false
def fldOff (d : TypeDesc) (i : Nat) : Option (Nat × Nat) :=
  match d with
  | .struct fs => match fs.toList[i]? with | some f => some (f.type, f.offset) | none => none
  | _ => none
def pAdd (p : Addr) : Nat → Addr
  | 0 => p
  | n + 1 => ⟨p.block, p.off + (n + 1), none⟩
theorem pAdd_eq (p : Addr) (n : Nat) : pAdd p n = p.add n := by cases n <;> simp [pAdd, Addr.add]
def lenOf? (T : List (Nat × TI)) (t : Nat) (x : Value) : Option Value :=
  match getT T t with
  | none => none
  | some i => match i.desc with
    | .string => match x with | .string s => some (.int .i64 s.size) | _ => none
    | .slice _ => match x with | .slice _ n _ => some (.int .i64 n) | _ => none
    | .array n _ => some (.int .i64 n)
    | _ => none
def mm (mx : Bool) (x y : Value) : Option Value :=
  match x with
  | .int k a => match y with | .int _ b => some (.int k (match mx with | true => (if b > a then b else a) | false => (if b < a then b else a))) | _ => none
  | _ => none
def allSome : List (Option Value) → Option (List Value)
  | [] => some []
  | none :: _ => none
  | some v :: r => match allSome r with | some l => some (v :: l) | none => none

def pu (T : List (Nat × TI)) (ev : Operand → Option Value) (op : Op) : Option Value :=
  match op with
  | .move x => ev x
  | .assign x => ev x
  | .build t parts => match getT T t with
    | none => none
    | some i => match i.desc with
      | .struct fs => match placesOf T fs.toList with
        | none => none
        | some pl => match puBuild pl i.zero.cells.toList (parts.toList.map fun (j, x) => (j, ev x)) with
          | some cs => some (.agg cs.toArray)
          | none => none
      | _ => none
  | .nilCheck x => ob (ev x) fun v => match v with | .pointer (some _) => some v | .iface _ _ => some v | .func (.func _) _ _ => some v | _ => none
  | .binOp b t x y _ => ob (ev x) fun vx => ob (ev y) fun vy => puBin T b t y vx vy
  | .unOp u _ x => ob (ev x) fun v => un u v
  | .convert s d x => ob (ev x) fun v => match getT T s with
    | none => none
    | some i => match getT T d with | none => none | some j => cv j.desc i.desc v
  | .makeInterface t x => ob (ev x) fun v => match getT T t with | none => none | some i => match isIf i.desc with | true => none | false => some (.iface t v)
  | .makeFunc fn first cap => match allSome (first.toList.map ev) with
    | none => none
    | some a => match allSome (cap.toList.map ev) with | none => none | some b => some (.func fn a.toArray b.toArray)
  | .extract t i => ob (ev t) fun v => match v with | .tuple vs => vs.toList[i]? | _ => none
  | .fieldAddr t x i => ob (ev x) fun v => match v with
    | .pointer (some p) => match getT T t with
      | none => none
      | some ti => match fldOff ti.desc i with
        | none => none
        | some (ft, off) => match getT T ft with
          | none => none
          | some fi => match fi.size with | 0 => none | _ + 1 => some (.pointer (some (pAdd p off)))
    | _ => none
  | .field t x i => ob (ev x) fun v => match v with
    | .agg cs => match getT T t with
      | none => none
      | some ti => match fldOff ti.desc i with | none => none | some (ft, off) => partF T ft cs.toList off
    | _ => none
  | .call c => match c.callee with
    | .builtin b => match b with
      | .len => match c.argTypes.toList with
        | t :: _ => match c.args.toList with
          | x :: _ => ob (ev x) fun v => lenOf? T t v
          | [] => none
        | [] => none
      | .max => match c.args.toList with
        | [x, y] => ob (ev x) fun a => ob (ev y) fun b => mm true a b
        | _ => none
      | .min => match c.args.toList with
        | [x, y] => ob (ev x) fun a => ob (ev y) fun b => mm false a b
        | _ => none
      | _ => none
    | _ => none
  | _ => none

section sound
variable {P : Program} {T : List (Nat × TI)} (hT : TabOkT P T) (w : World) {ρ : Operand → Value} {ev : Operand → Option Value} (hev : ∀ x v, ev x = some v → ρ x = v)

theorem ob_some {α : Type} {o : Option Value} {f : Value → Option α} {r : α} (h : ob o f = some r) : ∃ v, o = some v ∧ f v = some r := by
  cases o with
  | none => simp [ob] at h
  | some v => exact ⟨v, rfl, h⟩
theorem foldl_put (vs : List Value) : ∀ (cs : List Value) (off j : Nat), off + j + vs.length ≤ cs.length →
    ((vs.zipIdx j).foldl (fun (cs : Array Value) (c, j) => cs.setIfInBounds (off + j) c) cs.toArray).toList = cs.take (off + j) ++ vs ++ cs.drop (off + j + vs.length) := by
  induction vs with
  | nil => intro cs off j h; simp
  | cons v r ih =>
    intro cs off j h
    simp only [List.length_cons] at h
    simp only [List.zipIdx_cons, List.foldl_cons, List.setIfInBounds_toArray]
    rw [ih _ off (j + 1) (by simp; omega)]
    have hk : off + j < cs.length := by omega
    have e1 : (cs.set (off + j) v).take (off + (j + 1)) = cs.take (off + j) ++ [v] := by
      rw [show off + (j + 1) = off + j + 1 by omega, List.take_succ_eq_append_getElem (by simpa using hk), List.take_set_of_le (Nat.le_refl _)]
      simp
    have e2 : (cs.set (off + j) v).drop (off + (j + 1) + r.length) = cs.drop (off + (j + 1) + r.length) := List.drop_set_of_lt (by omega)
    rw [e1, e2, show off + j + (v :: r).length = off + (j + 1) + r.length by simp; omega]
    simp
theorem fill_sound (pl : List (Nat × Nat)) (g : Nat → Option (Nat × Nat)) (hg : ∀ i x, pl[i]? = some x → g i = some x) :
    ∀ (parts : List (Nat × Option Value)) (vals : List (Nat × Value)) (cells : List Value) (cs : List Value), vals.length = parts.length →
      (∀ (k i : Nat) (v? : Option Value), parts[k]? = some (i, v?) → ∀ v : Value, v? = some v → vals[k]? = some (i, v)) → puBuild pl cells parts = some cs →
      Instr.fill g cells.toArray vals = some cs.toArray
  | [], vals, cells, cs, hl, _, h => by
    have : vals = [] := List.eq_nil_of_length_eq_zero (by simpa using hl)
    subst this
    simp [puBuild] at h
    subst h
    rfl
  | (i, v?) :: r, vals, cells, cs, hl, hv, h => by
    unfold puBuild at h
    split at h; · simp at h
    rename_i v
    split at h; · simp at h
    rename_i off sz hf
    split at h; · simp at h
    rename_i hsz
    split at h; · simp at h
    rename_i hle
    have hsz := Nat.eq_of_beq_eq_true hsz
    have hle := Nat.le_of_ble_eq_true hle
    match vals, hl with
    | x :: vs, hl =>
      have h0 := hv 0 i (some v) rfl v rfl
      simp at h0
      subst h0
      have hf' := hg _ _ hf
      simp only [Instr.fill, hf']
      rw [if_neg (by simp at hsz hle ⊢; omega)]
      have hz := foldl_put v.cells.toList cells off 0 (by simpa using hle)
      have e1 : Array.foldl (fun cs (x : Value × Nat) => match x with | (c, j) => cs.setIfInBounds (off + j) c) cells.toArray v.cells.zipIdx
          = (cells.take off ++ v.cells.toList ++ cells.drop (off + v.cells.toList.length)).toArray := by
        apply Array.ext'
        rw [← Array.foldl_toList]
        simpa using hz
      rw [e1]
      refine fill_sound pl g hg r vs _ cs (by simpa using hl) (fun k i v? hk v hv' => ?_) h
      have := hv (k + 1) i v? (by simpa using hk) v hv'
      simpa using this
include hT in
theorem run_placesOf : ∀ (fs : List Field) (pl : List (Nat × Nat)), placesOf T fs = some pl →
    (fs.mapM (fun f => (do pure (f.offset, ← Go.sizeOf f.type) : Sem (Nat × Nat)))).run P w = Result.ok pl w
  | [], pl, h => by simp [placesOf] at h; subst h; rfl
  | f :: r, pl, h => by
    unfold placesOf at h
    split at h; · simp at h
    rename_i ti hti
    split at h; · simp at h
    rename_i l hl
    simp at h
    subst h
    have ih := run_placesOf r l hl
    simp only [List.mapM_cons, Sem.run_bind, run_size hT hti w, Result.andThen_ok, Sem.run_pure]
    rw [ih]; rfl
theorem allSome_spec : ∀ (l : List (Option Value)) (r : List Value), allSome l = some r → l = r.map some
  | [], r, h => by simp [allSome] at h; subst h; rfl
  | none :: _, r, h => by simp [allSome] at h
  | some v :: l, r, h => by
    unfold allSome at h
    split at h
    · rename_i l' hl'
      simp at h; subst h
      simp [allSome_spec l l' hl']
    · simp at h
include hev in
theorem map_ev {xs : Array Operand} {l : List Value} (h : allSome (xs.toList.map ev) = some l) : xs.map ρ = l.toArray := by
  have := allSome_spec _ _ h
  apply Array.ext'
  simp only [Array.toList_map]
  apply List.ext_getElem?
  intro i
  have hi := congrArg (·[i]?) this
  simp only [List.getElem?_map] at hi ⊢
  cases hx : xs.toList[i]? with
  | none =>
    rw [hx] at hi
    cases hl : l[i]? with
    | none => simp
    | some v => rw [hl] at hi; simp at hi
  | some x =>
    rw [hx] at hi
    simp only [Option.map_some] at hi
    cases hl : l[i]? with
    | none => rw [hl] at hi; simp at hi
    | some v => rw [hl] at hi; simp at hi; simp [hev x v hi]
include hT hev in
theorem pu_sound {o : Oper} {v : Value} (h : pu T ev o.op = some v) : (execOp ρ o).run P w = Result.ok (.value v) w := by
  unfold pu at h
  unfold execOp
  split at h
  · rename_i x e; simp only [e]; rw [hev _ _ h]; rfl
  · rename_i x e; simp only [e]; rw [hev _ _ h]; rfl
  · -- build
    rename_i t parts e
    simp only [e]
    split at h; · simp at h
    rename_i i hi
    split at h <;> try (simp at h; done)
    rename_i fs hd
    split at h; · simp at h
    rename_i pl hpl
    split at h <;> simp at h
    rename_i cs hcs
    subst h
    have hu := run_und hT hi w
    rw [hd] at hu
    have hp := run_placesOf hT w fs.toList pl hpl
    have hfill := fill_sound pl (fun i => pl.toArray[i]?) (fun i x h => by simpa using h) (parts.toList.map fun (j, x) => (j, ev x)) (parts.toList.map fun (j, x) => (j, ρ x)) i.zero.cells.toList cs (by simp)
      (fun k j v? hk v hv => by
        simp only [List.getElem?_map] at hk ⊢
        cases hx : parts.toList[k]? with
        | none => rw [hx] at hk; simp at hk
        | some y =>
          rw [hx] at hk
          simp only [Option.map_some, Option.some.injEq, Prod.mk.injEq] at hk
          obtain ⟨h1, h2⟩ := hk
          simp only [Option.map_some, Option.some.injEq, Prod.mk.injEq]
          exact ⟨h1, hev _ _ (h2.trans hv)⟩) hcs
    simp only [Instr.build, Sem.run_bind, run_zero hT hi, hu, Result.andThen_ok, Array.mapM_eq_mapM_toList, Sem.run_map] at hp ⊢
    rw [hp]
    simp only [Result.andThen_ok, Array.toList_map]
    rw [hfill]
    rfl
  · rename_i x e
    simp only [e]
    obtain ⟨vx, hx, h⟩ := ob_some h
    rw [hev _ _ hx]
    split at h <;> simp at h <;> subst h <;> rfl
  · -- binOp
    rename_i b t x y yt e
    simp only [e]
    obtain ⟨vx, hx, h⟩ := ob_some h
    obtain ⟨vy, hy, h⟩ := ob_some h
    rw [hev _ _ hx, hev _ _ hy]
    have := puBin_sound hT w (xo := x) (yo := y) h
    simp only [Sem.run_bind] at this ⊢
    rw [this]; rfl
  · -- unOp
    rename_i u t x e
    simp only [e]
    obtain ⟨vx, hx, h⟩ := ob_some h
    rw [hev _ _ hx]
    unfold un at h
    split at h
    · split at h <;> simp at h; subst h; rfl
    · split at h <;> simp at h; subst h; simp [Op.unary, Op.intArith]
    · simp at h
  · -- convert
    rename_i s d x e
    simp only [e]
    obtain ⟨vx, hx, h⟩ := ob_some h
    rw [hev _ _ hx]
    split at h; · simp at h
    rename_i i hi
    split at h; · simp at h
    rename_i j hj
    unfold cv at h
    split at h
    · rename_i k hk
      split at h <;> simp at h
      subst h
      simp only [convert, Sem.run_bind, run_und hT hi, run_und hT hj, Result.andThen_ok, hk]
      simp [Conv.intToInt]
    · rename_i hk
      split at h <;> try (simp at h; done)
      rename_i hs
      split at h <;> simp at h
      subst h
      simp only [convert, Sem.run_bind, run_und hT hi, run_und hT hj, Result.andThen_ok, hk, hs]
      simp
    · simp at h
  · -- makeInterface
    rename_i t x e
    simp only [e]
    obtain ⟨vx, hx, h⟩ := ob_some h
    rw [hev _ _ hx]
    split at h; · simp at h
    rename_i i hi
    split at h <;> simp at h
    rename_i hif
    subst h
    simp only [Instr.makeInterface, Sem.run_bind, run_und hT hi, Result.andThen_ok]
    unfold isIf at hif
    split at hif <;> simp at hif
    split
    · rename_i hno; simp_all
    · simp
  · -- makeFunc
    rename_i fn first cap e
    simp only [e]
    split at h; · simp at h
    rename_i a ha
    split at h <;> simp at h
    rename_i b hb
    subst h
    rw [map_ev hev ha, map_ev hev hb]
    rfl
  · -- extract
    rename_i t i e
    simp only [e]
    obtain ⟨vx, hx, h⟩ := ob_some h
    rw [hev _ _ hx]
    split at h <;> try (simp at h; done)
    rename_i vs
    simp only [Instr.extract]
    have : vs[i]? = some v := by rw [← h]; simp
    rw [this]; rfl
  · -- fieldAddr
    rename_i t x i e
    simp only [e]
    obtain ⟨vx, hx, h⟩ := ob_some h
    rw [hev _ _ hx]
    split at h <;> try (simp at h; done)
    rename_i p
    split at h; · simp at h
    rename_i ti hti
    split at h; · simp at h
    rename_i ft off hfo
    split at h; · simp at h
    rename_i fi hfi
    split at h <;> simp at h
    rename_i m hm
    subst h
    unfold fldOff at hfo
    split at hfo <;> try (simp at hfo; done)
    rename_i fs hd
    split at hfo <;> simp at hfo
    rename_i f hf
    obtain ⟨h1, h2⟩ := hfo
    subst h1; subst h2
    have hf' : fs[i]? = some f := by rw [← hf]; simp
    simp only [Instr.fieldAt, Sem.run_bind, run_und hT hti, Result.andThen_ok, hd, hf', Instr.sureAddr, Sem.run_pure, fieldPlace, run_size hT hfi, hm]
    simp [pAdd_eq]
  · -- field
    rename_i t x i e
    simp only [e]
    obtain ⟨vx, hx, h⟩ := ob_some h
    rw [hev _ _ hx]
    split at h <;> try (simp at h; done)
    rename_i cs
    split at h; · simp at h
    rename_i ti hti
    split at h; · simp at h
    rename_i ft off hfo
    unfold fldOff at hfo
    split at hfo <;> try (simp at hfo; done)
    rename_i fs hd
    split at hfo <;> simp at hfo
    rename_i f hf
    obtain ⟨h1, h2⟩ := hfo
    subst h1; subst h2
    have hf' : fs[i]? = some f := by rw [← hf]; simp
    simp only [Instr.field, Sem.run_bind, run_und hT hti, Result.andThen_ok, hd, hf', asAgg, Sem.run_pure, run_part hT w h]
  · -- call
    rename_i c e
    simp only [e]
    split at h <;> try (simp at h; done)
    rename_i b hc
    split at h
    · -- len
      split at h <;> try (simp at h; done)
      rename_i t ts ht
      split at h <;> try (simp at h; done)
      rename_i x xs hx
      obtain ⟨vx, hvx, h⟩ := ob_some h
      have ha : c.argTypes[0]? = some t := by rw [← Array.getElem?_toList, ht]; rfl
      have hb : (c.args.map ρ)[0]? = some vx := by rw [← Array.getElem?_toList, Array.toList_map, hx]; simp [hev _ _ hvx]
      unfold lenOf? at h
      split at h; · simp at h
      rename_i i hi
      simp only [resolve, hc, Sem.run_bind, Sem.run_pure, Result.andThen_ok, invoke, builtin, Builtin.len_, ha, hb, run_und hT hi]
      split at h
      · rename_i hd; split at h <;> simp at h; subst h; simp [hd, goInt]
      · rename_i hd; split at h <;> simp at h; subst h; simp [hd, goInt]
      · rename_i hd; simp at h; subst h; simp [hd, goInt]
      · simp at h
    · -- max
      split at h <;> try (simp at h; done)
      rename_i x y hxy
      obtain ⟨va, hva, h⟩ := ob_some h
      obtain ⟨vb, hvb, h⟩ := ob_some h
      unfold mm at h
      split at h <;> try (simp at h; done)
      split at h <;> simp at h
      subst h
      simp only [resolve, hc, Sem.run_bind, Sem.run_pure, Result.andThen_ok, invoke, builtin, Builtin.max_, Array.toList_map, hxy, List.map_cons, List.map_nil, hev _ _ hva, hev _ _ hvb]
      simp [Builtin.max2]
    · -- min
      split at h <;> try (simp at h; done)
      rename_i x y hxy
      obtain ⟨va, hva, h⟩ := ob_some h
      obtain ⟨vb, hvb, h⟩ := ob_some h
      unfold mm at h
      split at h <;> try (simp at h; done)
      split at h <;> simp at h
      subst h
      simp only [resolve, hc, Sem.run_bind, Sem.run_pure, Result.andThen_ok, invoke, builtin, Builtin.min_, Array.toList_map, hxy, List.map_cons, List.map_nil, hev _ _ hva, hev _ _ hvb]
      simp [Builtin.min2]
    · simp at h
  · simp at h
end sound
end Go.Sh
