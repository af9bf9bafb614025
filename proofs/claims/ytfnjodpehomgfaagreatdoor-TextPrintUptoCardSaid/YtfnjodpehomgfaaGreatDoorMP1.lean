/- own work: ShA, ShB, ShC, ShD, ShE, ShF, ShG, ShH, ShM, ShN, ShP, ShR -/
import Derived.Tactics
import Derived.Scope
import Derived.Below
import Derived.KernelRfl
import Derived.Laws.StructEq
import Derived.RowKit
import Derived.IntWalk
import Derived.Deep.Quiet
import Derived.StillTail
import Derived.Maps.AppendAt
import Derived.Laws.AppendOwnNone
import Derived.Laws.OwnMore
import Derived.Maps.RangeRun
import Derived.WideKeyRuns
set_option linter.unusedSectionVars false
set_option linter.unusedVariables false
set_option linter.unusedSimpArgs false
namespace Go.Sh
abbrev Env := List (Nat × Value)
def look : Env → Nat → Option Value
  | [], _ => none
  | (d, v) :: r, t => match Nat.beq d t with | true => some v | false => look r t
structure Fr where
  env : Env
  ds : List Deferred
def Fr.put (F : Fr) : Option Nat → Value → Fr
  | none, _ => F
  | some d, v => { F with env := (d, v) :: F.env }
def Agr (n : Nat) (F : Fr) (a : Act) : Prop :=
  a.tmps.size = n ∧ a.defers = F.ds ∧ ∀ t v, look F.env t = some v → a.tmps[t]? = some v
structure TI where
  desc : TypeDesc
  size : Nat
  bytes : Nat
  zero : Value
  flat : Bool
structure Tab where
  ts : List (Nat × TI)
  fs : List Nat
def getT : List (Nat × TI) → Nat → Option TI
  | [], _ => none
  | (n, i) :: r, t => match Nat.beq n t with | true => some i | false => getT r t
def FlatOk (P : Program) (t : Nat) (i : TI) : Prop :=
  P.eqGuardType P.depth t = false ∧ P.stoodInHeld t = false ∧ (match i.desc with | .struct fs => fs.toList.all (fun f => f.name != "_") | _ => true) = true
def TabOkT (P : Program) : List (Nat × TI) → Prop
  | [] => True
  | (t, i) :: r => (P.underlying t = some i.desc ∧ (P.info? t).map (fun j => (j.zero, j.size, j.bytes)) = some (some i.zero, i.size, i.bytes) ∧
      (i.flat = true → FlatOk P t i)) ∧ TabOkT P r
def IsGo (P : Program) (f : Nat) : Prop := ∃ fn, P.funcs[f]? = some fn ∧ (fn.name == "runtime.NumGoroutine") = false ∧ fn.body.isNone = false
def TabOkF (P : Program) : List Nat → Prop
  | [] => True
  | f :: r => IsGo P f ∧ TabOkF P r
def TabOk (P : Program) (T : Tab) : Prop := TabOkT P T.ts ∧ TabOkF P T.fs
def memN : List Nat → Nat → Bool
  | [], _ => false
  | x :: r, t => match Nat.beq x t with | true => true | false => memN r t
theorem TabOkT.get {P : Program} : ∀ {l : List (Nat × TI)}, TabOkT P l → ∀ {t i}, getT l t = some i →
    P.underlying t = some i.desc ∧ (P.info? t).map (fun j => (j.zero, j.size, j.bytes)) = some (some i.zero, i.size, i.bytes) ∧
      (i.flat = true → FlatOk P t i)
  | [], _, t, i, h => by simp [getT] at h
  | (n, j) :: r, hl, t, i, h => by
    unfold getT at h
    split at h
    · rename_i hn; simp at h; subst h; have := Nat.eq_of_beq_eq_true hn; subst this; exact hl.1
    · exact TabOkT.get hl.2 h
theorem TabOkF.get {P : Program} : ∀ {l : List Nat}, TabOkF P l → ∀ {f}, memN l f = true → IsGo P f
  | [], _, f, h => by simp [memN] at h
  | x :: r, hl, f, h => by
    unfold memN at h
    split at h
    · rename_i hn; have := Nat.eq_of_beq_eq_true hn; subst this; exact hl.1
    · exact TabOkF.get hl.2 h
section facts
variable {P : Program} {l : List (Nat × TI)} (h : TabOkT P l) {t : Nat} {i : TI} (hi : getT l t = some i) (w : World)
include h hi
theorem run_und : (Go.underlying t).run P w = Result.ok i.desc w := by
  have := (h.get hi).1
  simp [Go.underlying, this]
theorem info_of : ∃ j, P.info? t = some j ∧ j.zero = some i.zero ∧ j.size = i.size ∧ j.bytes = i.bytes := by
  have := (h.get hi).2.1
  cases hj : P.info? t with
  | none => rw [hj] at this; simp at this
  | some j => rw [hj] at this; simp at this; exact ⟨j, rfl, this.1, this.2.1, this.2.2⟩
theorem run_size : (Go.sizeOf t).run P w = Result.ok i.size w := by
  obtain ⟨j, hj, _, hs, _⟩ := info_of h hi
  simp [Go.sizeOf, typeInfo, hj, hs]
theorem run_zero : (zeroValue t).run P w = Result.ok i.zero w := by
  obtain ⟨j, hj, hz, _, _⟩ := info_of h hi
  simp [zeroValue, typeInfo, hj, hz]
end facts
structure Gd (b : Bool) (X Y : Prop) : Prop where
  of ::
  yes : b = true → X
  no : b = false → Y
structure Al (cs : List Value) (t : TypeId) (w : World) (k : Nat → World → Prop) : Prop where
  of ::
  out : k w.heap.size (w.alloc (.cells cs.toArray t))
inductive Ld (w : World) (p : Addr) (m : Nat) (k : List Value → Prop) : Prop where
  | intro (vs : List Value) (h1 : vs.length = m) (h2 : ∀ i v, vs[i]? = some v → w.cell? (p.add i) = some v) (h3 : k vs)
inductive Ld1 (w : World) (p : Addr) (k : Value → Prop) : Prop where
  | intro (v : Value) (h1 : w.cell? p = some v) (h2 : k v)
def setCells (w : World) (p : Addr) : List Value → Nat → World
  | [], _ => w
  | v :: r, i => setCells (w.setCell (p.add i) v) p r (i + 1)
structure St (w : World) (p : Addr) (vs : List Value) (k : World → Prop) : Prop where
  of ::
  one : ∀ v ∈ vs, v.oneCell' = true
  there : ∀ i, i < vs.length → (∃ u, w.cell? (p.add i) = some u) ∧ w.frozen? (p.add i) = false
  out : k (setCells w p vs 0)
def gA : Option Addr → Addr
  | some ad => ad
  | none => ⟨0, 0, none⟩
structure Ix (A : Option Addr) (len : Nat) (i : Int) (sz : Nat) (k : Addr → Prop) : Prop where
  of ::
  some : A ≠ none
  lo : 0 ≤ i
  hi : i < (len : Int)
  out : k ((gA A).add (i.toNat * sz))
structure Cl (P : Program) (f : Nat) (args : Array Value) (w : World) (k : Value → World → Prop) (X : List PanicEntry → World → Prop) : Prop where
  of ::
  out : Calls P f args w fun e w' => match e with | .returned v => k v w' | .panicked ch => X ch w' | .outgrown => False
structure Sm (P : Program) (s : Sem Value) (w : World) (k : Value → World → Prop) (X : List PanicEntry → World → Prop) : Prop where
  of ::
  out : match s.run P w with
  | .ok v w' => k v w'
  | .halt (.panic v) w' => X [{ v, recovered := false }] w'
  | _ => False
structure SmU (P : Program) (s : Sem Unit) (w : World) (k : World → Prop) (X : List PanicEntry → World → Prop) : Prop where
  of ::
  out : match s.run P w with
  | .ok _ w' => k w'
  | .halt (.panic v) w' => X [{ v, recovered := false }] w'
  | _ => False
def kEq : IntKind → IntKind → Bool
  | .i8, .i8 | .i16, .i16 | .i32, .i32 | .i64, .i64 | .u8, .u8 | .u16, .u16 | .u32, .u32 | .u64, .u64 => true
  | _, _ => false
theorem kEq_eq {a b : IntKind} (h : kEq a b = true) : a = b := by cases a <;> cases b <;> first | rfl | (simp [kEq] at h)
def puInt (op : BinOp) (k : IntKind) (a b : Int) : Option Value :=
  match op with
  | .add => some (.int k (k.wrap (a + b)))
  | .sub => some (.int k (k.wrap (a - b)))
  | .mul => some (.int k (k.wrap (a * b)))
  | .eql => some (.bool (a == b))
  | .neq => some (.bool (a != b))
  | .lss => some (.bool (a < b))
  | .leq => some (.bool (a ≤ b))
  | .gtr => some (.bool (a > b))
  | .geq => some (.bool (a ≥ b))
  | .and => some (.int k (k.wrap (BitVec.ofInt k.bits a &&& BitVec.ofInt k.bits b).toNat))
  | .or => some (.int k (k.wrap (BitVec.ofInt k.bits a ||| BitVec.ofInt k.bits b).toNat))
  | .xor => some (.int k (k.wrap (BitVec.ofInt k.bits a ^^^ BitVec.ofInt k.bits b).toNat))
  | .andNot => some (.int k (k.wrap (BitVec.ofInt k.bits a &&& ~~~ BitVec.ofInt k.bits b).toNat))
  | _ => none
def aggD : TypeDesc → Bool
  | .struct _ => true
  | .array _ _ => true
  | _ => false
def partF (T : List (Nat × TI)) (t : Nat) (cs : List Value) (off : Nat) : Option Value :=
  match getT T t with
  | none => none
  | some i => match aggD i.desc with
    | true => some (.agg ((cs.drop off).take i.size).toArray)
    | false => cs[off]?
def eqFs (T : List (Nat × TI)) (e : Nat → Value → Value → Option Bool) (xs ys : List Value) : List Field → Option Bool
  | [] => some true
  | f :: r => match partF T f.type xs f.offset with
    | none => none
    | some a => match partF T f.type ys f.offset with
      | none => none
      | some b => match e f.type a b with
        | none => none
        | some q => match r with
          | [] => some q
          | g :: r' => match eqFs T e xs ys (g :: r') with
            | none => none
            | some q' => some (q && q')
def eqF (T : List (Nat × TI)) : Nat → Nat → Value → Value → Option Bool
  | 0, _, _, _ => none
  | f + 1, t, x, y => match getT T t with
    | none => none
    | some i => match i.desc with
      | .int _ => match x with
        | .int k a => match y with
          | .int k' b => match kEq k k' with | true => some (a == b) | false => none
          | _ => none
        | _ => none
      | .bool => match x with
        | .bool a => match y with
          | .bool b => some (a == b)
          | _ => none
        | _ => none
      | .string => match x with
        | .string a => match y with
          | .string b => some (a == b)
          | _ => none
        | _ => none
      | .slice _ => match x with
        | .slice A _ _ => match y with
          | .slice B _ _ => match B with | none => some A.isNone | some _ => none
          | _ => none
        | _ => none
      | .pointer _ => match x with
        | .pointer A => match y with
          | .pointer B => match B with | none => some A.isNone | some _ => none
          | _ => none
        | _ => none
      | .map _ _ => match x with
        | .map A => match y with
          | .map B => match B with | none => some A.isNone | some _ => none
          | _ => none
        | _ => none
      | .interface _ => match x with
        | .iface _ _ => match y with
          | .nilIface => some false
          | _ => none
        | _ => none
      | .struct fs => match i.flat with
        | true => match x with
          | .agg xs => match y with
            | .agg ys => eqFs T (eqF T f) xs.toList ys.toList fs.toList
            | _ => none
          | _ => none
        | false => none
      | _ => none
def isC : Operand → Bool
  | .const _ => true
  | _ => false
def puBin (T : List (Nat × TI)) (op : BinOp) (t : Nat) (oy : Operand) (x y : Value) : Option Value :=
  match x with
  | .int k a => match y with
    | .int k' b => match kEq k k' with | true => puInt op k a b | false => none
    | _ => none
  | .string a => match y with
    | .string b => match op with
      | .eql => some (.bool (a == b))
      | .neq => some (.bool (!(a == b)))
      | _ => none
    | _ => none
  | .nilIface => match y with
    | .nilIface => match isC oy with
      | true => match getT T t with
        | some i => match i.desc with
          | .interface _ => match op with | .eql => some (.bool true) | .neq => some (.bool false) | _ => none
          | _ => none
        | none => none
      | false => none
    | _ => none
  | .float _ _ => none
  | .complex _ _ _ => none
  | _ => match op with
    | .eql => match eqF T 8 t x y with | some b => some (.bool b) | none => none
    | .neq => match eqF T 8 t x y with | some b => some (.bool (!b)) | none => none
    | _ => none
section eqn
variable {P : Program} (d : Nat) {t : Nat} (w : World)
theorem eqn_int {k' : IntKind} (k : IntKind) (a b : Int) (h : P.underlying t = some (.int k')) : (Op.equalIn (d + 1) t (.int k a) (.int k b)).run P w = Result.ok (a == b) w := by
  simp [Op.equalIn, Go.underlying, h]
theorem eqn_bool (a b : Bool) (h : P.underlying t = some .bool) : (Op.equalIn (d + 1) t (.bool a) (.bool b)).run P w = Result.ok (a == b) w := by
  simp [Op.equalIn, Go.underlying, h]
theorem eqn_str (a b : ByteArray) (h : P.underlying t = some .string) : (Op.equalIn (d + 1) t (.string a) (.string b)).run P w = Result.ok (a == b) w := by
  simp [Op.equalIn, Go.underlying, h]
theorem eqn_slice {e : Nat} (A : Option Addr) (n c n' c' : Nat) (h : P.underlying t = some (.slice e)) : (Op.equalIn (d + 1) t (.slice A n c) (.slice none n' c')).run P w = Result.ok A.isNone w := by
  cases A <;> simp [Op.equalIn, Go.underlying, h]
theorem eqn_ptr {e : Nat} (A : Option Addr) (h : P.underlying t = some (.pointer e)) : (Op.equalIn (d + 1) t (.pointer A) (.pointer none)).run P w = Result.ok A.isNone w := by
  cases A <;> simp [Op.equalIn, Go.underlying, h]
theorem eqn_map {k e : Nat} (A : Option Nat) (h : P.underlying t = some (.map k e)) : (Op.equalIn (d + 1) t (.map A) (.map none)).run P w = Result.ok A.isNone w := by
  cases A <;> simp [Op.equalIn, Go.underlying, h]
theorem eqn_iface {ms : Array (String × TypeId)} (u : Nat) (v : Value) (h : P.underlying t = some (.interface ms)) : (Op.equalIn (d + 1) t (.iface u v) .nilIface).run P w = Result.ok false w := by
  simp [Op.equalIn, Go.underlying, h]
theorem eqn_nil {ms : Array (String × TypeId)} (h : P.underlying t = some (.interface ms)) : (Op.equalIn (d + 1) t .nilIface .nilIface).run P w = Result.ok true w := by
  simp [Op.equalIn, Go.underlying, h]
end eqn
section sound
variable {P : Program} {T : List (Nat × TI)} (hT : TabOkT P T) (w : World)
include hT
theorem run_isAgg {t : Nat} {i : TI} (hi : getT T t = some i) : (isAgg t).run P w = Result.ok (aggD i.desc) w := by
  simp only [isAgg, Sem.run_bind, run_und hT hi, Result.andThen_ok]
  unfold aggD
  split <;> split <;> simp_all
theorem run_part {t : Nat} {cs : Array Value} {off : Nat} {v : Value} (h : partF T t cs.toList off = some v) : (part t cs off).run P w = Result.ok v w := by
  unfold partF at h
  split at h
  · simp at h
  · rename_i i hi
    simp only [part, Sem.run_bind, run_isAgg hT w hi, Result.andThen_ok]
    split at h
    · rename_i ha
      simp only [ha, if_true, Sem.run_bind, run_size hT hi w, Result.andThen_ok, Sem.run_pure]
      simp only [Option.some.injEq] at h
      rw [← h]
      congr 2
      apply Array.ext'
      simp [Array.toList_extract]
    · rename_i ha
      simp only [ha, Bool.false_eq_true, if_false]
      have : cs[off]? = some v := by rw [← h]; simp
      rw [this]; rfl
theorem run_eqFs {e : Nat → Value → Value → Option Bool} {d : Nat} (he : ∀ t x y b w, e t x y = some b → (Op.equalIn d t x y).run P w = Result.ok b w)
    (xs ys : Array Value) : ∀ (fs : List Field) (b : Bool) (w : World), fs.all (fun f => f.name != "_") = true → eqFs T e xs.toList ys.toList fs = some b →
      (Op.eqFields d xs ys fs).run P w = Result.ok b w
  | [], b, w, _, h => by simp [eqFs] at h; subst h; simp [Op.eqFields]
  | f :: r, b, w, hn, h => by
    unfold eqFs at h
    simp only [List.all_cons, Bool.and_eq_true, bne_iff_ne, ne_eq] at hn
    split at h; · simp at h
    rename_i a ha
    split at h; · simp at h
    rename_i c hc
    split at h; · simp at h
    rename_i q hq
    have ih := run_eqFs he xs ys r
    simp only [Op.eqFields, ne_eq, hn.1, not_false_eq_true, if_true, Sem.run_bind, run_part hT w ha, run_part hT w hc, Result.andThen_ok, he _ _ _ _ w hq]
    split at h
    · simp at h; subst h; cases q <;> simp [Op.eqFields]
    · rename_i g r'
      split at h; · simp at h
      rename_i q' hq'
      simp at h; subst h
      cases q
      · simp
      · have := ih q' w (by simpa using hn.2) hq'
        simpa using this
theorem run_eqF : ∀ (f d : Nat), f ≤ d → ∀ (t : Nat) (x y : Value) (b : Bool) (w : World), eqF T f t x y = some b → (Op.equalIn d t x y).run P w = Result.ok b w
  | 0, _, _, _, _, _, _, _, h => by simp [eqF] at h
  | f + 1, 0, hd, _, _, _, _, _, _ => by omega
  | f + 1, d + 1, hd, t, x, y, b, w, h => by
    unfold eqF at h
    cases hi : getT T t with
    | none => rw [hi] at h; simp at h
    | some i =>
      rw [hi] at h
      have hu := (hT.get hi).1
      have ih := run_eqF f d (by omega)
      have hfl := (hT.get hi).2.2
      obtain ⟨desc, size, bytes, zero, flat⟩ := i
      simp only at h hu hfl
      cases desc with
      | int k0 =>
        cases x <;> try (simp at h; done)
        cases y <;> try (simp at h; done)
        simp only at h
        split at h <;> simp at h
        rename_i hk; have := kEq_eq hk; subst this; subst h
        exact eqn_int d w _ _ _ hu
      | bool =>
        cases x <;> try (simp at h; done)
        cases y <;> try (simp at h; done)
        simp only [Option.some.injEq] at h; subst h
        exact eqn_bool d w _ _ hu
      | string =>
        cases x <;> try (simp at h; done)
        cases y <;> try (simp at h; done)
        simp only [Option.some.injEq] at h; subst h
        exact eqn_str d w _ _ hu
      | slice e =>
        cases x <;> try (simp at h; done)
        cases y <;> try (simp at h; done)
        rename_i B _ _
        cases B <;> simp at h
        subst h
        exact eqn_slice d w _ _ _ _ _ hu
      | pointer e =>
        cases x <;> try (simp at h; done)
        cases y <;> try (simp at h; done)
        rename_i B
        cases B <;> simp at h
        subst h
        exact eqn_ptr d w _ hu
      | map k e =>
        cases x <;> try (simp at h; done)
        cases y <;> try (simp at h; done)
        rename_i B
        cases B <;> simp at h
        subst h
        exact eqn_map d w _ hu
      | interface ms =>
        cases x <;> try (simp at h; done)
        cases y <;> try (simp at h; done)
        simp at h
        subst h
        exact eqn_iface d w _ _ hu
      | struct fs =>
        cases flat <;> try (simp at h; done)
        cases x <;> try (simp at h; done)
        cases y <;> try (simp at h; done)
        obtain ⟨_, h2, h3⟩ := hfl rfl
        have hfo : P.fieldsOf t = fs := by simp [Program.fieldsOf, hu]
        rw [run_equalIn_struct w d t _ _ (by rw [hfo]; exact hu) h2, hfo]
        exact run_eqFs hT ih _ _ _ _ _ h3 h
      | _ => simp at h
omit hT in
theorem run_guardless {op : BinOp} {t : Nat} {xo yo : Operand} {x y : Value} (h1 : ¬ (x = .nilIface ∧ y = .nilIface)) (h2 : ∀ a b, x = .agg a → y = .agg b → P.eqGuardType P.depth t = false) :
    (eqGuard op t xo yo x y).run P w = Result.ok () w := by
  unfold eqGuard
  cases op <;> simp only [Bool.not_true, Bool.not_false, if_true, Bool.false_eq_true, if_false] <;> first
    | rfl
    | (split
       · exact absurd ⟨rfl, rfl⟩ h1
       · simp [h2 _ _ rfl rfl]
       · rfl)
omit hT in
theorem puInt_sound {op : BinOp} {t : Nat} {k : IntKind} {a b : Int} {v : Value} (h : puInt op k a b = some v) : (binOp op t (.int k a) (.int k b)).run P w = Result.ok v w := by
  cases op <;> simp only [puInt, Option.some.injEq, reduceCtorEq] at h
  all_goals first
    | (subst h; simp [binOp, Op.intArith, Op.intCmp, Op.intBits]; done)
    | (subst h; simp [binOp, Op.intArith, Op.intCmp, Op.intBits]; rfl)
omit hT in
theorem binOp_eql {t : Nat} {x y : Value} (h1 : ∀ k a, x ≠ .int k a) (h2 : ∀ k a, x ≠ .float k a) (h3 : ∀ k a b, x ≠ .complex k a b) (h4 : ∀ a, x ≠ .string a) :
    binOp .eql t x y = (do pure (.bool (← Op.equal t x y))) := by
  unfold binOp
  split <;> first | rfl | (exact absurd rfl (h1 _ _)) | (exact absurd rfl (h2 _ _)) | (exact absurd rfl (h3 _ _ _)) | (exact absurd rfl (h4 _)) | simp_all
omit hT in
theorem binOp_neq {t : Nat} {x y : Value} (h1 : ∀ k a, x ≠ .int k a) (h2 : ∀ k a, x ≠ .float k a) (h3 : ∀ k a b, x ≠ .complex k a b) (h4 : ∀ a, x ≠ .string a) :
    binOp .neq t x y = (do pure (.bool (!(← Op.equal t x y)))) := by
  unfold binOp
  split <;> first | rfl | (exact absurd rfl (h1 _ _)) | (exact absurd rfl (h2 _ _)) | (exact absurd rfl (h3 _ _ _)) | (exact absurd rfl (h4 _)) | simp_all
theorem eqF_agg {t : Nat} {a b : Array Value} {q : Bool} (h : eqF T 8 t (.agg a) (.agg b) = some q) : P.eqGuardType P.depth t = false := by
  unfold eqF at h
  cases hi : getT T t with
  | none => rw [hi] at h; simp at h
  | some i =>
    rw [hi] at h
    have hfl := (hT.get hi).2.2
    obtain ⟨desc, size, bytes, zero, flat⟩ := i
    simp only at h hfl
    cases desc <;> try (simp at h; done)
    cases flat <;> try (simp at h; done)
    exact (hfl rfl).1
omit hT in
theorem eqF_nn {t : Nat} {q : Bool} (h : eqF T 8 t .nilIface .nilIface = some q) : False := by
  unfold eqF at h
  cases hi : getT T t with
  | none => rw [hi] at h; simp at h
  | some i =>
    rw [hi] at h
    obtain ⟨desc, size, bytes, zero, flat⟩ := i
    simp only at h
    cases desc <;> try (simp at h; done)
    cases flat <;> simp at h
theorem puBin_gen {op : BinOp} {t : Nat} {xo yo : Operand} {x y v : Value} (h1 : ∀ k a, x ≠ .int k a) (h2 : ∀ k a, x ≠ .float k a) (h3 : ∀ k a b, x ≠ .complex k a b) (h4 : ∀ a, x ≠ .string a)
    (h : (match op with
    | .eql => match eqF T 8 t x y with | some b => some (Value.bool b) | none => none
    | .neq => match eqF T 8 t x y with | some b => some (.bool (!b)) | none => none
    | _ => none) = some v) : (do eqGuard op t xo yo x y; binOp op t x y : Sem Value).run P w = Result.ok v w := by
  have main : ∀ q, eqF T 8 t x y = some q → (eqGuard op t xo yo x y).run P w = Result.ok () w ∧ (Op.equal t x y).run P w = Result.ok q w := fun q hq => by
    refine ⟨run_guardless w (fun ⟨e1, e2⟩ => ?_) (fun a b e1 e2 => ?_), run_eqF hT 8 10000 (by omega) _ _ _ _ _ hq⟩
    · subst e1; subst e2; exact eqF_nn hq
    · subst e1; subst e2; exact eqF_agg hT hq
  split at h
  · split at h <;> simp at h
    rename_i q hq
    subst h
    obtain ⟨m1, m2⟩ := main q hq
    simp [m1, binOp_eql h1 h2 h3 h4, m2]
  · split at h <;> simp at h
    rename_i q hq
    subst h
    obtain ⟨m1, m2⟩ := main q hq
    simp [m1, binOp_neq h1 h2 h3 h4, m2]
  · simp at h
omit hT in
theorem beq_toL (a b : ByteArray) : (a == b) = (a.toList == b.toList) := beq_toListBytes a b
theorem puBin_sound {op : BinOp} {t : Nat} {xo yo : Operand} {x y v : Value} (h : puBin T op t yo x y = some v) :
    (do eqGuard op t xo yo x y; binOp op t x y : Sem Value).run P w = Result.ok v w := by
  unfold puBin at h
  cases x with
  | int k a =>
    cases y <;> try (simp at h; done)
    rename_i k2 b
    simp only at h
    split at h <;> try (simp at h; done)
    rename_i hk; have := kEq_eq hk; subst this
    have hg := run_guardless (P := P) w (op := op) (t := t) (xo := xo) (yo := yo) (x := .int k a) (y := .int k b) (by simp) (by simp)
    simp [hg, puInt_sound w h]
  | string a =>
    cases y <;> try (simp at h; done)
    rename_i b
    have hg := run_guardless (P := P) w (op := op) (t := t) (xo := xo) (yo := yo) (x := .string a) (y := .string b) (by simp) (by simp)
    simp only at h
    split at h <;> simp at h <;> subst h <;> simp [hg, binOp, Op.stringOp, beq_toL]
  | nilIface =>
    cases y <;> try (simp at h; done)
    simp only at h
    split at h <;> try (simp at h; done)
    rename_i hc
    split at h <;> try (simp at h; done)
    rename_i i hi
    have hu := (hT.get hi).1
    split at h <;> try (simp at h; done)
    rename_i ms hd
    rw [hd] at hu
    have hy : ∃ v, yo = .const v := by cases yo <;> simp [isC] at hc ⊢
    obtain ⟨cv, rfl⟩ := hy
    have hq : (Op.equal t .nilIface .nilIface).run P w = Result.ok true w := eqn_nil 9999 w hu
    have hg : ∀ op, (eqGuard op t xo (.const cv) .nilIface .nilIface).run P w = Result.ok () w := fun op => by
      unfold eqGuard
      cases op <;> simp
    split at h <;> simp at h <;> subst h
    · simp [hg, binOp_eql (t := t) (x := .nilIface) (y := .nilIface) (by simp) (by simp) (by simp) (by simp), hq]
    · simp [hg, binOp_neq (t := t) (x := .nilIface) (y := .nilIface) (by simp) (by simp) (by simp) (by simp), hq]
  | float => simp at h
  | complex => simp at h
  | bool _ => exact puBin_gen hT w (by simp) (by simp) (by simp) (by simp) h
  | pointer _ => exact puBin_gen hT w (by simp) (by simp) (by simp) (by simp) h
  | slice _ _ _ => exact puBin_gen hT w (by simp) (by simp) (by simp) (by simp) h
  | map _ => exact puBin_gen hT w (by simp) (by simp) (by simp) (by simp) h
  | chan _ => exact puBin_gen hT w (by simp) (by simp) (by simp) (by simp) h
  | func _ _ _ => exact puBin_gen hT w (by simp) (by simp) (by simp) (by simp) h
  | nilFunc => exact puBin_gen hT w (by simp) (by simp) (by simp) (by simp) h
  | iface _ _ => exact puBin_gen hT w (by simp) (by simp) (by simp) (by simp) h
  | agg _ => exact puBin_gen hT w (by simp) (by simp) (by simp) (by simp) h
  | tuple _ => exact puBin_gen hT w (by simp) (by simp) (by simp) (by simp) h
end sound
end Go.Sh
namespace Go.Sh
def ob {α : Type} (o : Option Value) (f : Value → Option α) : Option α := match o with | some v => f v | none => none
def placesOf (T : List (Nat × TI)) : List Field → Option (List (Nat × Nat))
  | [] => some []
  | f :: r => match getT T f.type with
    | none => none
    | some ti => match placesOf T r with
      | none => none
      | some l => some ((f.offset, ti.size) :: l)
def puBuild (pl : List (Nat × Nat)) : List Value → List (Nat × Option Value) → Option (List Value)
  | cells, [] => some cells
  | cells, (i, v?) :: r => match v? with
    | none => none
    | some v => match pl[i]? with
      | none => none
      | some (off, sz) => match Nat.beq v.cells.toList.length sz with
          | false => none
          | true => match Nat.ble (off + v.cells.toList.length) cells.length with
            | false => none
            | true => puBuild pl (cells.take off ++ v.cells.toList ++ cells.drop (off + v.cells.toList.length)) r
def un (op : UnOp) (x : Value) : Option Value :=
  match op with
  | .not => match x with | .bool b => some (.bool (!b)) | _ => none
  | .neg => match x with | .int k n => some (.int k (k.wrap (0 - n))) | _ => none
  | _ => none
def cv (d s : TypeDesc) (x : Value) : Option Value :=
  match d with
  | .int k => match x with | .int _ n => some (.int k (k.wrap n)) | _ => none
  | .string => match s with
    | .string => match x with | .string _ => some x | _ => none
    | _ => none
  | _ => none
def isIf : TypeDesc → Bool
  | .interface _ => true
  | _ => false
def fldOff (d : TypeDesc) (i : Nat) : Option (Nat × Nat) :=
  match d with
  | .struct fs => match fs.toList[i]? with | some f => some (f.type, f.offset) | none => none
  | _ => none
def pAdd (p : Addr) : Nat → Addr
  | 0 => p
  | n + 1 => ⟨p.block, p.off + (n + 1), none⟩
theorem pAdd_eq (p : Addr) (n : Nat) : pAdd p n = p.add n := by cases n <;> simp [pAdd, Addr.add]
def lenOf? (T : List (Nat × TI)) (t : Nat) (x : Value) : Option Value :=
  match getT T t with
  | none => none
  | some i => match i.desc with
    | .string => match x with | .string s => some (.int .i64 s.size) | _ => none
    | .slice _ => match x with | .slice _ n _ => some (.int .i64 n) | _ => none
    | .array n _ => some (.int .i64 n)
    | _ => none
def mm (mx : Bool) (x y : Value) : Option Value :=
  match x with
  | .int k a => match y with | .int _ b => some (.int k (match mx with | true => (if b > a then b else a) | false => (if b < a then b else a))) | _ => none
  | _ => none
def allSome : List (Option Value) → Option (List Value)
  | [] => some []
  | none :: _ => none
  | some v :: r => match allSome r with | some l => some (v :: l) | none => none
def pu (T : List (Nat × TI)) (ev : Operand → Option Value) (op : Op) : Option Value :=
  match op with
  | .move x => ev x
  | .assign x => ev x
  | .build t parts => match getT T t with
    | none => none
    | some i => match i.desc with
      | .struct fs => match placesOf T fs.toList with
        | none => none
        | some pl => match puBuild pl i.zero.cells.toList (parts.toList.map fun (j, x) => (j, ev x)) with
          | some cs => some (.agg cs.toArray)
          | none => none
      | _ => none
  | .nilCheck x => ob (ev x) fun v => match v with | .pointer (some _) => some v | .iface _ _ => some v | .func (.func _) _ _ => some v | _ => none
  | .binOp b t x y _ => ob (ev x) fun vx => ob (ev y) fun vy => puBin T b t y vx vy
  | .unOp u _ x => ob (ev x) fun v => un u v
  | .convert s d x => ob (ev x) fun v => match getT T s with
    | none => none
    | some i => match getT T d with | none => none | some j => cv j.desc i.desc v
  | .makeInterface t x => ob (ev x) fun v => match getT T t with | none => none | some i => match isIf i.desc with | true => none | false => some (.iface t v)
  | .makeFunc fn first cap => match allSome (first.toList.map ev) with
    | none => none
    | some a => match allSome (cap.toList.map ev) with | none => none | some b => some (.func fn a.toArray b.toArray)
  | .extract t i => ob (ev t) fun v => match v with | .tuple vs => vs.toList[i]? | _ => none
  | .fieldAddr t x i => ob (ev x) fun v => match v with
    | .pointer (some p) => match getT T t with
      | none => none
      | some ti => match fldOff ti.desc i with
        | none => none
        | some (ft, off) => match getT T ft with
          | none => none
          | some fi => match fi.size with | 0 => none | _ + 1 => some (.pointer (some (pAdd p off)))
    | _ => none
  | .field t x i => ob (ev x) fun v => match v with
    | .agg cs => match getT T t with
      | none => none
      | some ti => match fldOff ti.desc i with | none => none | some (ft, off) => partF T ft cs.toList off
    | _ => none
  | .call c => match c.callee with
    | .builtin b => match b with
      | .len => match c.argTypes.toList with
        | t :: _ => match c.args.toList with
          | x :: _ => ob (ev x) fun v => lenOf? T t v
          | [] => none
        | [] => none
      | .max => match c.args.toList with
        | [x, y] => ob (ev x) fun a => ob (ev y) fun b => mm true a b
        | _ => none
      | .min => match c.args.toList with
        | [x, y] => ob (ev x) fun a => ob (ev y) fun b => mm false a b
        | _ => none
      | _ => none
    | _ => none
  | _ => none
section sound
variable {P : Program} {T : List (Nat × TI)} (hT : TabOkT P T) (w : World) {ρ : Operand → Value} {ev : Operand → Option Value} (hev : ∀ x v, ev x = some v → ρ x = v)
theorem ob_some {α : Type} {o : Option Value} {f : Value → Option α} {r : α} (h : ob o f = some r) : ∃ v, o = some v ∧ f v = some r := by
  cases o with
  | none => simp [ob] at h
  | some v => exact ⟨v, rfl, h⟩
theorem foldl_put (vs : List Value) : ∀ (cs : List Value) (off j : Nat), off + j + vs.length ≤ cs.length →
    ((vs.zipIdx j).foldl (fun (cs : Array Value) (c, j) => cs.setIfInBounds (off + j) c) cs.toArray).toList = cs.take (off + j) ++ vs ++ cs.drop (off + j + vs.length) := by
  induction vs with
  | nil => intro cs off j h; simp
  | cons v r ih =>
    intro cs off j h
    simp only [List.length_cons] at h
    simp only [List.zipIdx_cons, List.foldl_cons, List.setIfInBounds_toArray]
    rw [ih _ off (j + 1) (by simp; omega)]
    have hk : off + j < cs.length := by omega
    have e1 : (cs.set (off + j) v).take (off + (j + 1)) = cs.take (off + j) ++ [v] := by
      rw [show off + (j + 1) = off + j + 1 by omega, List.take_succ_eq_append_getElem (by simpa using hk), List.take_set_of_le (Nat.le_refl _)]
      simp
    have e2 : (cs.set (off + j) v).drop (off + (j + 1) + r.length) = cs.drop (off + (j + 1) + r.length) := List.drop_set_of_lt (by omega)
    rw [e1, e2, show off + j + (v :: r).length = off + (j + 1) + r.length by simp; omega]
    simp
theorem fill_sound (pl : List (Nat × Nat)) (g : Nat → Option (Nat × Nat)) (hg : ∀ i x, pl[i]? = some x → g i = some x) :
    ∀ (parts : List (Nat × Option Value)) (vals : List (Nat × Value)) (cells : List Value) (cs : List Value), vals.length = parts.length →
      (∀ (k i : Nat) (v? : Option Value), parts[k]? = some (i, v?) → ∀ v : Value, v? = some v → vals[k]? = some (i, v)) → puBuild pl cells parts = some cs →
      Instr.fill g cells.toArray vals = some cs.toArray
  | [], vals, cells, cs, hl, _, h => by
    have : vals = [] := List.eq_nil_of_length_eq_zero (by simpa using hl)
    subst this
    simp [puBuild] at h
    subst h
    rfl
  | (i, v?) :: r, vals, cells, cs, hl, hv, h => by
    unfold puBuild at h
    split at h; · simp at h
    rename_i v
    split at h; · simp at h
    rename_i off sz hf
    split at h; · simp at h
    rename_i hsz
    split at h; · simp at h
    rename_i hle
    have hsz := Nat.eq_of_beq_eq_true hsz
    have hle := Nat.le_of_ble_eq_true hle
    match vals, hl with
    | x :: vs, hl =>
      have h0 := hv 0 i (some v) rfl v rfl
      simp at h0
      subst h0
      have hf' := hg _ _ hf
      simp only [Instr.fill, hf']
      rw [if_neg (by simp at hsz hle ⊢; omega)]
      have hz := foldl_put v.cells.toList cells off 0 (by simpa using hle)
      have e1 : Array.foldl (fun cs (x : Value × Nat) => match x with | (c, j) => cs.setIfInBounds (off + j) c) cells.toArray v.cells.zipIdx
          = (cells.take off ++ v.cells.toList ++ cells.drop (off + v.cells.toList.length)).toArray := by
        apply Array.ext'
        rw [← Array.foldl_toList]
        simpa using hz
      rw [e1]
      refine fill_sound pl g hg r vs _ cs (by simpa using hl) (fun k i v? hk v hv' => ?_) h
      have := hv (k + 1) i v? (by simpa using hk) v hv'
      simpa using this
include hT in
theorem run_placesOf : ∀ (fs : List Field) (pl : List (Nat × Nat)), placesOf T fs = some pl →
    (fs.mapM (fun f => (do pure (f.offset, ← Go.sizeOf f.type) : Sem (Nat × Nat)))).run P w = Result.ok pl w
  | [], pl, h => by simp [placesOf] at h; subst h; rfl
  | f :: r, pl, h => by
    unfold placesOf at h
    split at h; · simp at h
    rename_i ti hti
    split at h; · simp at h
    rename_i l hl
    simp at h
    subst h
    have ih := run_placesOf r l hl
    simp only [List.mapM_cons, Sem.run_bind, run_size hT hti w, Result.andThen_ok, Sem.run_pure]
    rw [ih]; rfl
theorem allSome_spec : ∀ (l : List (Option Value)) (r : List Value), allSome l = some r → l = r.map some
  | [], r, h => by simp [allSome] at h; subst h; rfl
  | none :: _, r, h => by simp [allSome] at h
  | some v :: l, r, h => by
    unfold allSome at h
    split at h
    · rename_i l' hl'
      simp at h; subst h
      simp [allSome_spec l l' hl']
    · simp at h
include hev in
theorem map_ev {xs : Array Operand} {l : List Value} (h : allSome (xs.toList.map ev) = some l) : xs.map ρ = l.toArray := by
  have := allSome_spec _ _ h
  apply Array.ext'
  simp only [Array.toList_map]
  apply List.ext_getElem?
  intro i
  have hi := congrArg (·[i]?) this
  simp only [List.getElem?_map] at hi ⊢
  cases hx : xs.toList[i]? with
  | none =>
    rw [hx] at hi
    cases hl : l[i]? with
    | none => simp
    | some v => rw [hl] at hi; simp at hi
  | some x =>
    rw [hx] at hi
    simp only [Option.map_some] at hi
    cases hl : l[i]? with
    | none => rw [hl] at hi; simp at hi
    | some v => rw [hl] at hi; simp at hi; simp [hev x v hi]
include hT hev in
theorem pu_sound {o : Oper} {v : Value} (h : pu T ev o.op = some v) : (execOp ρ o).run P w = Result.ok (.value v) w := by
  unfold pu at h
  unfold execOp
  split at h
  · rename_i x e; simp only [e]; rw [hev _ _ h]; rfl
  · rename_i x e; simp only [e]; rw [hev _ _ h]; rfl
  · -- build
    rename_i t parts e
    simp only [e]
    split at h; · simp at h
    rename_i i hi
    split at h <;> try (simp at h; done)
    rename_i fs hd
    split at h; · simp at h
    rename_i pl hpl
    split at h <;> simp at h
    rename_i cs hcs
    subst h
    have hu := run_und hT hi w
    rw [hd] at hu
    have hp := run_placesOf hT w fs.toList pl hpl
    have hfill := fill_sound pl (fun i => pl.toArray[i]?) (fun i x h => by simpa using h) (parts.toList.map fun (j, x) => (j, ev x)) (parts.toList.map fun (j, x) => (j, ρ x)) i.zero.cells.toList cs (by simp)
      (fun k j v? hk v hv => by
        simp only [List.getElem?_map] at hk ⊢
        cases hx : parts.toList[k]? with
        | none => rw [hx] at hk; simp at hk
        | some y =>
          rw [hx] at hk
          simp only [Option.map_some, Option.some.injEq, Prod.mk.injEq] at hk
          obtain ⟨h1, h2⟩ := hk
          simp only [Option.map_some, Option.some.injEq, Prod.mk.injEq]
          exact ⟨h1, hev _ _ (h2.trans hv)⟩) hcs
    simp only [Instr.build, Sem.run_bind, run_zero hT hi, hu, Result.andThen_ok, Array.mapM_eq_mapM_toList, Sem.run_map] at hp ⊢
    rw [hp]
    simp only [Result.andThen_ok, Array.toList_map]
    rw [hfill]
    rfl
  · rename_i x e
    simp only [e]
    obtain ⟨vx, hx, h⟩ := ob_some h
    rw [hev _ _ hx]
    split at h <;> simp at h <;> subst h <;> rfl
  · -- binOp
    rename_i b t x y yt e
    simp only [e]
    obtain ⟨vx, hx, h⟩ := ob_some h
    obtain ⟨vy, hy, h⟩ := ob_some h
    rw [hev _ _ hx, hev _ _ hy]
    have := puBin_sound hT w (xo := x) (yo := y) h
    simp only [Sem.run_bind] at this ⊢
    rw [this]; rfl
  · -- unOp
    rename_i u t x e
    simp only [e]
    obtain ⟨vx, hx, h⟩ := ob_some h
    rw [hev _ _ hx]
    unfold un at h
    split at h
    · split at h <;> simp at h; subst h; rfl
    · split at h <;> simp at h; subst h; simp [Op.unary, Op.intArith]
    · simp at h
  · -- convert
    rename_i s d x e
    simp only [e]
    obtain ⟨vx, hx, h⟩ := ob_some h
    rw [hev _ _ hx]
    split at h; · simp at h
    rename_i i hi
    split at h; · simp at h
    rename_i j hj
    unfold cv at h
    split at h
    · rename_i k hk
      split at h <;> simp at h
      subst h
      simp only [convert, Sem.run_bind, run_und hT hi, run_und hT hj, Result.andThen_ok, hk]
      simp [Conv.intToInt]
    · rename_i hk
      split at h <;> try (simp at h; done)
      rename_i hs
      split at h <;> simp at h
      subst h
      simp only [convert, Sem.run_bind, run_und hT hi, run_und hT hj, Result.andThen_ok, hk, hs]
      simp
    · simp at h
  · -- makeInterface
    rename_i t x e
    simp only [e]
    obtain ⟨vx, hx, h⟩ := ob_some h
    rw [hev _ _ hx]
    split at h; · simp at h
    rename_i i hi
    split at h <;> simp at h
    rename_i hif
    subst h
    simp only [Instr.makeInterface, Sem.run_bind, run_und hT hi, Result.andThen_ok]
    unfold isIf at hif
    split at hif <;> simp at hif
    split
    · rename_i hno; simp_all
    · simp
  · -- makeFunc
    rename_i fn first cap e
    simp only [e]
    split at h; · simp at h
    rename_i a ha
    split at h <;> simp at h
    rename_i b hb
    subst h
    rw [map_ev hev ha, map_ev hev hb]
    rfl
  · -- extract
    rename_i t i e
    simp only [e]
    obtain ⟨vx, hx, h⟩ := ob_some h
    rw [hev _ _ hx]
    split at h <;> try (simp at h; done)
    rename_i vs
    simp only [Instr.extract]
    have : vs[i]? = some v := by rw [← h]; simp
    rw [this]; rfl
  · -- fieldAddr
    rename_i t x i e
    simp only [e]
    obtain ⟨vx, hx, h⟩ := ob_some h
    rw [hev _ _ hx]
    split at h <;> try (simp at h; done)
    rename_i p
    split at h; · simp at h
    rename_i ti hti
    split at h; · simp at h
    rename_i ft off hfo
    split at h; · simp at h
    rename_i fi hfi
    split at h <;> simp at h
    rename_i m hm
    subst h
    unfold fldOff at hfo
    split at hfo <;> try (simp at hfo; done)
    rename_i fs hd
    split at hfo <;> simp at hfo
    rename_i f hf
    obtain ⟨h1, h2⟩ := hfo
    subst h1; subst h2
    have hf' : fs[i]? = some f := by rw [← hf]; simp
    simp only [Instr.fieldAt, Sem.run_bind, run_und hT hti, Result.andThen_ok, hd, hf', Instr.sureAddr, Sem.run_pure, fieldPlace, run_size hT hfi, hm]
    simp [pAdd_eq]
  · -- field
    rename_i t x i e
    simp only [e]
    obtain ⟨vx, hx, h⟩ := ob_some h
    rw [hev _ _ hx]
    split at h <;> try (simp at h; done)
    rename_i cs
    split at h; · simp at h
    rename_i ti hti
    split at h; · simp at h
    rename_i ft off hfo
    unfold fldOff at hfo
    split at hfo <;> try (simp at hfo; done)
    rename_i fs hd
    split at hfo <;> simp at hfo
    rename_i f hf
    obtain ⟨h1, h2⟩ := hfo
    subst h1; subst h2
    have hf' : fs[i]? = some f := by rw [← hf]; simp
    simp only [Instr.field, Sem.run_bind, run_und hT hti, Result.andThen_ok, hd, hf', asAgg, Sem.run_pure, run_part hT w h]
  · -- call
    rename_i c e
    simp only [e]
    split at h <;> try (simp at h; done)
    rename_i b hc
    split at h
    · -- len
      split at h <;> try (simp at h; done)
      rename_i t ts ht
      split at h <;> try (simp at h; done)
      rename_i x xs hx
      obtain ⟨vx, hvx, h⟩ := ob_some h
      have ha : c.argTypes[0]? = some t := by rw [← Array.getElem?_toList, ht]; rfl
      have hb : (c.args.map ρ)[0]? = some vx := by rw [← Array.getElem?_toList, Array.toList_map, hx]; simp [hev _ _ hvx]
      unfold lenOf? at h
      split at h; · simp at h
      rename_i i hi
      simp only [resolve, hc, Sem.run_bind, Sem.run_pure, Result.andThen_ok, invoke, builtin, Builtin.len_, ha, hb, run_und hT hi]
      split at h
      · rename_i hd; split at h <;> simp at h; subst h; simp [hd, goInt]
      · rename_i hd; split at h <;> simp at h; subst h; simp [hd, goInt]
      · rename_i hd; simp at h; subst h; simp [hd, goInt]
      · simp at h
    · -- max
      split at h <;> try (simp at h; done)
      rename_i x y hxy
      obtain ⟨va, hva, h⟩ := ob_some h
      obtain ⟨vb, hvb, h⟩ := ob_some h
      unfold mm at h
      split at h <;> try (simp at h; done)
      split at h <;> simp at h
      subst h
      simp only [resolve, hc, Sem.run_bind, Sem.run_pure, Result.andThen_ok, invoke, builtin, Builtin.max_, Array.toList_map, hxy, List.map_cons, List.map_nil, hev _ _ hva, hev _ _ hvb]
      simp [Builtin.max2]
    · -- min
      split at h <;> try (simp at h; done)
      rename_i x y hxy
      obtain ⟨va, hva, h⟩ := ob_some h
      obtain ⟨vb, hvb, h⟩ := ob_some h
      unfold mm at h
      split at h <;> try (simp at h; done)
      split at h <;> simp at h
      subst h
      simp only [resolve, hc, Sem.run_bind, Sem.run_pure, Result.andThen_ok, invoke, builtin, Builtin.min_, Array.toList_map, hxy, List.map_cons, List.map_nil, hev _ _ hva, hev _ _ hvb]
      simp [Builtin.min2]
    · simp at h
  · simp at h
end sound
end Go.Sh
namespace Go.Sh
def obp (o : Option Value) (f : Value → Prop) : Prop := match o with | some v => f v | none => False
def evF (F : Fr) : Operand → Option Value
  | .tmp t => look F.env t
  | .const v => some v
  | .global g => some (.pointer (some ⟨g, 0, none⟩))
  | .func f => some (.func (.func f) #[] #[])
def cat (a b : List Value) : List Value := match b with | [] => a | _ :: _ => a ++ b
def alo (o : Option (List Value)) (f : List Value → Prop) : Prop := match o with | some v => f v | none => False
def optL (ev : Operand → Option Value) : Option Operand → Option (Option Value)
  | none => some none
  | some x => match ev x with | some v => some (some v) | none => none
def obo (o : Option (Option Value)) (f : Option Value → Prop) : Prop := match o with | some v => f v | none => False
section
variable (P : Program) (T : Tab)
def exCall (ev : Operand → Option Value) (c : Call) (ty : TypeId) (w : World) (k : Value → World → Prop) (X : List PanicEntry → World → Prop) : Prop :=
  alo (allSome (c.args.toList.map ev)) fun args =>
  match c.callee with
  | .value f => obp (ev f) fun vf => match vf with
    | .func fn first cap => match fn with
      | .func g => match memN T.fs g with
        | true => Cl P g (cat (first.toList ++ args) cap.toList).toArray w k X
        | false => False
      | _ => False
    | _ => False
  | .builtin b => match b with
    | .append => Sm P (Builtin.append_ c.argTypes ty args.toArray) w k X
    | .cap => Sm P (Builtin.cap_ c.argTypes ty args.toArray) w k X
    | .clear => Sm P (Builtin.clear_ c.argTypes ty args.toArray) w k X
    | .copy => Sm P (Builtin.copy_ c.argTypes ty args.toArray) w k X
    | .delete => Sm P (Builtin.delete_ c.argTypes ty args.toArray) w k X
    | .len => Sm P (Builtin.len_ c.argTypes ty args.toArray) w k X
    | .max => Sm P (Builtin.max_ c.argTypes ty args.toArray) w k X
    | .min => Sm P (Builtin.min_ c.argTypes ty args.toArray) w k X
    | .panic => match args with
      | [v] => match v with | .iface _ _ => X [{ v, recovered := false }] w | _ => False
      | _ => False
    | _ => False
  | _ => False
def exOp (ev : Operand → Option Value) (o : Oper) (w : World) (k : Value → World → Prop) (X : List PanicEntry → World → Prop) : Prop :=
  match pu T.ts ev o.op with
  | some v => k v w
  | none => match o.op with
    | .pick c a b => obp (ev c) fun vc => obp (ev a) fun va => obp (ev b) fun vb => match vc with | .bool t => Gd t (k va w) (k vb w) | _ => False
    | .alloc t => match getT T.ts t with
      | none => False
      | some i => Al i.zero.cells.toList t w fun p w' => k (.pointer (some ⟨p, 0, none⟩)) w'
    | .box t x => obp (ev x) fun v => Al v.cells.toList t w fun p w' => k (.pointer (some ⟨p, 0, none⟩)) w'
    | .load t a => obp (ev a) fun va => match va with
      | .pointer (some p) => match getT T.ts t with
        | none => False
        | some i => match aggD i.desc with
          | true => Ld w p i.size fun vs => k (.agg vs.toArray) w
          | false => Ld1 w p fun v => k v w
      | _ => False
    | .store t a x => obp (ev a) fun va => obp (ev x) fun v => match va with
      | .pointer (some p) => match getT T.ts t with
        | none => False
        | some i => match Nat.beq v.cells.toList.length i.size with
          | true => St w p v.cells.toList fun w' => k undef w'
          | false => False
      | _ => False
    | .indexAddr t x i => obp (ev x) fun vx => obp (ev i) fun vi => match vi with
      | .int _ n => match getT T.ts t with
        | none => False
        | some ti => match ti.desc with
          | .slice e => match getT T.ts e with
            | none => False
            | some ei => match vx with | .slice A len _ => Ix A len n ei.size fun ad => k (.pointer (some ad)) w | _ => False
          | .array len e => match getT T.ts e with
            | none => False
            | some ei => match vx with | .pointer (some p) => Ix (some p) len n ei.size fun ad => k (.pointer (some ad)) w | _ => False
          | _ => False
      | _ => False
    | .index t x i => obp (ev x) fun vx => obp (ev i) fun vi => Sm P (Instr.index t vx vi) w k X
    | .slice t x lo hi mx => obp (ev x) fun vx => obo (optL ev lo) fun a => obo (optL ev hi) fun b => obo (optL ev mx) fun c => Sm P (Instr.sliceAt t vx a b c) w k X
    | .binOp b t x y _ => obp (ev x) fun vx => obp (ev y) fun vy => Sm P (do eqGuard b t x y vx vy; binOp b t vx vy) w k X
    | .makeMap t r => match r with | none => Sm P (Instr.makeMap t none) w k X | some x => obp (ev x) fun v => Sm P (Instr.makeMap t (some v)) w k X
    | .makeSlice t l c => obp (ev l) fun vl => obp (ev c) fun vc => Sm P (Instr.makeSlice t vl vc) w k X
    | .buildSlice t len parts => alo (allSome (parts.toList.map fun p => ev p.2)) fun vs => Sm P (Instr.buildSlice t len ((parts.toList.map (·.1)).zip vs).toArray) w k X
    | .lookup t x i ok => obp (ev x) fun vx => obp (ev i) fun vi => Sm P (Instr.lookup t vx vi ok) w k X
    | .mapUpdate t m i x => obp (ev m) fun vm => obp (ev i) fun vi => obp (ev x) fun vx => SmU P (Instr.mapUpdate t vm vi vx) w (fun w' => k undef w') X
    | .insert t m i x => obp (ev m) fun vm => obp (ev i) fun vi => obp (ev x) fun vx => SmU P (Instr.mapUpdate t vm vi vx) w (fun w' => k undef w') X
    | .mapEntry t m i => obp (ev m) fun vm => obp (ev i) fun vi => Sm P (Instr.mapEntry t vm vi) w k X
    | .entryStore t m i x => obp (ev m) fun vm => obp (ev i) fun vi => obp (ev x) fun vx => SmU P (Instr.entryStore t vm vi vx) w (fun w' => k undef w') X
    | .range t x => obp (ev x) fun vx => Sm P (Instr.range t vx) w k X
    | .next x s => obp (ev x) fun vx => Sm P (Instr.next vx s o.type) w k X
    | .entry x => obp (ev x) fun vx => Sm P (Instr.entry vx) w k X
    | .typeAssert x t u ok => obp (ev x) fun vx => Sm P (Instr.typeAssert vx t u ok) w k X
    | .convert s d x => obp (ev x) fun vx => Sm P (convert s d vx) w k X
    | .panic x => obp (ev x) fun v => match v with | .iface _ _ => X [{ v, recovered := false }] w | _ => False
    | .call c => exCall P T ev c o.type w k X
    | _ => False
variable {P T}
section sound
variable (hT : TabOk P T) {a : Act} {w : World} {ev : Operand → Option Value} (hev : ∀ x v, ev x = some v → a.eval x = v)
  {next : Act → World → Prop} {Q : Exit → Act → World → Prop}
theorem obp_some {o : Option Value} {f : Value → Prop} (h : obp o f) : ∃ v, o = some v ∧ f v := by
  cases o with
  | none => exact h.elim
  | some v => exact ⟨v, rfl, h⟩
theorem alo_some {o : Option (List Value)} {f : List Value → Prop} (h : alo o f) : ∃ v, o = some v ∧ f v := by
  cases o with
  | none => exact h.elim
  | some v => exact ⟨v, rfl, h⟩
theorem obo_some {o : Option (Option Value)} {f : Option Value → Prop} (h : obo o f) : ∃ v, o = some v ∧ f v := by
  cases o with
  | none => exact h.elim
  | some v => exact ⟨v, rfl, h⟩
include hev in
theorem optL_ev {x : Option Operand} {v : Option Value} (h : optL ev x = some v) : x.map a.eval = v := by
  cases x with
  | none => simp [optL] at h; subst h; rfl
  | some x =>
    simp only [optL] at h
    split at h <;> simp at h
    subst h
    rename_i u hu
    simp [hev _ _ hu]
theorem upon_val {o : Oper} {v : Value} {w' : World} {r : Result Next} (hr : r = Result.ok (.value v) w') (h : next (a.put o.dst v) w') : o.upon P a next Q r := by
  subst hr; exact h
theorem upon_skip' {o : Oper} {w' : World} {r : Result Next} (hr : r = Result.ok .skip w') (h : next (a.put o.dst undef) w') : o.upon P a next Q r := by
  subst hr; exact h
theorem upon_Sm {o : Oper} {s : Sem Value} {k : Value → World → Prop} {X : List PanicEntry → World → Prop} {r : Result Next}
    (hr : r = (do pure (.value (← s)) : Sem Next).run P w) (h : Sm P s w k X) (hk : ∀ v w', k v w' → next (a.put o.dst v) w') (hX : ∀ ch w', X ch w' → Q (.panic ch) a w') : o.upon P a next Q r := by
  subst hr
  replace h := h.out
  simp only [Sem.run_bind]
  cases hs : s.run P w with
  | ok v w' => rw [hs] at h; exact hk _ _ h
  | halt x w' =>
    rw [hs] at h
    cases x with
    | panic v => exact hX _ _ h
    | _ => exact h.elim
theorem upon_SmU {o : Oper} {s : Sem Unit} {k : World → Prop} {X : List PanicEntry → World → Prop} {r : Result Next}
    (hr : r = (do s; pure .skip : Sem Next).run P w) (h : SmU P s w k X) (hk : ∀ w', k w' → next (a.put o.dst undef) w') (hX : ∀ ch w', X ch w' → Q (.panic ch) a w') : o.upon P a next Q r := by
  subst hr
  replace h := h.out
  simp only [Sem.run_bind]
  cases hs : s.run P w with
  | ok v w' => rw [hs] at h; exact hk _ h
  | halt x w' =>
    rw [hs] at h
    cases x with
    | panic v => exact hX _ _ h
    | _ => exact h.elim
theorem upon_Cl {o : Oper} {f : Nat} {args : Array Value} {k : Value → World → Prop} {X : List PanicEntry → World → Prop} {r : Result Next}
    (hr : r = Result.ok (.enter f args) w) (h : Cl P f args w k X) (hk : ∀ v w', k v w' → next (a.put o.dst v) w') (hX : ∀ ch w', X ch w' → Q (.panic ch) a w') : o.upon P a next Q r := by
  subst hr
  refine Calls.mono h.out fun e w' q => ?_
  cases e with
  | returned v => exact hk _ _ q
  | panicked ch => exact hX _ _ q
  | outgrown => exact q.elim
theorem run_storeCells_sh (p : Addr) : ∀ (vs : List Value) (i : Nat) (w : World), (∀ v ∈ vs, v.oneCell' = true) →
    (∀ j, j < vs.length → (∃ u, w.cell? (p.add (i + j)) = some u) ∧ w.frozen? (p.add (i + j)) = false) →
    (storeCells p vs i).run P w = Result.ok () (setCells w p vs i)
  | [], i, w, _, _ => rfl
  | v :: r, i, w, h1, hc => by
    obtain ⟨⟨u, hu⟩, hf⟩ := hc 0 (by simp)
    simp only [Nat.add_zero] at hu hf
    have hst : (store (p.add i) v).run P w = Result.ok () (w.setCell (p.add i) v) := by
      rw [run_store P w _ v _ (h1 v (by simp))]
      simp [hu, hf]
    simp only [storeCells, Sem.run_bind, hst, Result.andThen_ok, setCells]
    refine run_storeCells_sh p r (i + 1) _ (fun v hv => h1 v (by simp [hv])) fun j hj => ?_
    obtain ⟨⟨u', hu'⟩, hf'⟩ := hc (j + 1) (by simp; omega)
    rw [show i + 1 + j = i + (j + 1) by omega]
    refine ⟨?_, ?_⟩
    · by_cases e : p.add (i + (j + 1)) = p.add i
      · rw [e]
        have := RowKit.cell?_setCell_some (w := w) (p := p.add i) (x := v) (q := p.add i) (v := u) hu
        exact ⟨_, this.choose_spec⟩
      · obtain ⟨y, hy⟩ := RowKit.cell?_setCell_some (w := w) (p := p.add i) (x := v) (q := p.add (i + (j + 1))) (v := u') hu'
        exact ⟨y, hy⟩
    · rw [World.frozen?_setCell]; exact hf'
include hT hev in
theorem exCall_sound {o : Oper} {c : Call} (e : o.op = .call c) {k : Value → World → Prop} {X : List PanicEntry → World → Prop} (h : exCall P T ev c o.type w k X)
    (hk : ∀ v w', k v w' → next (a.put o.dst v) w') (hX : ∀ ch w', X ch w' → Q (.panic ch) a w') : o.wp P a w next Q := by
  unfold exCall at h
  obtain ⟨args, hargs, h⟩ := alo_some h
  have ha := map_ev hev hargs
  unfold Oper.wp execOp
  simp only [e]
  split at h
  · rename_i f hc
    obtain ⟨vf, hf, h⟩ := obp_some h
    split at h <;> try (exact h.elim)
    rename_i fn first cap
    split at h <;> try (exact h.elim)
    rename_i g
    split at h <;> try (exact h.elim)
    rename_i hg
    obtain ⟨fun_, h1, h2, h3⟩ := hT.2.get hg
    have hcat : (cat (first.toList ++ args) cap.toList).toArray = first ++ args.toArray ++ cap := by
      obtain ⟨fl⟩ := first; obtain ⟨cl⟩ := cap
      cases cl <;> simp [cat]
    refine upon_Cl (f := g) (args := (cat (first.toList ++ args) cap.toList).toArray) ?_ h hk hX
    simp only [resolve, hc, hev _ _ hf, Deferred.ofValue, ha, hcat]
    have h2' : fun_.name ≠ "runtime.NumGoroutine" := by simpa using h2
    have h3' : fun_.body ≠ none := by intro hn; simp [hn] at h3
    simp [invoke, callFunc, h1, h2', h3']
  · rename_i b hc
    split at h
    all_goals first
      | exact h.elim
      | (refine upon_Sm ?_ h hk hX; simp only [resolve, hc, ha, Sem.run_bind, Sem.run_pure, Result.andThen_ok, invoke, builtin])
      | skip
    split at h <;> try (exact h.elim)
    split at h <;> try (exact h.elim)
    rename_i t v
    simp only [resolve, hc, ha, Sem.run_bind, Sem.run_pure, Result.andThen_ok, invoke, builtin]
    exact hX _ _ h
  · exact h.elim
include hT hev in
theorem exOp_sound {o : Oper} {k : Value → World → Prop} {X : List PanicEntry → World → Prop} (h : exOp P T ev o w k X)
    (hk : ∀ v w', k v w' → next (a.put o.dst v) w') (hX : ∀ ch w', X ch w' → Q (.panic ch) a w') : o.wp P a w next Q := by
  unfold exOp at h
  split at h
  · rename_i v hv
    exact upon_val (pu_sound hT.1 w hev hv) (hk _ _ h)
  · rename_i hnone; clear hnone
    split at h
    · -- pick
      rename_i c x y e
      replace h := obp_some h; obtain ⟨vc, hc, h⟩ := h
      replace h := obp_some h; obtain ⟨vx, hx, h⟩ := h
      replace h := obp_some h; obtain ⟨vy, hy, h⟩ := h
      split at h <;> try (exact h.elim)
      rename_i t
      unfold Oper.wp execOp
      simp only [e, hev _ _ hc, hev _ _ hx, hev _ _ hy]
      cases t
      · exact upon_val (v := vy) (w' := w) (by simp [asBool]) (hk _ _ (h.2 rfl))
      · exact upon_val (v := vx) (w' := w) (by simp [asBool]) (hk _ _ (h.1 rfl))
    · -- alloc
      rename_i t e
      split at h <;> try (exact h.elim)
      rename_i i hi
      unfold Oper.wp execOp
      simp only [e]
      refine upon_val (w' := w.alloc (.cells i.zero.cells t)) (v := .pointer (some ⟨w.heap.size, 0, none⟩)) ?_ (hk _ _ h.out)
      simp [Instr.alloc, run_zero hT.1 hi, newVar, newRow]
    · -- box
      rename_i t x e
      replace h := obp_some h; obtain ⟨v, hx, h⟩ := h
      unfold Oper.wp execOp
      simp only [e, hev _ _ hx]
      refine upon_val (w' := w.alloc (.cells v.cells t)) (v := .pointer (some ⟨w.heap.size, 0, none⟩)) ?_ (hk _ _ h.out)
      simp [Instr.box, newVar, newRow]
    · -- load
      rename_i t x e
      replace h := obp_some h; obtain ⟨v, hx, h⟩ := h
      split at h <;> try (exact h.elim)
      rename_i p
      split at h <;> try (exact h.elim)
      rename_i i hi
      unfold Oper.wp execOp
      simp only [e, hev _ _ hx]
      split at h
      · rename_i hag
        obtain ⟨vs, hl, hc, h⟩ := h
        refine upon_val (w' := w) (v := .agg vs.toArray) ?_ (hk _ _ h)
        have := run_loadCells_list (P := P) w p vs hc
        rw [hl] at this
        simp [Instr.loadAt, Instr.sureAddr, loadVar, run_isAgg hT.1 w hi, hag, run_size hT.1 hi, this]
      · rename_i hag
        obtain ⟨u, hu, h⟩ := h
        refine upon_val (w' := w) (v := u) ?_ (hk _ _ h)
        simp [Instr.loadAt, Instr.sureAddr, loadVar, run_isAgg hT.1 w hi, hag, hu]
    · -- store
      rename_i t x y e
      replace h := obp_some h; obtain ⟨v, hx, h⟩ := h
      replace h := obp_some h; obtain ⟨u, hy, h⟩ := h
      split at h <;> try (exact h.elim)
      rename_i p
      split at h <;> try (exact h.elim)
      rename_i i hi
      split at h <;> try (exact h.elim)
      rename_i hsz
      have hsz := Nat.eq_of_beq_eq_true hsz
      obtain ⟨h1, hc, h⟩ := h
      unfold Oper.wp execOp
      simp only [e, hev _ _ hx, hev _ _ hy]
      refine upon_skip' (w' := setCells w p u.cells.toList 0) ?_ (hk _ _ h)
      have := run_storeCells_sh (P := P) p u.cells.toList 0 w h1 (fun j hj => by simpa using hc j hj)
      have hs' : u.cells.size = i.size := by simpa using hsz
      simp [Instr.storeAt, Instr.sureAddr, storeVar, run_size hT.1 hi, this, hs']
    · -- indexAddr
      rename_i t x y e
      replace h := obp_some h; obtain ⟨v, hx, h⟩ := h
      replace h := obp_some h; obtain ⟨u, hy, h⟩ := h
      split at h <;> try (exact h.elim)
      rename_i kk n
      split at h <;> try (exact h.elim)
      rename_i ti hti
      unfold Oper.wp execOp
      simp only [e, hev _ _ hx, hev _ _ hy]
      split at h
      · rename_i el hd
        split at h <;> try (exact h.elim)
        rename_i ei hei
        split at h <;> try (exact h.elim)
        rename_i A len cap
        obtain ⟨hn, h0, h1, h⟩ := h
        obtain ⟨ad, rfl⟩ : ∃ ad, A = some ad := Option.ne_none_iff_exists'.1 hn
        simp only [gA] at h
        refine upon_val (w' := w) (v := .pointer (some (ad.add (n.toNat * ei.size)))) ?_ (hk _ _ h)
        simp [Instr.indexAt, asIntOf, run_und hT.1 hti, hd, h0, h1, run_size hT.1 hei]
      · rename_i len el hd
        split at h <;> try (exact h.elim)
        rename_i ei hei
        split at h <;> try (exact h.elim)
        rename_i p
        obtain ⟨_, h0, h1, h⟩ := h
        simp only [gA] at h
        refine upon_val (w' := w) (v := .pointer (some (p.add (n.toNat * ei.size)))) ?_ (hk _ _ h)
        simp [Instr.indexAt, asIntOf, run_und hT.1 hti, hd, h0, h1, run_size hT.1 hei, Instr.sureAddr]
      · exact h.elim
    · rename_i t x y e
      replace h := obp_some h; obtain ⟨v0, h0, h⟩ := h
      replace h := obp_some h; obtain ⟨v1, h1, h⟩ := h
      unfold Oper.wp execOp
      simp only [e, hev _ _ h0, hev _ _ h1]
      exact upon_Sm rfl h hk hX
    · rename_i t x lo hi mx e
      replace h := obp_some h; obtain ⟨v0, h0, h⟩ := h
      replace h := obo_some h; obtain ⟨v1, h1, h⟩ := h
      replace h := obo_some h; obtain ⟨v2, h2, h⟩ := h
      replace h := obo_some h; obtain ⟨v3, h3, h⟩ := h
      unfold Oper.wp execOp
      simp only [e, hev _ _ h0, optL_ev hev h1, optL_ev hev h2, optL_ev hev h3]
      exact upon_Sm rfl h hk hX
    · rename_i b t x y yt e
      replace h := obp_some h; obtain ⟨v0, h0, h⟩ := h
      replace h := obp_some h; obtain ⟨v1, h1, h⟩ := h
      unfold Oper.wp execOp
      simp only [e, hev _ _ h0, hev _ _ h1]
      exact upon_Sm rfl h hk hX
    · rename_i t r e
      split at h
      · unfold Oper.wp execOp
        simp only [e]
        exact upon_Sm rfl h hk hX
      · rename_i x
        replace h := obp_some h; obtain ⟨v0, h0, h⟩ := h
        unfold Oper.wp execOp
        simp only [e]
        refine upon_Sm ?_ h hk hX
        simp [hev _ _ h0]
    · rename_i t x y e
      replace h := obp_some h; obtain ⟨v0, h0, h⟩ := h
      replace h := obp_some h; obtain ⟨v1, h1, h⟩ := h
      unfold Oper.wp execOp
      simp only [e, hev _ _ h0, hev _ _ h1]
      exact upon_Sm rfl h hk hX
    · rename_i t len parts e
      replace h := alo_some h; obtain ⟨vs, hvs, h⟩ := h
      unfold Oper.wp execOp
      simp only [e]
      refine upon_Sm ?_ h hk hX
      have hm := allSome_spec _ _ hvs
      have : (parts.map fun x => (x.1, a.eval x.2)) = ((parts.toList.map (·.1)).zip vs).toArray := by
        apply Array.ext'
        simp only [Array.toList_map]
        apply List.ext_getElem?
        intro i
        have hi := congrArg (·[i]?) hm
        simp only [List.getElem?_map] at hi ⊢
        cases hp : parts.toList[i]? with
        | none =>
          rw [hp] at hi
          cases hv : vs[i]? with
          | none => simp only [Option.map_none]; symm; rw [List.getElem?_eq_none_iff]; simp at hp hv ⊢; omega
          | some v => rw [hv] at hi; simp at hi
        | some y =>
          rw [hp] at hi
          cases hv : vs[i]? with
          | none => rw [hv] at hi; simp at hi
          | some v =>
            rw [hv] at hi
            simp at hi
            simp only [Option.map_some]
            symm
            rw [List.getElem?_zip_eq_some]
            simp [hp, hv, hev _ _ hi]
      rw [← this]
    · rename_i t x i ok e
      replace h := obp_some h; obtain ⟨v0, h0, h⟩ := h
      replace h := obp_some h; obtain ⟨v1, h1, h⟩ := h
      unfold Oper.wp execOp
      simp only [e, hev _ _ h0, hev _ _ h1]
      exact upon_Sm rfl h hk hX
    · rename_i t m i x e
      replace h := obp_some h; obtain ⟨v0, h0, h⟩ := h
      replace h := obp_some h; obtain ⟨v1, h1, h⟩ := h
      replace h := obp_some h; obtain ⟨v2, h2, h⟩ := h
      unfold Oper.wp execOp
      simp only [e, hev _ _ h0, hev _ _ h1, hev _ _ h2]
      exact upon_SmU rfl h (fun w' q => hk _ _ q) hX
    · rename_i t m i x e
      replace h := obp_some h; obtain ⟨v0, h0, h⟩ := h
      replace h := obp_some h; obtain ⟨v1, h1, h⟩ := h
      replace h := obp_some h; obtain ⟨v2, h2, h⟩ := h
      unfold Oper.wp execOp
      simp only [e, hev _ _ h0, hev _ _ h1, hev _ _ h2]
      exact upon_SmU rfl h (fun w' q => hk _ _ q) hX
    · rename_i t m i e
      replace h := obp_some h; obtain ⟨v0, h0, h⟩ := h
      replace h := obp_some h; obtain ⟨v1, h1, h⟩ := h
      unfold Oper.wp execOp
      simp only [e, hev _ _ h0, hev _ _ h1]
      exact upon_Sm rfl h hk hX
    · rename_i t m i x e
      replace h := obp_some h; obtain ⟨v0, h0, h⟩ := h
      replace h := obp_some h; obtain ⟨v1, h1, h⟩ := h
      replace h := obp_some h; obtain ⟨v2, h2, h⟩ := h
      unfold Oper.wp execOp
      simp only [e, hev _ _ h0, hev _ _ h1, hev _ _ h2]
      exact upon_SmU rfl h (fun w' q => hk _ _ q) hX
    · rename_i t x e
      replace h := obp_some h; obtain ⟨v0, h0, h⟩ := h
      unfold Oper.wp execOp
      simp only [e, hev _ _ h0]
      exact upon_Sm rfl h hk hX
    · rename_i x s e
      replace h := obp_some h; obtain ⟨v0, h0, h⟩ := h
      unfold Oper.wp execOp
      simp only [e, hev _ _ h0]
      exact upon_Sm rfl h hk hX
    · rename_i x e
      replace h := obp_some h; obtain ⟨v0, h0, h⟩ := h
      unfold Oper.wp execOp
      simp only [e, hev _ _ h0]
      exact upon_Sm rfl h hk hX
    · rename_i x t u ok e
      replace h := obp_some h; obtain ⟨v0, h0, h⟩ := h
      unfold Oper.wp execOp
      simp only [e, hev _ _ h0]
      exact upon_Sm rfl h hk hX
    · rename_i s d x e
      replace h := obp_some h; obtain ⟨v0, h0, h⟩ := h
      unfold Oper.wp execOp
      simp only [e, hev _ _ h0]
      exact upon_Sm rfl h hk hX
    · rename_i x e
      replace h := obp_some h; obtain ⟨v0, h0, h⟩ := h
      split at h <;> try (exact h.elim)
      unfold Oper.wp execOp
      simp only [e, hev _ _ h0]
      exact hX _ _ h
    · rename_i c e
      exact exCall_sound hT hev e h hk hX
    · exact h.elim
end sound
end
end Go.Sh
namespace Go.Sh
def dstOk (n : Nat) : Option Nat → Bool
  | none => true
  | some d => Nat.blt d n
def guardV (all : List Oper) (F : Fr) (j : Nat) : Option (Nat × Value) :=
  match all[j]? with
  | none => none
  | some o => match o.dst with
    | none => none
    | some d => match look F.env d with | some v => some (d, v) | none => none
section
variable (P : Program) (T : Tab) (n : Nat)
def stepOps (all : List Oper) (o : Oper) (_r : List Oper) (ih : Fr → World → (Fr → World → Prop) → (List PanicEntry → Fr → World → Prop) → Prop)
    (F : Fr) (w : World) (k : Fr → World → Prop) (X : List PanicEntry → Fr → World → Prop) : Prop :=
    match dstOk n o.dst with
    | false => False
    | true => match o.guard with
      | none => match o.op with
        | .defer c => alo (allSome (c.args.toList.map (evF F))) fun args => match c.callee with
          | .value f => obp (evF F f) fun vf => match vf with
            | .func fn first cap => ih (({ F with ds := { target := .fn fn cap, args := first ++ args.toArray } :: F.ds } : Fr).put o.dst undef) w k X
            | _ => False
          | _ => False
        | _ => exOp P T (evF F) o w (fun v w' => ih (F.put o.dst v) w' k X) (fun ch w' => X ch F w')
      | some (j, want) => match guardV all F j with
        | none => False
        | some (d, v) => match v with
          | .bool b => match want with
            | true => Gd b (exOp P T (evF (F.put (some d) (.bool true))) o w (fun v w' => ih ((F.put (some d) (.bool true)).put o.dst v) w' k X) (fun ch w' => X ch (F.put (some d) (.bool true)) w'))
                (ih ((F.put (some d) (.bool false)).put o.dst undef) w k X)
            | false => Gd b (ih ((F.put (some d) (.bool true)).put o.dst undef) w k X)
                (exOp P T (evF (F.put (some d) (.bool false))) o w (fun v w' => ih ((F.put (some d) (.bool false)).put o.dst v) w' k X) (fun ch w' => X ch (F.put (some d) (.bool false)) w'))
          | .tuple _ => ih (F.put o.dst undef) w k X
          | _ => False
def exOps (all : List Oper) (l : List Oper) : Fr → World → (Fr → World → Prop) → (List PanicEntry → Fr → World → Prop) → Prop :=
  List.rec (motive := fun _ => Fr → World → (Fr → World → Prop) → (List PanicEntry → Fr → World → Prop) → Prop) (fun F w k _ => k F w) (stepOps P T n all) l
def Lift (K : Exit → Fr → World → Prop) : Exit → Act → World → Prop := fun e a w => ∃ F, Agr n F a ∧ K e F w
structure Lp (c : Code) (F : Fr) (w : World) (K : Exit → Fr → World → Prop) : Prop where
  of ::
  out : ∀ a, Agr n F a → (Code.loop c).wp P (Lift n K) a w
structure Dr (id : Nat) (ops : Array Oper) (F : Fr) (w : World) (K : Exit → Fr → World → Prop) : Prop where
  of ::
  out : ∀ a, Agr n F a → (Code.region id ops true).wp P (Lift n K) a w
structure Sq (x : (Exit → Fr → World → Prop) → Prop) (y : Fr → World → Prop) (K : Exit → Fr → World → Prop) : Prop where
  of ::
  out : x fun e F w => match e with | .normal => y F w | e => K e F w
abbrev CC := Fr → World → (Exit → Fr → World → Prop) → Prop
def cN : CC := fun F w K => K .normal F w
def cF : CC := fun _ _ _ => False
def cRegion (id : Nat) (ops : Array Oper) (draw : Bool) : CC := fun F w K =>
  match draw with
    | false => exOps P T n ops.toList ops.toList F w (fun F w => K .normal F w) (fun ch F w => K (.panic ch) F w)
    | true => Dr P n id ops F w K
def cSeq (x y : CC) : CC := fun F w K => Sq (fun K' => x F w K') (fun F w => y F w K) K
def cCond (c : Operand) (x y : CC) : CC := fun F w K => obp (evF F c) fun v => match v with | .bool b => Gd b (x F w K) (y F w K) | _ => False
def cBlock (id : Nat) (x : CC) : CC := fun F w K => x F w fun e F w => match e with
    | .exit i => match Nat.beq i id with | true => K .normal F w | false => K (.exit i) F w
    | e => K e F w
def cScope (x : CC) : CC := fun F w K => x F w fun e F w => match e with | .goto _ => False | e => K e F w
def exC (c : Code) : CC :=
  Code.rec (motive := fun _ => CC) cN (cRegion P T n) (fun _ _ x y => cSeq x y) (fun c _ _ x y => cCond c x y) (fun id _ x => cBlock id x) (fun c _ => fun F w K => Lp P n c F w K)
    (fun _ _ _ _ _ _ => cF) (fun id => fun F w K => K (.exit id) F w) (fun _ x => cScope x) (fun _ => cN) (fun l => fun F w K => K (.goto l) F w) (fun F w K => K .ret F w) (fun _ => cF) c
variable {P T n}
theorem Agr.ev {F : Fr} {a : Act} (h : Agr n F a) : ∀ x v, evF F x = some v → a.eval x = v := by
  intro x v hx
  cases x with
  | tmp t =>
    have := h.2.2 t v hx
    simp [Act.eval, Array.getD_eq_getD_getElem?, this]
  | const c => simpa [evF, Act.eval] using hx
  | global g => simpa [evF, Act.eval] using hx
  | func f => simpa [evF, Act.eval] using hx
theorem Agr.put {F : Fr} {a : Act} (h : Agr n F a) {d : Option Nat} (hd : dstOk n d = true) (v : Value) : Agr n (F.put d v) (a.put d v) := by
  cases d with
  | none => exact h
  | some d =>
    obtain ⟨h1, h2, h3⟩ := h
    have hd' : d < n := by simpa [dstOk] using hd
    refine ⟨by simpa [Act.put] using h1, by simpa [Act.put, Fr.put] using h2, fun t u ht => ?_⟩
    simp only [Fr.put, look] at ht
    split at ht
    · rename_i he
      have := Nat.eq_of_beq_eq_true he
      subst this
      simp at ht
      subst ht
      simp only [Act.put]
      rw [Array.getElem?_setIfInBounds_self_of_lt (by omega)]
    · rename_i he
      have hne : d ≠ t := fun e => by subst e; simp at he
      simp only [Act.put]
      rw [Array.getElem?_setIfInBounds_ne hne]
      exact h3 t u ht
theorem Agr.same {F : Fr} {a : Act} (h : Agr n F a) {d : Nat} {v : Value} (hl : look F.env d = some v) : Agr n (F.put (some d) v) a := by
  obtain ⟨h1, h2, h3⟩ := h
  refine ⟨h1, h2, fun t u ht => ?_⟩
  simp only [Fr.put, look] at ht
  split at ht
  · rename_i he
    have := Nat.eq_of_beq_eq_true he
    subst this
    simp at ht
    subst ht
    exact h3 _ _ hl
  · exact h3 t u ht
theorem wanted_none {o : Oper} {y : Nat → Option Bool} (h : o.guard = none) : Region.wanted o y = true := by simp [Region.wanted, h]
theorem guard_yield {all : List Oper} {F : Fr} {a : Act} (h : Agr n F a) {j d : Nat} {v : Value} (hg : guardV all F j = some (d, v)) :
    look F.env d = some v ∧ yielded all.toArray a.tmps j = (match v with | .bool b => some b | _ => none) := by
  unfold guardV at hg
  split at hg; · simp at hg
  rename_i o ho
  split at hg; · simp at hg
  rename_i d' hd
  split at hg <;> simp at hg
  rename_i u hu
  obtain ⟨rfl, rfl⟩ := hg
  refine ⟨hu, ?_⟩
  have := h.2.2 _ _ hu
  unfold yielded
  have e1 : all.toArray[j]? = some o := by simpa using ho
  simp only [e1, Option.bind_some, hd, this]
  cases u <;> rfl
theorem exOps_sound (hT : TabOk P T) (all : List Oper) {Q : Exit → Act → World → Prop} : ∀ (l : List Oper) (F : Fr) (a : Act) (w : World) (k : Fr → World → Prop) (X : List PanicEntry → Fr → World → Prop),
    Agr n F a → exOps P T n all l F w k X → (∀ F a w, Agr n F a → k F w → Q .normal a w) → (∀ ch F a w, Agr n F a → X ch F w → Q (.panic ch) a w) → wpList P all.toArray Q l a w
  | [], F, a, w, k, X, ha, h, hk, _ => hk _ _ _ ha h
  | o :: r, F, a, w, k, X, ha, h, hk, hX => by
    have ih := exOps_sound hT all (Q := Q) r
    change stepOps P T n all o r (exOps P T n all r) F w k X at h
    unfold stepOps at h
    split at h; · exact h.elim
    rename_i hd
    split at h
    · rename_i hg
      unfold wpList
      rw [if_pos (wanted_none hg)]
      refine .inl ?_
      split at h
      · rename_i c e
        replace h := alo_some h
        obtain ⟨args, hargs, h⟩ := h
        split at h <;> try (exact h.elim)
        rename_i f hc
        replace h := obp_some h
        obtain ⟨vf, hf, h⟩ := h
        split at h <;> try (exact h.elim)
        rename_i fn first cap
        have hm := map_ev ha.ev hargs
        unfold Oper.wp execOp
        simp only [e, resolve, hc, ha.ev _ _ hf, Deferred.ofValue, hm, Sem.run_bind, Sem.run_pure, Result.andThen_ok]
        refine ih _ _ _ k X ?_ h hk hX
        refine Agr.put ?_ hd _
        exact ⟨ha.1, by simp [ha.2.1], ha.2.2⟩
      · exact exOp_sound hT ha.ev h (fun v w' q => ih _ _ _ k X (ha.put hd v) q hk hX) (fun ch w' q => hX _ _ _ _ ha q)
    · rename_i j want hg
      split at h; · exact h.elim
      rename_i d v hgv
      obtain ⟨hl, hy⟩ := guard_yield ha hgv
      unfold wpList
      split at h
      · rename_i b
        simp only at hy
        split at h
        · cases b
          · rw [if_neg (by simp [Region.wanted, hg, hy])]
            exact ih _ _ _ k X ((ha.same hl).put hd _) (h.2 rfl) hk hX
          · rw [if_pos (by simp [Region.wanted, hg, hy])]
            exact .inl (exOp_sound hT (ha.same hl).ev (h.1 rfl) (fun v w' q => ih _ _ _ k X ((ha.same hl).put hd v) q hk hX) (fun ch w' q => hX _ _ _ _ (ha.same hl) q))
        · cases b
          · rw [if_pos (by simp [Region.wanted, hg, hy])]
            exact .inl (exOp_sound hT (ha.same hl).ev (h.2 rfl) (fun v w' q => ih _ _ _ k X ((ha.same hl).put hd v) q hk hX) (fun ch w' q => hX _ _ _ _ (ha.same hl) q))
          · rw [if_neg (by simp [Region.wanted, hg, hy])]
            exact ih _ _ _ k X ((ha.same hl).put hd _) (h.1 rfl) hk hX
      · simp only at hy
        rw [if_neg (by simp [Region.wanted, hg, hy])]
        exact ih _ _ _ k X (ha.put hd _) h hk hX
      · exact h.elim
theorem exC_sound (hT : TabOk P T) : ∀ (c : Code) (F : Fr) (a : Act) (w : World) (K : Exit → Fr → World → Prop), Agr n F a → exC P T n c F w K → c.wp P (Lift n K) a w := by
  intro c
  induction c with
  | skip => exact fun F a w K ha h => wp_skip ⟨F, ha, h⟩
  | label l => exact fun F a w K ha h => wp_label ⟨F, ha, h⟩
  | region id ops draw =>
    intro F a w K ha h
    cases draw with
    | false =>
      refine wp_region_list ?_
      exact exOps_sound hT ops.toList ops.toList F a w _ _ ha h (fun F a w ha q => ⟨F, ha, q⟩) (fun ch F a w ha q => ⟨F, ha, q⟩)
    | true => exact h.out a ha
  | seq x y ihx ihy =>
    intro F a w K ha h
    refine wp_seq (wp_mono (ihx F a w _ ha h.out) fun e a' w' q => ?_)
    obtain ⟨F', ha', q⟩ := q
    cases e with
    | normal => exact ihy F' a' w' K ha' q
    | _ => exact ⟨F', ha', q⟩
  | cond c x y ihx ihy =>
    intro F a w K ha h
    obtain ⟨v, hv, h⟩ := obp_some h
    split at h <;> try (exact h.elim)
    rename_i b
    cases b
    · exact wp_cond_false (ha.ev _ _ hv) (ihy F a w K ha (h.2 rfl))
    · exact wp_cond_true (ha.ev _ _ hv) (ihx F a w K ha (h.1 rfl))
  | block id c ih =>
    intro F a w K ha h
    refine wp_block (wp_mono (ih F a w _ ha h) fun e a' w' q => ?_)
    obtain ⟨F', ha', q⟩ := q
    cases e with
    | exit i =>
      simp only at q
      by_cases hi : i = id
      · subst hi
        simp at q
        simp [Exit.inBlock]
        exact ⟨F', ha', q⟩
      · have : Nat.beq i id = false := by cases hb : Nat.beq i id with | false => rfl | true => exact absurd (Nat.eq_of_beq_eq_true hb) hi
        rw [this] at q
        simp [Exit.inBlock, hi]
        exact ⟨F', ha', q⟩
    | _ => exact ⟨F', ha', q⟩
  | loop c ih => exact fun F a w K ha h => h.out a ha
  | exit i => exact fun F a w K ha h => wp_exit ⟨F, ha, h⟩
  | goto l => exact fun F a w K ha h => wp_goto ⟨F, ha, h⟩
  | ret => exact fun F a w K ha h => wp_ret ⟨F, ha, h⟩
  | scope c ih =>
    intro F a w K ha h
    refine wp_scope_straight (wp_mono (ih F a w _ ha h) fun e a' w' q => ?_)
    obtain ⟨F', ha', q⟩ := q
    cases e with
    | goto l => exact q.elim
    | _ => exact ⟨F', ha', q⟩
  | rangeFunc => exact fun F a w K ha h => h.elim
  | refuse => exact fun F a w K ha h => h.elim
def argsEnv : List Value → Nat → Env
  | [], _ => []
  | v :: r, i => (i, v) :: argsEnv r (i + 1)
def retV (F : Fr) : List ResultVar → Option (List (Value ⊕ (Addr × TypeId)))
  | [] => some []
  | r :: rs => match retV F rs with
    | none => none
    | some l => match r with
      | .tmp t => match look F.env t with | some v => some (.inl v :: l) | none => none
      | .cell t ty => (match look F.env t with | none => none | some v => match v with | .pointer (some p) => some (.inr (p, ty) :: l) | _ => none)
def getR (T : List (Nat × TI)) (w : World) : List (Value ⊕ (Addr × TypeId)) → (List Value → Prop) → Prop
  | [], k => k []
  | .inl v :: r, k => getR T w r fun l => k (v :: l)
  | .inr (p, ty) :: r, k => match getT T ty with
    | none => False
    | some i => match aggD i.desc with
      | true => Ld w p i.size fun vs => getR T w r fun l => k (.agg vs.toArray :: l)
      | false => Ld1 w p fun v => getR T w r fun l => k (v :: l)
def oneV : List Value → Value
  | [v] => v
  | l => .tuple l.toArray
def retK (T : List (Nat × TI)) (rs : List ResultVar) (R : Value → World → Prop) (X : List PanicEntry → World → Prop) : Exit → Fr → World → Prop := fun e F w =>
  match e with
  | .normal | .ret => match F.ds with
    | [] => match retV F rs with
      | none => False
      | some l => getR T w l fun vs => R (oneV vs) w
    | _ => False
  | .panic ch => match F.ds with
    | [] => X ch w
    | _ => False
  | _ => False
theorem run_consM {α β : Type} {f : α → Sem β} {x : α} {xs : List α} {v : β} {vs : List β} {w : World} (h1 : (f x).run P w = Result.ok v w) (h2 : (xs.mapM f).run P w = Result.ok vs w) :
    ((x :: xs).mapM f).run P w = Result.ok (v :: vs) w := by
  simp only [List.mapM_cons, Sem.run_bind, h1, h2, Result.andThen_ok, Sem.run_pure]
theorem run_retV (hT : TabOk P T) (w : World) {F : Fr} {a : Act} (ha : Agr n F a) : ∀ (rs : List ResultVar) (l : List (Value ⊕ (Addr × TypeId))) (k : List Value → Prop), retV F rs = some l → getR T.ts w l k →
    ∃ vs, (rs.mapM (fun r => (match r with | .tmp t => pure (a.tmps.getD t undef) | .cell x t => do loadVar t (← asAddr (a.tmps.getD x undef)) : Sem Value))).run P w = Result.ok vs w ∧ k vs
  | [], l, k, h, hk => by simp [retV] at h; subst h; exact ⟨[], rfl, hk⟩
  | r :: rs, l, k, h, hk => by
    unfold retV at h
    split at h; · simp at h
    rename_i l' hl'
    have hget : ∀ t v, look F.env t = some v → a.tmps.getD t undef = v := fun t v hv => by simp [Array.getD_eq_getD_getElem?, ha.2.2 t v hv]
    split at h
    · split at h <;> simp at h
      rename_i t v hv
      subst h
      obtain ⟨vs, hvs, hk'⟩ := run_retV hT w ha rs l' _ hl' hk
      refine ⟨v :: vs, run_consM ?_ hvs, hk'⟩
      simp only [hget _ _ hv, Sem.run_pure]
    · split at h; · simp at h
      rename_i t ty v hv
      split at h <;> simp at h
      rename_i p
      subst h
      unfold getR at hk
      split at hk; · exact hk.elim
      rename_i i hi
      split at hk
      · rename_i hag
        obtain ⟨us, hl, hc, hk⟩ := hk
        obtain ⟨vs, hvs, hk'⟩ := run_retV hT w ha rs l' _ hl' hk
        refine ⟨.agg us.toArray :: vs, run_consM ?_ hvs, hk'⟩
        have hld := run_loadCells_list (P := P) w p us hc
        rw [hl] at hld
        simp only [Sem.run_bind, Sem.run_pure, Result.andThen_ok, hget _ _ hv, asAddr, loadVar, run_isAgg hT.1 w hi, hag, if_true, run_size hT.1 hi w, hld]
      · rename_i hag
        obtain ⟨u, hu, hk⟩ := hk
        obtain ⟨vs, hvs, hk'⟩ := run_retV hT w ha rs l' _ hl' hk
        refine ⟨u :: vs, run_consM ?_ hvs, hk'⟩
        simp only [Sem.run_bind, Sem.run_pure, Result.andThen_ok, hget _ _ hv, asAddr, loadVar, run_isAgg hT.1 w hi, hag, Bool.false_eq_true, if_false, run_load, hu]
theorem run_results (hT : TabOk P T) (w : World) {F : Fr} {a : Act} (ha : Agr n F a) {fn : Func} {l : List (Value ⊕ (Addr × TypeId))} {k : List Value → Prop} (h : retV F fn.results.toList = some l) (hk : getR T.ts w l k) :
    ∃ vs, (results fn a.tmps).run P w = Result.ok (oneV vs) w ∧ k vs := by
  obtain ⟨vs, hvs, hk⟩ := run_retV hT w ha _ _ _ h hk
  refine ⟨vs, ?_, hk⟩
  unfold results
  simp only [Array.mapM_eq_mapM_toList, Sem.run_bind, Sem.run_map]
  refine (congrArg (fun r : Result (List Value) => (r.andThen fun a w' => Result.ok a.toArray w').andThen fun a w' => Result.ok (if h : a.size = 1 then a[0] else Value.tuple a) w') hvs).trans ?_
  simp only [Result.andThen_ok]
  have : (if h : vs.toArray.size = 1 then vs.toArray[0] else Value.tuple vs.toArray) = oneV vs := by
    match vs with
    | [] => rfl
    | [v] => rfl
    | _ :: _ :: _ => simp [oneV]
  rw [this]
theorem look_args : ∀ (vs : List Value) (i t : Nat) (v : Value), look (argsEnv vs i) t = some v → i ≤ t ∧ vs[t - i]? = some v
  | [], i, t, v, h => by simp [argsEnv, look] at h
  | u :: r, i, t, v, h => by
    simp only [argsEnv, look] at h
    split at h
    · rename_i he
      have := Nat.eq_of_beq_eq_true he
      subst this
      simp at h
      subst h
      exact ⟨Nat.le_refl _, by simp⟩
    · obtain ⟨h1, h2⟩ := look_args r (i + 1) t v h
      refine ⟨by omega, ?_⟩
      rw [show t - i = (t - (i + 1)) + 1 by omega]
      simpa using h2
theorem Agr.enter {fn : Func} {args : List Value} (hn : Nat.ble args.length fn.ntmps = true) :
    Agr fn.ntmps ⟨argsEnv args 0, []⟩ { tmps := args.toArray ++ Array.replicate (fn.ntmps - args.toArray.size) undef, defers := [] } := by
  have hn := Nat.le_of_ble_eq_true hn
  refine ⟨by simp; omega, rfl, fun t v h => ?_⟩
  obtain ⟨_, h2⟩ := look_args args 0 t v h
  simp only [Nat.sub_zero] at h2
  have hlt : t < args.length := (List.getElem?_eq_some_iff.1 h2).1
  rw [Array.getElem?_append_left (by simpa using hlt)]
  simpa using h2
theorem calls_ex (hT : TabOk P T) {f : FuncId} {fn : Func} {c : Code} {args : List Value} {w : World} {R : Value → World → Prop} {X : List PanicEntry → World → Prop} {m : Nat} {rs : List ResultVar}
    (hf : P.funcs[f]? = some fn) (hb : fn.body = some c) (hm : fn.ntmps = m) (hrs : fn.results.toList = rs) (hn : Nat.ble args.length m = true)
    (h : exC P T m c ⟨argsEnv args 0, []⟩ w (retK T.ts rs R X)) : Cl P f args.toArray w R X := by
  subst hm hrs
  refine ⟨calls_of_wp hf hb (wp_mono (exC_sound hT c _ _ w _ (Agr.enter hn) h) fun e a' w' q => ?_)⟩
  obtain ⟨F', ha', q⟩ := q
  have key : (match F'.ds with
    | [] => match retV F' fn.results.toList with
      | none => False
      | some l => getR T.ts w' l fun vs => R (oneV vs) w'
    | _ => False) → bodyPost P fn (fun e w' => match e with | .returned v => R v w' | .panicked ch => X ch w' | .outgrown => False) .ret a' w' := fun q => by
    split at q <;> try (exact q.elim)
    rename_i hds
    split at q <;> try (exact q.elim)
    rename_i l hl
    obtain ⟨vs, hr, q⟩ := run_results hT w' ha' hl q
    exact ⟨ha'.2.1.trans hds, _, hr, q⟩
  cases e with
  | normal => exact key q
  | ret => exact key q
  | panic ch =>
    simp only [retK] at q
    split at q <;> try (exact q.elim)
    rename_i hds
    exact ⟨ha'.2.1.trans hds, q⟩
  | exit i => exact q.elim
  | goto l => exact q.elim
  | outgrown => exact q.elim
omit T n in
theorem wp_loop_st {c : Code} {Q : Exit → Act → World → Prop} {a : Act} {w : World} {σ : Type} (I : σ → Act → World → Prop) (μ : σ → World → Nat) (s0 : σ) (h₀ : I s0 a w)
    (round : ∀ s a w, I s a w → c.wp P (Exit.then (fun a' w' => ∃ s', I s' a' w' ∧ μ s' w' < μ s w) Q) a w) : (Code.loop c).wp P Q a w := by
  intro b k cs
  have key : ∀ m s a w, μ s w = m → I s a w →
      ∃ e a' w', Q e a' w' ∧ Arrives P (lone (b.at a (.code c :: .inLoop c :: k)) cs w) b k cs e a' w' := by
    intro m
    induction m using Nat.strongRecOn with
    | _ m ih =>
      intro s a w hm hI
      obtain ⟨e, a₁, w₁, hq, harr⟩ := round s a w hI b (.inLoop c :: k) cs
      cases e with
      | normal =>
        obtain ⟨s', hI₁, hlt⟩ := hq
        obtain ⟨e₂, a₂, w₂, hq₂, harr₂⟩ := ih (μ s' w₁) (hm ▸ hlt) s' a₁ w₁ rfl hI₁
        exact ⟨e₂, a₂, w₂, hq₂, .of_steps (Steps.trans harr (.one step_inLoop)) harr₂⟩
      | exit id => exact ⟨_, a₁, w₁, hq, .pass (x := .inLoop c) rfl (fun _ _ => .inl (by simp)) harr⟩
      | goto l => exact ⟨_, a₁, w₁, hq, .pass (x := .inLoop c) rfl (fun _ _ => .inl (by simp)) harr⟩
      | ret => exact ⟨_, a₁, w₁, hq, .pass (x := .inLoop c) rfl (fun _ _ => .inl (by simp)) harr⟩
      | panic ch => exact ⟨_, a₁, w₁, hq, .pass (x := .inLoop c) rfl (fun _ _ => .inl (by simp)) harr⟩
      | outgrown => exact ⟨_, a₁, w₁, hq, .pass (x := .inLoop c) rfl (fun _ _ => .inl (by simp)) harr⟩
  obtain ⟨e, a', w', hq, harr⟩ := key _ s0 a w rfl h₀
  exact ⟨e, a', w', hq, .of_steps (.one step_loop) harr⟩
def Sub : Env → Fr → Prop
  | [], _ => True
  | (t, v) :: r, F => look F.env t = some v ∧ Sub r F
omit P T n in
theorem Sub.look {F : Fr} : ∀ {e : Env}, Sub e F → ∀ t v, Sh.look e t = some v → Sh.look F.env t = some v
  | [], _, t, v, h => by simp [Sh.look] at h
  | (d, u) :: r, hs, t, v, h => by
    simp only [Sh.look] at h
    split at h
    · rename_i he
      have := Nat.eq_of_beq_eq_true he
      subst this
      simp at h
      subst h
      exact hs.1
    · exact Sub.look hs.2 t v h
theorem Lp.go (hT : TabOk P T) {c : Code} {F : Fr} {w : World} {K : Exit → Fr → World → Prop} {σ : Type} (mk : σ → Env) (I : σ → World → Prop) (μ : σ → World → Nat)
    (s0 : σ) (h0 : Sub (mk s0) F) (hI : I s0 w)
    (round : ∀ s w, I s w → exC P T n c ⟨mk s, F.ds⟩ w fun e F' w' => match e with
      | .normal => ∃ s', Sub (mk s') F' ∧ F.ds = F'.ds ∧ I s' w' ∧ μ s' w' < μ s w
      | e => K e F' w') : Lp P n c F w K := by
  refine ⟨fun a ha => ?_⟩
  refine wp_loop_st (fun s a w => Agr n ⟨mk s, F.ds⟩ a ∧ I s w) μ s0 ⟨⟨ha.1, ha.2.1, fun t v h => ha.2.2 t v (h0.look t v h)⟩, hI⟩ fun s a w ⟨hA, hI⟩ => ?_
  refine wp_mono (exC_sound hT c _ _ w _ hA (round s w hI)) fun e a' w' q => ?_
  obtain ⟨F', ha', q⟩ := q
  cases e with
  | normal =>
    obtain ⟨s', h1, h2, h3, h4⟩ := q
    exact ⟨s', ⟨⟨ha'.1, ha'.2.1.trans h2.symm, fun t v h => ha'.2.2 t v (h1.look t v h)⟩, h3⟩, h4⟩
  | _ => exact ⟨F', ha', q⟩
theorem Lp.g0 (hT : TabOk P T) {c : Code} {F : Fr} {w : World} {K : Exit → Fr → World → Prop} {σ : Type} (mk : σ → Env) (I : σ → World → Prop) (μ : σ → World → Nat)
    (s0 : σ) (hds : F.ds = []) (h0 : Sub (mk s0) F) (hI : I s0 w)
    (round : ∀ s w, I s w → exC P T n c ⟨mk s, []⟩ w fun e F' w' => match e with
      | .normal => ∃ s', Sub (mk s') F' ∧ F'.ds = [] ∧ I s' w' ∧ μ s' w' < μ s w
      | e => K e F' w') : Lp P n c F w K := by
  refine ⟨fun a ha => ?_⟩
  refine wp_loop_st (fun s a w => Agr n ⟨mk s, []⟩ a ∧ I s w) μ s0 ⟨⟨ha.1, ha.2.1.trans hds, fun t v h => ha.2.2 t v (h0.look t v h)⟩, hI⟩ fun s a w ⟨hA, hI⟩ => ?_
  refine wp_mono (exC_sound hT c _ _ w _ hA (round s w hI)) fun e a' w' q => ?_
  obtain ⟨F', ha', q⟩ := q
  cases e with
  | normal =>
    obtain ⟨s', h1, h2, h3, h4⟩ := q
    exact ⟨s', ⟨⟨ha'.1, ha'.2.1.trans h2, fun t v h => ha'.2.2 t v (h1.look t v h)⟩, h3⟩, h4⟩
  | _ => exact ⟨F', ha', q⟩
end
end Go.Sh
namespace Go.Sh
open Go.RowKit
section
variable {X Y : Prop}
theorem Gd.t (h : X) : Gd true X Y := ⟨fun _ => h, fun e => by cases e⟩
theorem Gd.f (h : Y) : Gd false X Y := ⟨fun e => (by cases e), fun _ => h⟩
theorem Gd.dec {p : Prop} [Decidable p] (h1 : p → X) (h2 : ¬ p → Y) : Gd (decide p) X Y := ⟨fun e => h1 (of_decide_eq_true e), fun e => h2 (of_decide_eq_false e)⟩
theorem Gd.beq {α : Type} [BEq α] [LawfulBEq α] {a b : α} (h1 : a = b → X) (h2 : a ≠ b → Y) : Gd (a == b) X Y := ⟨fun e => h1 (eq_of_beq e), fun e => h2 (fun h => by subst h; simp at e)⟩
theorem Gd.bne {α : Type} [BEq α] [LawfulBEq α] {a b : α} (h1 : a ≠ b → X) (h2 : a = b → Y) : Gd (a != b) X Y :=
  ⟨fun e => h1 (bne_iff_ne.1 e), fun e => h2 (by simpa [bne] using e)⟩
theorem Gd.not {b : Bool} (h : Gd b Y X) : Gd (!b) X Y := ⟨fun e => h.2 (by simpa using e), fun e => h.1 (by simpa using e)⟩
theorem Gd.var {b : Bool} (h1 : b = true → X) (h2 : b = false → Y) : Gd b X Y := ⟨h1, h2⟩
end
theorem Sq.mk {x : (Exit → Fr → World → Prop) → Prop} {y : Fr → World → Prop} {K : Exit → Fr → World → Prop}
    (h : x fun e F w => match e with | .normal => y F w | e => K e F w) : Sq x y K := ⟨h⟩
theorem at_int {F : Fr} {t : Nat} {k : IntKind} {n m : Int} (h : look F.env t = some (.int k n)) (e : n = m) : look F.env t = some (.int k m) := e ▸ h
theorem at_val {F : Fr} {t : Nat} {u v : Value} (h : look F.env t = some u) (e : u = v) : look F.env t = some v := e ▸ h
theorem b_eq {a b : Bool} (h : a = b) : Value.bool a = .bool b := by rw [h]
theorem i_eq {k : IntKind} {a b : Int} (h : a = b) : Value.int k a = .int k b := by rw [h]
theorem block_add (a : Addr) (n : Nat) : (a.add n).block = a.block := by unfold Addr.add; split <;> rfl
theorem add_add (a : Addr) (i j : Nat) : (a.add i).add j = a.add (i + j) := by
  unfold Addr.add
  by_cases hi : i = 0 <;> by_cases hj : j = 0 <;> simp [hi, hj, Nat.add_assoc]
theorem pAdd_add (a : Addr) (i j : Nat) : pAdd (a.add i) j = a.add (i + j) := by rw [pAdd_eq, add_add]
def Blk (w : World) (b : Nat) (t : TypeId) (vs : List Value) : Prop := w.heap[b]? = some (.cells vs.toArray t (0, 0))
def Ext (w w' : World) : Prop := Below w.heap.size w w'
section
variable {w w' w'' : World} {b : Nat} {t : TypeId} {vs : List Value}
theorem Ext.refl (w : World) : Ext w w := Below.refl _ _
theorem Ext.trans (h : Ext w w') (k : Ext w' w'') : Ext w w'' := Below.trans h (Below.mono k h.size)
theorem Ext.below {B : Nat} {w0 : World} (h : Below B w0 w) (k : Ext w w') (hB : B ≤ w.heap.size) : Below B w0 w' := h.trans (Below.mono k hB)
theorem Ext.size (h : Ext w w') : w.heap.size ≤ w'.heap.size := Below.size h
theorem Blk.lt (h : Blk w b t vs) : b < w.heap.size := by
  unfold Blk at h
  exact (Array.getElem?_eq_some_iff.1 h).1
theorem Blk.ext (h : Blk w b t vs) (e : Ext w w') : Blk w' b t vs := (Below.block e b h.lt).trans h
theorem Blk.from (e : Ext w w') (h : Blk w b t vs) : Blk w' b t vs := h.ext e
theorem Ext.from (e : Ext w' w'') (h : Ext w w') : Ext w w'' := h.trans e
theorem Blk.below {B : Nat} (h : Blk w b t vs) (e : Below B w w') (hb : b < B) : Blk w' b t vs := (Below.block e b hb).trans h
theorem Blk.cell (h : Blk w b t vs) (i : Nat) : w.cell? ⟨b, i, none⟩ = vs[i]? := by
  unfold Blk at h
  simp [World.cell?, h]
theorem Blk.frozen (h : Blk w b t vs) (p : Addr) (hp : p.block = b) : w.frozen? p = false := by
  unfold Blk at h
  simp [World.frozen?, hp, h]
theorem Ext.alloc (w : World) (o : Obj) : Ext w (w.alloc o) := Below.alloc (Below.refl _ w) (Nat.le_refl _) o
theorem Al.mk {cs : List Value} {k : Nat → World → Prop} (h : ∀ p w', w.heap.size = p → Blk w' p t cs → Ext w w' → w'.heap.size = p + 1 → k p w') : Al cs t w k := by
  refine ⟨h _ _ rfl ?_ (Ext.alloc w _) ?_⟩
  · unfold Blk
    show (w.heap.push _)[w.heap.size]? = _
    simp
  · show (w.heap.push _).size = _
    simp
theorem add_lit (b o n : Nat) : (⟨b, o, none⟩ : Addr).add n = ⟨b, o + n, none⟩ := by unfold Addr.add; split <;> simp_all
theorem Ld.blk {o m : Nat} {k : List Value → Prop} (h : Blk w b t vs) (hm : ((vs.drop o).take m).length = m) (hk : k ((vs.drop o).take m)) : Ld w ⟨b, o, none⟩ m k := by
  refine ⟨_, hm, fun i v hv => ?_, hk⟩
  rw [add_lit, h.cell]
  have : i < m := by have := (List.getElem?_eq_some_iff.1 hv).1; omega
  rw [List.getElem?_take_of_lt this, List.getElem?_drop] at hv
  exact hv
theorem Ld1.blk {o : Nat} {v : Value} {k : Value → Prop} (h : Blk w b t vs) (hv : vs[o]? = some v) (hk : k v) : Ld1 w ⟨b, o, none⟩ k := ⟨v, (h.cell o).trans hv, hk⟩
def putL (cs : List Value) (o : Nat) (vs : List Value) : List Value := cs.take o ++ vs ++ cs.drop (o + vs.length)
structure Upd (b : Nat) (w w' : World) : Prop where
  os : w'.os = w.os
  tape : w'.tape = w.tape
  output : w'.output = w.output
  size : w'.heap.size = w.heap.size
  block : ∀ k, k ≠ b → w'.heap[k]? = w.heap[k]?
theorem setCells_heap (p : Addr) : ∀ (vs : List Value) (i : Nat) (w : World), Upd p.block w (setCells w p vs i)
  | [], _, w => ⟨rfl, rfl, rfl, rfl, fun _ _ => rfl⟩
  | v :: r, i, w => by
    have ih := setCells_heap p r (i + 1) (w.setCell (p.add i) v)
    refine ⟨ih.os, ih.tape, ih.output, ih.size.trans (by simp [World.setCell]), fun k hk => (ih.block k hk).trans (Below.heap_setCell _ _ _ _ (by rw [block_add]; exact hk))⟩
theorem setCells_blk {b o : Nat} {t : TypeId} : ∀ (vs cs : List Value) (i : Nat) (w : World), Blk w b t cs → o + i + vs.length ≤ cs.length →
    Blk (setCells w ⟨b, o, none⟩ vs i) b t (putL cs (o + i) vs)
  | [], cs, i, w, h, _ => by simpa [setCells, putL] using h
  | v :: r, cs, i, w, h, hl => by
    have h1 : Blk (w.setCell ((⟨b, o, none⟩ : Addr).add i) v) b t (cs.set (o + i) v) := by
      rw [add_lit]
      unfold Blk at h ⊢
      simp [World.setCell, Array.getElem?_modify, h]
    have ih := setCells_blk (o := o) r (cs.set (o + i) v) (i + 1) _ h1 (by simp at hl ⊢; omega)
    simp only [setCells]
    have e : putL (cs.set (o + i) v) (o + (i + 1)) r = putL cs (o + i) (v :: r) := by
      simp only [List.length_cons] at hl
      unfold putL
      have e1 : (cs.set (o + i) v).take (o + (i + 1)) = cs.take (o + i) ++ [v] := by
        rw [show o + (i + 1) = o + i + 1 by omega, List.take_succ_eq_append_getElem (by simp; omega), List.take_set_of_le (Nat.le_refl _)]
        simp
      have e2 : (cs.set (o + i) v).drop (o + (i + 1) + r.length) = cs.drop (o + (i + 1) + r.length) := List.drop_set_of_lt (by omega)
      rw [e1, e2, show o + i + (v :: r).length = o + (i + 1) + r.length by simp; omega]
      simp
    rw [e] at ih
    exact ih
theorem St.upd {b o : Nat} {t : TypeId} {cs vs : List Value} {w : World} {k : World → Prop} (h : Blk w b t cs) (hl : Nat.ble (o + vs.length) cs.length = true) (h1 : vs.all Value.oneCell' = true)
    (hk : ∀ w', Upd b w w' → Blk w' b t (putL cs o vs) → k w') : St w ⟨b, o, none⟩ vs k := by
  have hl := Nat.le_of_ble_eq_true hl
  refine ⟨List.all_eq_true.1 h1, fun i hi => ⟨?_, h.frozen _ (by rw [block_add])⟩, hk _ (setCells_heap ⟨b, o, none⟩ vs 0 w) (setCells_blk (o := o) vs cs 0 w h (by omega))⟩
  rw [add_lit, h.cell]
  exact ⟨cs[o + i]'(by omega), List.getElem?_eq_getElem (by omega)⟩
theorem Ext.upd {w0 w w' : World} {b : Nat} (e : Ext w0 w) (u : Upd b w w') (hb : w0.heap.size ≤ b) : Ext w0 w' :=
  Below.trans e ⟨u.os, u.tape, u.output, by rw [u.size]; exact Nat.le_refl _, fun k hk => u.block k (by omega)⟩
theorem Blk.upd {w w' : World} {b b' : Nat} {t : TypeId} {cs : List Value} (h : Blk w b' t cs) (u : Upd b w w') (hne : b' ≠ b) : Blk w' b' t cs := (u.block b' hne).trans h
theorem St.new {b o : Nat} {t : TypeId} {cs vs : List Value} {w0 w : World} {k : World → Prop} (e : Ext w0 w) (hp : w0.heap.size = b) (h : Blk w b t cs) (hl : Nat.ble (o + vs.length) cs.length = true)
    (h1 : vs.all Value.oneCell' = true) (hk : ∀ w', Ext w0 w' → Blk w' b t (putL cs o vs) → w'.heap.size = w.heap.size → k w') : St w ⟨b, o, none⟩ vs k :=
  St.upd h hl h1 fun w' u hb => hk w' (e.upd u (by omega)) hb u.size
structure Rd {α : Type} (R : World → α → List Value → Prop) (sz : Nat) (w : World) (B : Nat) (A : Option Addr) (l : List α) : Prop where
  some : l ≠ [] → A ≠ none ∧ (gA A).block < B
  at_ : ∀ i x, l[i]? = Option.some x → ∃ vs, vs.length = sz ∧ R w x vs ∧ ∀ j v, vs[j]? = Option.some v → w.cell? ((gA A).add (i * sz + j)) = Option.some v
def Fl {α : Type} (enc : α → List Value) : World → α → List Value → Prop := fun _ x vs => vs = enc x
variable {α : Type} {R : World → α → List Value → Prop} {sz B : Nat} {A : Option Addr} {l : List α}
theorem Ix.rd {i : Int} {k : Addr → Prop} (h : Rd R sz w B A l) (h0 : 0 ≤ i) (h1 : i < (l.length : Int)) (hk : k ((gA A).add (i.toNat * sz))) : Ix A l.length i sz k :=
  ⟨(h.some (fun e => by subst e; simp at h1; omega)).1, h0, h1, hk⟩
theorem Ix.rdN {i : Nat} {k : Addr → Prop} (h : Rd R sz w B A l) (h1 : i < l.length) (hk : k ((gA A).add (i * sz))) : Ix A l.length (i : Int) sz k :=
  Ix.rd h (by omega) (by omega) (by simpa using hk)
theorem Ld.rd {enc : α → List Value} {i : Nat} {x : α} {k : List Value → Prop} (h : Rd (Fl enc) sz w B A l) (hx : l[i]? = some x) (hk : k (enc x)) : Ld w ((gA A).add (i * sz)) sz k := by
  obtain ⟨vs, h1, h2, h3⟩ := h.at_ i x hx
  unfold Fl at h2
  subst h2
  exact ⟨enc x, h1, fun j v hv => by rw [add_add]; exact h3 j v hv, hk⟩
theorem Ld1.rd {enc : α → List Value} {i : Nat} {x : α} {v : Value} {k : Value → Prop} (h : Rd (Fl enc) 1 w B A l) (hx : l[i]? = some x) (hv : (enc x)[0]? = some v) (hk : k v) : Ld1 w ((gA A).add (i * 1)) k := by
  obtain ⟨vs, h1, h2, h3⟩ := h.at_ i x hx
  unfold Fl at h2
  subst h2
  exact ⟨v, by simpa using h3 0 v hv, hk⟩
theorem Ld1.rdF {enc : α → List Value} {i o : Nat} {x : α} {v : Value} {k : Value → Prop} (h : Rd (Fl enc) sz w B A l) (hx : l[i]? = some x) (hv : (enc x)[o]? = some v) (hk : k v) : Ld1 w (pAdd ((gA A).add (i * sz)) o) k := by
  obtain ⟨vs, h1, h2, h3⟩ := h.at_ i x hx
  unfold Fl at h2
  subst h2
  exact ⟨v, by rw [pAdd_add]; exact h3 o v hv, hk⟩
theorem Rd.mono' {R' : World → α → List Value → Prop} (h : Rd R sz w B A l) (e : Below B w w') (hR : ∀ x vs, R w x vs → R' w' x vs) : Rd R' sz w' B A l := by
  refine ⟨h.some, fun i x hx => ?_⟩
  obtain ⟨vs, h1, h2, h3⟩ := h.at_ i x hx
  refine ⟨vs, h1, hR x vs h2, fun j v hv => ?_⟩
  have hb := (h.some (fun e => by subst e; simp at hx)).2
  rw [Below.cell e (by rw [block_add]; exact hb)]
  exact h3 j v hv
theorem Rd.below {enc : α → List Value} (h : Rd (Fl enc) sz w B A l) (e : Below B w w') : Rd (Fl enc) sz w' B A l := h.mono' e fun _ _ q => q
theorem Rd.more {B' : Nat} (h : Rd R sz w B A l) (hB : B ≤ B') : Rd R sz w B' A l :=
  ⟨fun hn => by have := h.some hn; exact ⟨this.1, by omega⟩, h.at_⟩
theorem Rd.ext {enc : α → List Value} (h : Rd (Fl enc) sz w B A l) (e : Ext w w') (hB : B ≤ w.heap.size) : Rd (Fl enc) sz w' B A l := h.below (Below.mono e hB)
theorem Rd.nil : Rd R sz w B A ([] : List α) := ⟨fun h => absurd rfl h, fun i x h => by simp at h⟩
end
section
variable {w w' : World} {α : Type} {enc : α → List Value} {sz : Nat} {A : Option Addr} {l : List α}
def RdS (enc : α → List Value) (sz : Nat) (w : World) (A : Option Addr) (l : List α) : Prop := Rd (Fl enc) sz w w.heap.size A l
theorem RdS.nil : RdS enc sz w A ([] : List α) := Rd.nil
theorem RdS.from (e : Ext w w') (h : RdS enc sz w A l) : RdS enc sz w' A l := (Rd.ext h e (Nat.le_refl _)).more e.size
theorem Ix.rs {n : Int} {i : Nat} {k : Addr → Prop} (h : RdS enc sz w A l) (e : n = (i : Int)) (h1 : i < l.length) (hk : k ((gA A).add (i * sz))) : Ix A l.length n sz k := by
  subst e; exact Ix.rdN h h1 hk
theorem Ix.arr {len : Nat} {n : Int} {i : Nat} {k : Addr → Prop} (h : RdS enc sz w A l) (hl : l.length = len) (e : n = (i : Int)) (h1 : i < l.length) (hk : k ((gA A).add (i * sz))) : Ix A len n sz k := by
  subst e hl; exact Ix.rdN h h1 hk
theorem Ld.rs {i : Nat} {x : α} {k : List Value → Prop} (h : RdS enc sz w A l) (hx : l[i]? = some x) (hk : k (enc x)) : Ld w ((gA A).add (i * sz)) sz k := Ld.rd h hx hk
theorem Ld1.rs {i : Nat} {x : α} {v : Value} {k : Value → Prop} (h : RdS enc 1 w A l) (hx : l[i]? = some x) (hv : (enc x)[0]? = some v) (hk : k v) : Ld1 w ((gA A).add (i * 1)) k := Ld1.rd h hx hv hk
theorem Ld1.rsF {i o : Nat} {x : α} {v : Value} {k : Value → Prop} (h : RdS enc sz w A l) (hx : l[i]? = some x) (hv : (enc x)[o]? = some v) (hk : k v) : Ld1 w (pAdd ((gA A).add (i * sz)) o) k := Ld1.rdF h hx hv hk
end
theorem Cl.mk {P : Program} {f : Nat} {args : Array Value} {w : World} {R k : Value → World → Prop} {X : List PanicEntry → World → Prop} (h : Cl P f args w R (fun _ _ => False)) (hk : ∀ v w', R v w' → k v w') : Cl P f args w k X :=
  ⟨Calls.mono h.out fun e w' q => by
    cases e with
    | returned v => exact hk v w' q
    | panicked ch => exact q.elim
    | outgrown => exact q.elim⟩
theorem Cl.mkX {P : Program} {f : Nat} {args : Array Value} {w : World} {R k : Value → World → Prop} {X X' : List PanicEntry → World → Prop} (h : Cl P f args w R X') (hk : ∀ v w', R v w' → k v w') (hX : ∀ ch w', X' ch w' → X ch w') : Cl P f args w k X :=
  ⟨Calls.mono h.out fun e w' q => by
    cases e with
    | returned v => exact hk v w' q
    | panicked ch => exact hX ch w' q
    | outgrown => exact q.elim⟩
theorem w64 {n m : Int} (h : n = m) (lo : -9223372036854775808 ≤ m) (hi : m ≤ 9223372036854775807) : IntKind.i64.wrap n = m := by
  subst h
  exact IntWalk.i64_in n ⟨lo, hi⟩
end Go.Sh
namespace Go.Sh
open Go.RowKit
inductive QLd (W : World → Prop) (p : Addr) (m : Nat) (k : List Value → Prop) : Prop where
  | intro (vs : List Value) (h1 : ∀ w', W w' → vs.length = m ∧ ∀ i v, vs[i]? = some v → w'.cell? (p.add i) = some v) (h2 : k vs)
inductive QLd1 (W : World → Prop) (p : Addr) (k : Value → Prop) : Prop where
  | intro (v : Value) (h1 : ∀ w', W w' → w'.cell? p = some v) (h2 : k v)
inductive QSm (P : Program) (s : Sem Value) (W : World → Prop) (k : Value → Prop) : Prop where
  | intro (v : Value) (h1 : ∀ w', W w' → s.run P w' = .ok v w') (h2 : k v)
inductive QCl (P : Program) (f : Nat) (args : Array Value) (W : World → Prop) (Rl : World → World → Prop) (k : Value → Prop) : Prop where
  | intro (v : Value) (h1 : ∀ w', W w' → Cl P f args w' (fun u w'' => u = v ∧ Rl w' w'') (fun _ _ => False)) (h2 : k v)
section
variable (P : Program) (T : Tab) (n : Nat) (W : World → Prop) (Rl : World → World → Prop)
def quOp (ev : Operand → Option Value) (o : Oper) (k : Value → Prop) : Prop :=
  match pu T.ts ev o.op with
  | some v => k v
  | none => match o.op with
    | .pick c a b => obp (ev c) fun vc => obp (ev a) fun va => obp (ev b) fun vb => match vc with | .bool t => Gd t (k va) (k vb) | _ => False
    | .load t a => obp (ev a) fun va => match va with
      | .pointer (some p) => match getT T.ts t with
        | none => False
        | some i => match aggD i.desc with
          | true => QLd W p i.size fun vs => k (.agg vs.toArray)
          | false => QLd1 W p fun v => k v
      | _ => False
    | .indexAddr t x i => obp (ev x) fun vx => obp (ev i) fun vi => match vi with
      | .int _ m => match getT T.ts t with
        | none => False
        | some ti => match ti.desc with
          | .slice e => match getT T.ts e with
            | none => False
            | some ei => match vx with | .slice A len _ => Ix A len m ei.size fun ad => k (.pointer (some ad)) | _ => False
          | .array len e => match getT T.ts e with
            | none => False
            | some ei => match vx with | .pointer (some p) => Ix (some p) len m ei.size fun ad => k (.pointer (some ad)) | _ => False
          | _ => False
      | _ => False
    | .index t x i => obp (ev x) fun vx => obp (ev i) fun vi => QSm P (Instr.index t vx vi) W k
    | .slice t x lo hi mx => obp (ev x) fun vx => obo (optL ev lo) fun a => obo (optL ev hi) fun b => obo (optL ev mx) fun c => QSm P (Instr.sliceAt t vx a b c) W k
    | .binOp b t x y _ => obp (ev x) fun vx => obp (ev y) fun vy => QSm P (do eqGuard b t x y vx vy; binOp b t vx vy) W k
    | .lookup t x i ok => obp (ev x) fun vx => obp (ev i) fun vi => QSm P (Instr.lookup t vx vi ok) W k
    | .typeAssert x t u ok => obp (ev x) fun vx => QSm P (Instr.typeAssert vx t u ok) W k
    | .call c => alo (allSome (c.args.toList.map ev)) fun args => match c.callee with
      | .value f => obp (ev f) fun vf => match vf with
        | .func fn first cap => match fn with
          | .func g => match memN T.fs g with
            | true => QCl P g (cat (first.toList ++ args) cap.toList).toArray W Rl k
            | false => False
          | _ => False
        | _ => False
      | .builtin b => match b with
        | .len => QSm P (Builtin.len_ c.argTypes o.type args.toArray) W k
        | .cap => QSm P (Builtin.cap_ c.argTypes o.type args.toArray) W k
        | _ => False
      | _ => False
    | _ => False
def tmpsOf (o : Oper) : List Nat := o.op.operands.toList.filterMap fun x => match x with | .tmp t => some t | _ => none
def evR (o : Oper) (F : Fr) : Operand → Option Value := fun x => match x with
  | .tmp t => match memN (tmpsOf o) t with | true => look F.env t | false => none
  | .const v => some v
  | .global g => some (.pointer (some ⟨g, 0, none⟩))
  | .func f => some (.func (.func f) #[] #[])
def stepQu (all : List Oper) (o : Oper) (_r : List Oper) (ih : Fr → (Fr → Prop) → Prop) (F : Fr) (k : Fr → Prop) : Prop :=
    match dstOk n o.dst with
    | false => False
    | true => match o.guard with
      | none => quOp P T W Rl (evR o F) o (fun v => ih (F.put o.dst v) k)
      | some (j, want) => match guardV all F j with
        | none => False
        | some (d, v) => match v with
          | .bool b => match want with
            | true => Gd b (quOp P T W Rl (evR o (F.put (some d) (.bool true))) o (fun v => ih ((F.put (some d) (.bool true)).put o.dst v) k)) (ih ((F.put (some d) (.bool false)).put o.dst undef) k)
            | false => Gd b (ih ((F.put (some d) (.bool true)).put o.dst undef) k) (quOp P T W Rl (evR o (F.put (some d) (.bool false))) o (fun v => ih ((F.put (some d) (.bool false)).put o.dst v) k))
          | .tuple _ => ih (F.put o.dst undef) k
          | _ => False
def quOps (all : List Oper) (l : List Oper) : Fr → (Fr → Prop) → Prop :=
  List.rec (motive := fun _ => Fr → (Fr → Prop) → Prop) (fun F k => k F) (stepQu P T n W Rl all) l
variable {P T n W Rl}
section sound
variable (hT : TabOk P T)
def RunQ (P : Program) (W : World → Prop) (Rl : World → World → Prop) (ev : Operand → Option Value) (o : Oper) (v : Value) : Prop :=
  ∀ a : Act, (∀ x u, ev x = some u → a.eval x = u) → ∀ w, W w → (execOp a.eval o).run P w = Result.ok (.value v) w ∨
    ∃ f args, (execOp a.eval o).run P w = Result.ok (.enter f args) w ∧ Cl P f args w (fun u w'' => u = v ∧ Rl w w'') (fun _ _ => False)
theorem runq_val {ev : Operand → Option Value} {o : Oper} {v : Value} {k : Value → Prop} (hr : ∀ a : Act, (∀ x u, ev x = some u → a.eval x = u) → ∀ w, W w → (execOp a.eval o).run P w = Result.ok (.value v) w) (h : k v) : ∃ v, k v ∧ RunQ P W Rl ev o v :=
  ⟨v, h, fun a hev w hw => .inl (hr a hev w hw)⟩
theorem runq_sm {ev : Operand → Option Value} {o : Oper} {s : Sem Value} {k : Value → Prop} (hr : ∀ a : Act, (∀ x u, ev x = some u → a.eval x = u) → execOp a.eval o = (do pure (.value (← s)))) (h : QSm P s W k) : ∃ v, k v ∧ RunQ P W Rl ev o v := by
  obtain ⟨v, h1, h2⟩ := h
  exact ⟨v, h2, fun a hev w hw => .inl (by rw [hr a hev]; simp [h1 w hw])⟩
include hT in
theorem quOp_run {ev : Operand → Option Value} {o : Oper} {k : Value → Prop} (h : quOp P T W Rl ev o k) : ∃ v, k v ∧ RunQ P W Rl ev o v := by
  unfold quOp at h
  split at h
  · rename_i v hv
    exact runq_val (fun a hev w _ => pu_sound hT.1 w hev hv) h
  · rename_i hnone; clear hnone
    split at h
    · -- pick
      rename_i c x y e
      replace h := obp_some h; obtain ⟨vc, hc, h⟩ := h
      replace h := obp_some h; obtain ⟨vx, hx, h⟩ := h
      replace h := obp_some h; obtain ⟨vy, hy, h⟩ := h
      split at h <;> try (exact h.elim)
      rename_i t
      cases t
      · exact runq_val (v := vy) (fun a hev w _ => by unfold execOp; simp [e, hev _ _ hc, hev _ _ hx, hev _ _ hy, asBool]) (h.2 rfl)
      · exact runq_val (v := vx) (fun a hev w _ => by unfold execOp; simp [e, hev _ _ hc, hev _ _ hx, hev _ _ hy, asBool]) (h.1 rfl)
    · -- load
      rename_i t x e
      replace h := obp_some h; obtain ⟨v, hx, h⟩ := h
      split at h <;> try (exact h.elim)
      rename_i p
      split at h <;> try (exact h.elim)
      rename_i i hi
      split at h
      · rename_i hag
        obtain ⟨vs, hc, h⟩ := h
        refine runq_val (v := .agg vs.toArray) (fun a hev w hw => ?_) h
        have := run_loadCells_list (P := P) w p vs (hc w hw).2
        rw [(hc w hw).1] at this
        unfold execOp
        simp [e, hev _ _ hx, Instr.loadAt, Instr.sureAddr, loadVar, run_isAgg hT.1 w hi, hag, run_size hT.1 hi, this]
      · rename_i hag
        obtain ⟨u, hu, h⟩ := h
        refine runq_val (v := u) (fun a hev w hw => ?_) h
        unfold execOp
        simp [e, hev _ _ hx, Instr.loadAt, Instr.sureAddr, loadVar, run_isAgg hT.1 w hi, hag, hu w hw]
    · -- indexAddr
      rename_i t x y e
      replace h := obp_some h; obtain ⟨v, hx, h⟩ := h
      replace h := obp_some h; obtain ⟨u, hy, h⟩ := h
      split at h <;> try (exact h.elim)
      rename_i kk n
      split at h <;> try (exact h.elim)
      rename_i ti hti
      split at h
      · rename_i el hd
        split at h <;> try (exact h.elim)
        rename_i ei hei
        split at h <;> try (exact h.elim)
        rename_i A len cap
        obtain ⟨hn, h0, h1, h⟩ := h
        obtain ⟨ad, rfl⟩ : ∃ ad, A = some ad := Option.ne_none_iff_exists'.1 hn
        simp only [gA] at h
        refine runq_val (v := .pointer (some (ad.add (n.toNat * ei.size)))) (fun a hev w hw => ?_) h
        unfold execOp
        simp [e, hev _ _ hx, hev _ _ hy, Instr.indexAt, asIntOf, run_und hT.1 hti, hd, h0, h1, run_size hT.1 hei]
      · rename_i len el hd
        split at h <;> try (exact h.elim)
        rename_i ei hei
        split at h <;> try (exact h.elim)
        rename_i p
        obtain ⟨_, h0, h1, h⟩ := h
        simp only [gA] at h
        refine runq_val (v := .pointer (some (p.add (n.toNat * ei.size)))) (fun a hev w hw => ?_) h
        unfold execOp
        simp [e, hev _ _ hx, hev _ _ hy, Instr.indexAt, asIntOf, run_und hT.1 hti, hd, h0, h1, run_size hT.1 hei, Instr.sureAddr]
      · exact h.elim
    · rename_i t x y e
      replace h := obp_some h; obtain ⟨v0, h0, h⟩ := h
      replace h := obp_some h; obtain ⟨v1, h1, h⟩ := h
      exact runq_sm (fun a hev => by unfold execOp; simp only [e, hev _ _ h0, hev _ _ h1]) h
    · rename_i t x lo hi mx e
      replace h := obp_some h; obtain ⟨v0, h0, h⟩ := h
      replace h := obo_some h; obtain ⟨v1, h1, h⟩ := h
      replace h := obo_some h; obtain ⟨v2, h2, h⟩ := h
      replace h := obo_some h; obtain ⟨v3, h3, h⟩ := h
      exact runq_sm (fun a hev => by unfold execOp; simp only [e, hev _ _ h0, optL_ev hev h1, optL_ev hev h2, optL_ev hev h3]) h
    · rename_i b t x y yt e
      replace h := obp_some h; obtain ⟨v0, h0, h⟩ := h
      replace h := obp_some h; obtain ⟨v1, h1, h⟩ := h
      exact runq_sm (fun a hev => by unfold execOp; simp only [e, hev _ _ h0, hev _ _ h1]) h
    · rename_i t x i ok e
      replace h := obp_some h; obtain ⟨v0, h0, h⟩ := h
      replace h := obp_some h; obtain ⟨v1, h1, h⟩ := h
      exact runq_sm (fun a hev => by unfold execOp; simp only [e, hev _ _ h0, hev _ _ h1]) h
    · rename_i x t u ok e
      replace h := obp_some h; obtain ⟨v0, h0, h⟩ := h
      exact runq_sm (fun a hev => by unfold execOp; simp only [e, hev _ _ h0]) h
    · -- call
      rename_i c e
      replace h := alo_some h; obtain ⟨args, hargs, h⟩ := h
      split at h
      · rename_i f hc
        replace h := obp_some h; obtain ⟨vf, hf, h⟩ := h
        split at h <;> try (exact h.elim)
        rename_i fn first cap
        split at h <;> try (exact h.elim)
        rename_i g
        split at h <;> try (exact h.elim)
        rename_i hg
        obtain ⟨fun_, h1, h2, h3⟩ := hT.2.get hg
        have hcat : (cat (first.toList ++ args) cap.toList).toArray = first ++ args.toArray ++ cap := by
          obtain ⟨fl⟩ := first; obtain ⟨cl⟩ := cap
          cases cl <;> simp [cat]
        obtain ⟨v, hq, h⟩ := h
        refine ⟨v, h, fun a hev w hw => .inr ⟨_, _, ?_, hq w hw⟩⟩
        have ha := map_ev hev hargs
        have hrun : (execOp a.eval o).run P w = Result.ok (.enter g (cat (first.toList ++ args) cap.toList).toArray) w := by
          unfold execOp
          have h2' : fun_.name ≠ "runtime.NumGoroutine" := by simpa using h2
          have h3' : fun_.body ≠ none := by intro hn; simp [hn] at h3
          simp only [e, resolve, hc, hev _ _ hf, Deferred.ofValue, ha, hcat]
          simp [invoke, callFunc, h1, h2', h3']
        exact hrun
      · rename_i b hc
        split at h
        · exact runq_sm (fun a hev => by unfold execOp; simp only [e, resolve, hc, map_ev hev hargs, pure_bind, invoke, builtin]) h
        · exact runq_sm (fun a hev => by unfold execOp; simp only [e, resolve, hc, map_ev hev hargs, pure_bind, invoke, builtin]) h
        · exact h.elim
      · exact h.elim
    · exact h.elim
include hT in
theorem quOp_sound {a : Act} {ev : Operand → Option Value} (hcl : ∀ a b, W a → Rl a b → W b) (hev : ∀ x v, ev x = some v → a.eval x = v) {o : Oper} {k : Value → Prop} {next : Act → Prop} (h : quOp P T W Rl ev o k) (hk : ∀ v, k v → next (a.put o.dst v)) : o.quiet P a W next := by
  obtain ⟨v, hv, hr⟩ := quOp_run hT h
  refine ⟨v, fun w hw => ?_, hk v hv⟩
  unfold Oper.quietAt
  rcases hr a hev w hw with e | ⟨f, args, e, hc⟩
  · rw [e]; exact ⟨rfl, rfl⟩
  · rw [e]
    refine ⟨rfl, Calls.mono hc.out fun e w' q => ?_⟩
    cases e with
    | returned u => exact ⟨by rw [q.1], hcl _ _ hw q.2⟩
    | panicked ch => exact q.elim
    | outgrown => exact q.elim
theorem evR_evF {o : Oper} {F : Fr} {x : Operand} {v : Value} (h : evR o F x = some v) : evF F x = some v := by
  cases x with
  | tmp t =>
    simp only [evR] at h
    split at h
    · exact h
    · simp at h
  | _ => exact h
theorem quOps_sound (hT : TabOk P T) (hcl : ∀ a b, W a → Rl a b → W b) (all : List Oper) {Q : Act → Prop} : ∀ (l : List Oper) (F : Fr) (a : Act) (k : Fr → Prop),
    Agr n F a → quOps P T n W Rl all l F k → (∀ F a, Agr n F a → k F → Q a) → wpQuiet P all.toArray W Q l a
  | [], F, a, k, ha, h, hk => hk _ _ ha h
  | o :: r, F, a, k, ha, h, hk => by
    have ih := quOps_sound hT hcl all (Q := Q) r
    change stepQu P T n W Rl all o r (quOps P T n W Rl all r) F k at h
    unfold stepQu at h
    split at h; · exact h.elim
    rename_i hd
    unfold wpQuiet
    split at h
    · rename_i hg
      rw [if_pos (wanted_none hg)]
      exact quOp_sound hT hcl (fun x v h => ha.ev x v (evR_evF h)) h fun v q => ih _ _ k (ha.put hd v) q hk
    · rename_i j want hg
      split at h; · exact h.elim
      rename_i d v hgv
      obtain ⟨hl, hy⟩ := guard_yield ha hgv
      split at h
      · rename_i b
        simp only at hy
        split at h
        · cases b
          · rw [if_neg (by simp [Region.wanted, hg, hy])]
            exact ih _ _ k ((ha.same hl).put hd _) (h.2 rfl) hk
          · rw [if_pos (by simp [Region.wanted, hg, hy])]
            exact quOp_sound hT hcl (fun x v h => (ha.same hl).ev x v (evR_evF h)) (h.1 rfl) fun v q => ih _ _ k ((ha.same hl).put hd v) q hk
        · cases b
          · rw [if_pos (by simp [Region.wanted, hg, hy])]
            exact quOp_sound hT hcl (fun x v h => (ha.same hl).ev x v (evR_evF h)) (h.2 rfl) fun v q => ih _ _ k ((ha.same hl).put hd v) q hk
          · rw [if_neg (by simp [Region.wanted, hg, hy])]
            exact ih _ _ k ((ha.same hl).put hd _) (h.1 rfl) hk
      · simp only at hy
        rw [if_neg (by simp [Region.wanted, hg, hy])]
        exact ih _ _ k (ha.put hd _) h hk
      · exact h.elim
end sound
theorem quiet_still {w : World} {o : Oper} {a : Act} {K : Act → Prop} (h : o.quiet P a (fun w' => w' = w) K) : o.still P a w K := by
  obtain ⟨v, h1, h2⟩ := h
  have h3 := h1 w rfl
  unfold Oper.quietAt at h3
  unfold Oper.still
  generalize (execOp a.eval o).run P w = r at *
  cases r with
  | ok n w' =>
    cases n <;> simp only [Oper.quietUpon] at h3 <;> simp only [Oper.stillUpon]
    case value u => obtain ⟨e1, e2⟩ := h3; subst e2; exact ⟨e1, h2⟩
    case skip => obtain ⟨e1, e2⟩ := h3; subst e2; exact ⟨e1, h2⟩
    case enter f args =>
      obtain ⟨e1, hc⟩ := h3
      exact ⟨e1, v, hc, h2⟩
  | halt x w' => simp only [Oper.quietUpon] at h3
theorem wpQuiet_still {w : World} {ops : Array Oper} {Q : Act → Prop} : ∀ (l : List Oper) (a : Act), wpQuiet P ops (fun w' => w' = w) Q l a → wpStill P ops w Q l a
  | [], a, h => h
  | o :: r, a, h => by
    unfold wpQuiet at h
    unfold wpStill
    split
    · rename_i hw
      rw [if_pos hw] at h
      exact quiet_still (Oper.quiet_mono (fun a q => wpQuiet_still r a q) h)
    · rename_i hw
      rw [if_neg hw] at h
      exact wpQuiet_still r _ h
def QW (W : World → Prop) (w : World) (Rl : World → World → Prop) : Prop := (∀ w', W w' → Ext w w') ∧ (∀ a b, W a → Rl a b → W b)
theorem Dr.quiet (hT : TabOk P T) (hm : P.follows .mixedOrders = true) {id : Nat} {ops : Array Oper} {F : Fr} {w : World} {K : Exit → Fr → World → Prop} (hB : Region.lexB .any ops = true)
    (h : ∀ W, QW W w Ext → quOps P T n W Ext ops.toList ops.toList F (fun F' => ∀ w', Ext w w' → K .normal F' w')) : Dr P n id ops F w K := by
  refine ⟨fun a ha => ?_⟩
  refine wp_region_quiet (C := fun w' => Ext w w') hm hB ⟨rfl, rfl, rfl, Nat.le_refl _, fun _ _ => rfl⟩ ?_
  exact quOps_sound hT (fun a b q r => Ext.trans q r) ops.toList ops.toList F a _ ha (h _ ⟨fun _ q => q, fun a b q r => Ext.trans q r⟩) fun F a ha q w' hw' => ⟨F, ha, q w' hw'⟩
theorem Dr.tail (hT : TabOk P T) (hm : P.follows .mixedOrders = true) (m : Nat) {id : Nat} {ops : Array Oper} {F : Fr} {w : World} {K : Exit → Fr → World → Prop} (hB : Region.lexTailB .any ops m = true)
    (h : ∀ W w1, QW W w (fun a b => b = a) → Ext w w1 → w1.heap.size = w.heap.size →
      quOps P T n W (fun a b => b = a) ops.toList (ops.toList.take m) F (fun F' => exOps P T n ops.toList (ops.toList.drop m) F' w1 (fun F w => K .normal F w) (fun ch F w => K (.panic ch) F w))) : Dr P n id ops F w K := by
  refine ⟨fun a ha => ?_⟩
  obtain ⟨l⟩ := ops
  have e1 : Ext w { w with drawn := w.drawn + 1 } := ⟨rfl, rfl, rfl, Nat.le_refl _, fun _ _ => rfl⟩
  refine wp_region_still_tail m hm hB (wpQuiet_still _ _ ?_)
  exact quOps_sound hT (fun a b q r => r.trans q) l (l.take m) F a _ ha (h _ { w with drawn := w.drawn + 1 } ⟨fun w' q => q ▸ e1, fun a b q r => r.trans q⟩ e1 rfl) fun F a ha q =>
    exOps_sound hT l (l.drop m) F a _ _ _ ha q (fun F a w ha q => ⟨F, ha, q⟩) (fun ch F a w ha q => ⟨F, ha, q⟩)
section rules
variable {w : World} {Rl : World → World → Prop} (hW : QW W w Rl)
include hW
theorem QLd.blk {b o m : Nat} {t : TypeId} {vs : List Value} {k : List Value → Prop} (h : Blk w b t vs) (hm : ((vs.drop o).take m).length = m) (hk : k ((vs.drop o).take m)) : QLd W ⟨b, o, none⟩ m k := by
  refine ⟨_, fun w' hw' => ⟨hm, fun i v hv => ?_⟩, hk⟩
  rw [add_lit, (h.ext (hW.1 w' hw')).cell]
  have : i < m := by have := (List.getElem?_eq_some_iff.1 hv).1; omega
  rw [List.getElem?_take_of_lt this, List.getElem?_drop] at hv
  exact hv
theorem QLd1.blk {b o : Nat} {t : TypeId} {vs : List Value} {v : Value} {k : Value → Prop} (h : Blk w b t vs) (hv : vs[o]? = some v) (hk : k v) : QLd1 W ⟨b, o, none⟩ k :=
  ⟨v, fun w' hw' => ((h.ext (hW.1 w' hw')).cell o).trans hv, hk⟩
variable {α : Type} {sz B : Nat} {A : Option Addr} {l : List α} {enc : α → List Value} {i o : Nat} {x : α}
theorem QLd.rd {k : List Value → Prop} (h : Rd (Fl enc) sz w B A l) (hB : B ≤ w.heap.size) (hx : l[i]? = some x) (hk : k (enc x)) : QLd W ((gA A).add (i * sz)) sz k := by
  refine ⟨enc x, fun w' hw' => ?_, hk⟩
  obtain ⟨vs, h1, h2, h3⟩ := (h.ext (hW.1 w' hw') hB).at_ i x hx
  unfold Fl at h2
  subst h2
  exact ⟨h1, fun j v hv => by rw [add_add]; exact h3 j v hv⟩
theorem QLd1.rd {v : Value} {k : Value → Prop} (h : Rd (Fl enc) 1 w B A l) (hB : B ≤ w.heap.size) (hx : l[i]? = some x) (hv : (enc x)[0]? = some v) (hk : k v) : QLd1 W ((gA A).add (i * 1)) k := by
  refine ⟨v, fun w' hw' => ?_, hk⟩
  obtain ⟨vs, h1, h2, h3⟩ := (h.ext (hW.1 w' hw') hB).at_ i x hx
  unfold Fl at h2
  subst h2
  simpa using h3 0 v hv
theorem QLd1.rdF {v : Value} {k : Value → Prop} (h : Rd (Fl enc) sz w B A l) (hB : B ≤ w.heap.size) (hx : l[i]? = some x) (hv : (enc x)[o]? = some v) (hk : k v) : QLd1 W (pAdd ((gA A).add (i * sz)) o) k := by
  refine ⟨v, fun w' hw' => ?_, hk⟩
  obtain ⟨vs, h1, h2, h3⟩ := (h.ext (hW.1 w' hw') hB).at_ i x hx
  unfold Fl at h2
  subst h2
  rw [pAdd_add]
  exact h3 o v hv
theorem QLd.rs {k : List Value → Prop} (h : RdS enc sz w A l) (hx : l[i]? = some x) (hk : k (enc x)) : QLd W ((gA A).add (i * sz)) sz k := QLd.rd hW h (Nat.le_refl _) hx hk
theorem QLd1.rs {v : Value} {k : Value → Prop} (h : RdS enc 1 w A l) (hx : l[i]? = some x) (hv : (enc x)[0]? = some v) (hk : k v) : QLd1 W ((gA A).add (i * 1)) k := QLd1.rd hW h (Nat.le_refl _) hx hv hk
theorem QLd1.rsF {v : Value} {k : Value → Prop} (h : RdS enc sz w A l) (hx : l[i]? = some x) (hv : (enc x)[o]? = some v) (hk : k v) : QLd1 W (pAdd ((gA A).add (i * sz)) o) k := QLd1.rdF hW h (Nat.le_refl _) hx hv hk
theorem QCl.mk {f : Nat} {args : Array Value} {v : Value} {k : Value → Prop} (h : ∀ w', Ext w w' → Cl P f args w' (fun u w'' => u = v ∧ Rl w' w'') (fun _ _ => False)) (hk : k v) : QCl P f args W Rl k :=
  ⟨v, fun w' hw' => h w' (hW.1 w' hw'), hk⟩
theorem QSm.mk {s : Sem Value} {v : Value} {k : Value → Prop} (h : ∀ w', Ext w w' → s.run P w' = .ok v w') (hk : k v) : QSm P s W k := ⟨v, fun w' hw' => h w' (hW.1 w' hw'), hk⟩
end rules
end
end Go.Sh
namespace Go.Sh
open Go.RowKit
section
variable {α : Type} {enc : α → List Value} {sz : Nat} {e : TypeId} {w w' : World} {B : Nat} {A : Option Addr} {c : Nat} {l : List α}
def Own (enc : α → List Value) (sz : Nat) (e : TypeId) (w : World) (B : Nat) (A : Option Addr) (c : Nat) (l : List α) : Prop :=
  (∀ x ∈ l, (enc x).length = sz) ∧ w.ownsRow B e sz (.slice A l.length c) l.length (l.flatMap enc)
theorem Own.nil : Own enc sz e w B none 0 ([] : List α) := ⟨by simp, by simp, .inl ⟨rfl, rfl⟩⟩
theorem flatMap_at (h : ∀ x ∈ l, (enc x).length = sz) : ∀ (i : Nat) (x : α), l[i]? = some x → ∀ (j : Nat) (v : Value), (enc x)[j]? = some v → (l.flatMap enc)[i * sz + j]? = some v := by
  induction l with
  | nil => intro i x h; simp at h
  | cons y r ih =>
    intro i x hx j v hv
    have hy := h y (by simp)
    cases i with
    | zero =>
      simp at hx; subst hx
      simp only [List.flatMap_cons, Nat.zero_mul, Nat.zero_add]
      rw [List.getElem?_append_left (by have := (List.getElem?_eq_some_iff.1 hv).1; omega)]
      exact hv
    | succ i =>
      simp at hx
      simp only [List.flatMap_cons]
      rw [List.getElem?_append_right (by rw [hy, Nat.add_mul]; omega)]
      have := ih (fun x hx => h x (by simp [hx])) i x hx j v hv
      rw [hy, show (i + 1) * sz + j - sz = i * sz + j by rw [Nat.add_mul]; omega]
      exact this
theorem Own.rd (h : Own enc sz e w B A c l) : RdS enc sz w A l := by
  obtain ⟨hl, hlen, hr⟩ := h
  rcases hr with ⟨hv, hn⟩ | ⟨g, cap, cur, hv, hg, hh, hcap, hmax, hcs, htk⟩
  · have : l = [] := List.eq_nil_of_length_eq_zero hn
    subst this
    exact Rd.nil
  · simp only [Value.slice.injEq] at hv
    obtain ⟨rfl, _, rfl⟩ := hv
    refine ⟨fun hn => ⟨by simp, ?_⟩, fun i x hx => ⟨enc x, hl x (List.mem_of_getElem? hx), rfl, fun j v hv => ?_⟩⟩
    · exact (Array.getElem?_eq_some_iff.1 hh).1
    · have hi := (List.getElem?_eq_some_iff.1 hx).1
      have hj := (List.getElem?_eq_some_iff.1 hv).1
      have hj' : j < sz := by rw [← hl x (List.mem_of_getElem? hx)]; exact hj
      have := flatMap_at hl i x hx j v hv
      rw [← htk] at this
      have hlt : i * sz + j < l.length * sz := by
        calc i * sz + j < i * sz + sz := by omega
          _ = (i + 1) * sz := by rw [Nat.add_mul]; omega
          _ ≤ l.length * sz := Nat.mul_le_mul_right _ hi
      rw [List.getElem?_take_of_lt hlt] at this
      simp only [gA]
      rw [add_lit, Nat.zero_add]
      simp [World.cell?, hh]
      simpa using this
def obk (A : Option Addr) : Option Nat := A.map (·.block)
theorem obk_eq (A : Option Addr) (n m : Nat) : (Value.slice A n m).ownBlock = obk A := by cases A <;> rfl
def Grow (A : Option Addr) (w w' : World) : Prop := w.grownBy w' (Value.slice A 0 0).ownBlock
theorem Own.block (h : Own enc sz e w B A c l) : ∀ k, (Value.slice A 0 0).ownBlock = some k → B ≤ k := by
  intro k hk
  rcases h.2.2 with ⟨hv, _⟩ | ⟨g, cap, cur, hv, hg, _⟩
  · simp only [Value.slice.injEq] at hv
    rw [hv.1] at hk; simp [Value.ownBlock] at hk
  · simp only [Value.slice.injEq] at hv
    rw [hv.1] at hk; simp [Value.ownBlock] at hk; omega
theorem Blk.grow {b : Nat} {t : TypeId} {cs : List Value} (hb : Blk w b t cs) (g : Grow A w w') (h : Own enc sz e w B A c l) (hne : t ≠ e) : Blk w' b t cs := by
  refine (g.block b hb.lt fun he => ?_).trans hb
  rcases h.2.2 with ⟨hv, _⟩ | ⟨g', cap, cur, hv, hg, hh, _⟩
  · simp only [Value.slice.injEq] at hv
    rw [hv.1] at he; simp [Value.ownBlock] at he
  · simp only [Value.slice.injEq] at hv
    rw [hv.1] at he
    simp [Value.ownBlock] at he
    subst he
    unfold Blk at hb
    rw [hb] at hh
    simp at hh
    exact hne hh.2
theorem Own.ext (h : Own enc sz e w B A c l) (x : Ext w w') : Own enc sz e w' B A c l := by
  obtain ⟨hl, hlen, hr⟩ := h
  refine ⟨hl, hlen, ?_⟩
  rcases hr with h1 | ⟨g, cap, cur, hv, hg, hh, r⟩
  · exact .inl h1
  · exact .inr ⟨g, cap, cur, hv, hg, (Below.block x g (Array.getElem?_eq_some_iff.1 hh).1).trans hh, r⟩
theorem Own.from (x : Ext w w') (h : Own enc sz e w B A c l) : Own enc sz e w' B A c l := h.ext x
theorem Own.upd {b : Nat} {t : TypeId} {cs : List Value} (h : Own enc sz e w B A c l) (u : Upd b w w') (hb : Blk w b t cs) (hne : t ≠ e) : Own enc sz e w' B A c l := by
  obtain ⟨hl, hlen, hr⟩ := h
  refine ⟨hl, hlen, ?_⟩
  rcases hr with h1 | ⟨g, cap, cur, hv, hg, hh, r⟩
  · exact .inl h1
  · refine .inr ⟨g, cap, cur, hv, hg, (u.block g fun he => ?_).trans hh, r⟩
    subst he
    unfold Blk at hb
    rw [hb] at hh
    simp at hh
    exact hne hh.2
theorem Own.grow {A2 : Option Addr} {c2 : Nat} {l2 : List α} (h : Own enc sz e w B A2 c2 l2) (g : Grow A w w') (hne : obk A2 = none ∨ obk A2 ≠ obk A) : Own enc sz e w' B A2 c2 l2 := by
  obtain ⟨hl, hlen, hr⟩ := h
  refine ⟨hl, hlen, ?_⟩
  rcases hr with h1 | ⟨g', cap, cur, hv, hg, hh, r⟩
  · exact .inl h1
  · refine .inr ⟨g', cap, cur, hv, hg, (g.block g' (Array.getElem?_eq_some_iff.1 hh).1 fun he => ?_).trans hh, r⟩
    simp only [Value.slice.injEq] at hv
    rw [hv.1] at hne
    rw [obk_eq] at he
    rcases hne with h1 | h1
    · simp [obk] at h1
    · exact h1 (by rw [← he]; rfl)
theorem Blk.grow' {b : Nat} {t : TypeId} {cs : List Value} (hb : Blk w b t cs) (g : Grow A w w') (hne : obk A ≠ some b) : Blk w' b t cs :=
  (g.block b hb.lt fun he => hne (by rw [he, obk_eq])).trans hb
theorem Own.obk_lt (h : Own enc sz e w B A c l) : ∀ k, obk A = some k → k < w.heap.size ∧ B ≤ k := by
  intro k hk
  rcases h.2.2 with ⟨hv, _⟩ | ⟨g, cap, cur, hv, hg, hh, _⟩
  · simp only [Value.slice.injEq] at hv
    rw [hv.1] at hk; simp [obk] at hk
  · simp only [Value.slice.injEq] at hv
    rw [hv.1] at hk; simp [obk] at hk
    subst hk
    exact ⟨(Array.getElem?_eq_some_iff.1 hh).1, hg⟩
theorem Blk.ne {b b' : Nat} {t t' : TypeId} {cs cs' : List Value} (h : Blk w b t cs) (h' : Blk w b' t' cs') (hne : t ≠ t') : b ≠ b' := fun e' => by
  subst e'
  unfold Blk at h h'
  rw [h] at h'
  simp at h'
  exact hne h'.2
theorem Grow.ext {w0 : World} (x : Ext w0 w) (g : Grow A w w') (h : Own enc sz e w B A c l) (hB : w0.heap.size ≤ B) : Ext w0 w' :=
  Below.trans x ((Below.refl w0.heap.size w).grown g x.size fun k hk => Nat.le_trans hB (h.block k hk))
theorem RdS.keep (h : RdS enc sz w A l) (hs : w.heap.size ≤ w'.heap.size) (hb : ∀ b, obk A = some b → b < w.heap.size → w'.heap[b]? = w.heap[b]?) : RdS enc sz w' A l := by
  refine ⟨fun hn => ⟨(h.some hn).1, Nat.lt_of_lt_of_le (h.some hn).2 hs⟩, fun i x hx => ?_⟩
  obtain ⟨vs, h1, h2, h3⟩ := h.at_ i x hx
  refine ⟨vs, h1, h2, fun j v hv => ?_⟩
  obtain ⟨hn, hlt⟩ := h.some (fun e => by subst e; simp at hx)
  obtain ⟨ad, rfl⟩ := Option.ne_none_iff_exists'.1 hn
  rw [World.cell?_of_block (w := w)]
  · exact h3 j v hv
  · rw [block_add]; exact hb _ rfl hlt
theorem RdS.lt (h : RdS enc sz w A l) (hn : l ≠ []) : ∀ b, obk A = some b → b < w.heap.size := fun b hb => by
  obtain ⟨h1, h2⟩ := h.some hn
  obtain ⟨ad, rfl⟩ := Option.ne_none_iff_exists'.1 h1
  simp [obk] at hb; subst hb; exact h2
theorem RdS.upd {b : Nat} (h : RdS enc sz w A l) (u : Upd b w w') (hne : obk A ≠ some b) : RdS enc sz w' A l :=
  h.keep (by rw [u.size]; exact Nat.le_refl _) fun c hc _ => u.block c fun e => hne (by rw [hc, e])
theorem RdS.grow {A2 : Option Addr} (h : RdS enc sz w A l) (g : Grow A2 w w') (hne : obk A = none ∨ obk A ≠ obk A2) : RdS enc sz w' A l :=
  h.keep g.size fun c hc hlt => g.block c hlt fun e => by
    rw [obk_eq] at e
    rcases hne with h1 | h1
    · rw [hc] at h1; cases h1
    · exact h1 (by rw [hc, e])
variable {P : Program} {T : Tab}
theorem madeL {z : List Value} {n : Nat} (hz : z.length = sz) (hpos : 0 < sz) : madeCells z.toArray (n * sz) = ((List.replicate n z).flatten).toArray := by
  apply Array.ext'
  simp only [madeCells, Array.toList_map, Array.toList_range, List.size_toArray, hz]
  apply List.ext_getElem?
  intro i
  simp only [List.getElem?_map]
  have hfl : (List.replicate n z).flatten = (List.replicate n z).flatMap id := by simp [List.flatMap]
  rw [hfl]
  by_cases hi : i < n * sz
  · have hq : i / sz < n := Nat.div_lt_of_lt_mul (by rw [Nat.mul_comm]; exact hi)
    have hr := Nat.mod_lt i hpos
    have hm := flatMap_at (enc := id) (sz := sz) (l := List.replicate n z) (fun x hx => by rw [List.eq_of_mem_replicate hx]; exact hz) (i / sz) z (by simp [hq]) (i % sz) _ (List.getElem?_eq_getElem (by simp; omega))
    have hdm : i / sz * sz + i % sz = i := by rw [Nat.mul_comm]; exact Nat.div_add_mod i sz
    rw [hdm] at hm
    rw [hm, List.getElem?_range hi]
    simp
    rw [List.getElem?_eq_getElem (by omega)]
    rfl
  · rw [List.getElem?_eq_none (by simp; omega)]
    symm
    have hlen : ((List.replicate n z).flatMap id).length = n * sz := by simp [hz]
    simp only [List.getElem?_eq_none_iff, hlen, Option.map_none]
    omega
theorem Sm.lit (hT : TabOk P T) {t : TypeId} {ti ei : TI} {len : Nat} {parts : List (Nat × Value)} {cs : List Value} {k : Value → World → Prop} {Y : List PanicEntry → World → Prop}
    (ht : getT T.ts t = some ti) (hd : ti.desc = .slice e) (he : getT T.ts e = some ei) (hz : Nat.beq ei.zero.cells.toList.length ei.size = true)
    (hcs : puBuild ((List.range len).map fun i => (i * ei.size, ei.size)) (List.replicate len ei.zero.cells.toList).flatten (parts.map fun (i, v) => (i, some v)) = some cs)
    (hsmall : Nat.ble (len * ei.size) 16777216 = true) (hne : Nat.blt 0 (len * ei.size) = true)
    (hk : ∀ p w', w.heap.size = p → Blk w' p e cs → Ext w w' → w'.heap.size = p + 1 → k (.slice (some ⟨p, 0, none⟩) len len) w') : Sm P (Instr.buildSlice t len parts.toArray) w k Y := by
  have hsmall := Nat.le_of_ble_eq_true hsmall
  have hne : 0 < len * ei.size := by simpa using hne
  have hz := Nat.eq_of_beq_eq_true hz
  have hpos : 0 < ei.size := Nat.pos_of_mul_pos_left hne
  have hlen : 0 < len := Nat.pos_of_mul_pos_right hne
  have hmade := madeL (n := len) hz hpos
  have hfill := fill_sound ((List.range len).map fun i => (i * ei.size, ei.size)) (fun i => some (i * ei.size, ei.size)) (fun i x h => by
      simp only [List.getElem?_map, Option.map_eq_some_iff] at h
      obtain ⟨j, hj, rfl⟩ := h
      have := (List.getElem?_eq_some_iff.1 hj)
      obtain ⟨h1, h2⟩ := this
      simp at h2; subst h2; rfl) (parts.map fun (i, v) => (i, some v)) parts _ cs (by simp)
    (fun k i v? hk v hv => by
      simp only [List.getElem?_map, Option.map_eq_some_iff] at hk
      obtain ⟨y, hy, he⟩ := hk
      simp only [Prod.mk.injEq] at he
      obtain ⟨rfl, rfl⟩ := he
      simp at hv; subst hv
      exact hy) hcs
  refine ⟨?_⟩
  have hrun : (Instr.buildSlice t len parts.toArray).run P w = Result.ok (.slice (some ⟨w.heap.size, 0, none⟩) len len) (w.alloc (.cells cs.toArray e)) := by
    simp only [Instr.buildSlice, Sem.run_bind, run_und hT.1 ht, hd, Result.andThen_ok, run_size hT.1 he]
    rw [if_neg (by omega), if_neg (by omega)]
    simp only [Sem.run_bind, Result.andThen_ok, run_zero hT.1 he, Sem.run_pure]
    have e1 : ((Array.range (len * ei.size)).map (ei.zero.cells[· % ei.zero.cells.size]!)) = (List.replicate len ei.zero.cells.toList).flatten.toArray := by
      rw [← hmade]; simp [madeCells]
    rw [e1]
    simp only [hfill]
    simp [newRow]
  rw [hrun]
  exact hk _ _ rfl (by unfold Blk; show (w.heap.push _)[w.heap.size]? = _; simp) (Ext.alloc w _) (by show (w.heap.push _).size = _; simp)
theorem Sm.make (hT : TabOk P T) {t : TypeId} {ti ei : TI} {n : Nat} {kl kc : IntKind} {a b : Int} {z : α} {k : Value → World → Prop} {Y : List PanicEntry → World → Prop}
    (ht : getT T.ts t = some ti) (hd : ti.desc = .slice e) (he : getT T.ts e = some ei) (ha : a = (n : Int)) (hb : b = (n : Int)) (hsz : ei.size = sz) (hz : ei.zero.cells.toList = enc z) (hzl : (enc z).length = sz) (hpos : 0 < sz)
    (hbytes : ei.bytes * n ≤ 281474976710656) (h63 : n ≤ 140737488355328)
    (hk : ∀ p w', w.heap.size = p → Blk w' p e ((List.replicate n z).flatMap enc) → Ext w w' → k (.slice (some ⟨p, 0, none⟩) n n) w') : Sm P (Instr.makeSlice t (.int kl a) (.int kc b)) w k Y := by
  subst ha hb
  obtain ⟨j, hj, hjz, hjs, hjb⟩ := info_of hT.1 he
  have hu := (hT.1.get ht).1
  rw [hd] at hu
  obtain ⟨w', hrun, ho, hg⟩ := run_make_full (P := P) w 0 t e j ei.zero sz hu hj hjz (hjs.trans hsz) kl kc n (by rw [hjb]; exact hbytes) (by simp only [maxLen]; omega) (by omega)
  refine ⟨?_⟩
  rw [hrun]
  refine hk _ _ rfl ?_ ⟨hg.os, hg.tape, hg.output, hg.size, fun i hi => hg.block i hi (by simp)⟩
  have hcells : madeCells ei.zero.cells (n * sz) = ((List.replicate n z).flatMap enc).toArray := by
    have hzc : ei.zero.cells = (enc z).toArray := by apply Array.ext'; simpa using hz
    rw [hzc, madeL hzl hpos]
    simp [List.flatMap]
  obtain ⟨hl, hr⟩ := ho
  rcases hr with ⟨hv, hn⟩ | ⟨g, cap, cur, hv, hg', hh, hcap, hmax, hcs, htk⟩
  · simp at hv
  · simp only [Value.slice.injEq, Option.some.injEq, Addr.mk.injEq] at hv
    obtain ⟨⟨rfl, _⟩, _, rfl⟩ := hv
    unfold Blk
    rw [hh]
    congr 2
    apply Array.ext'
    rw [← hcells]
    rw [← htk, ← hcs, List.take_of_length_le (by simp)]
end
end Go.Sh
namespace Go.Sh
open Go.RowKit
def dstOf (ops : Array Oper) (i : Nat) : Option Nat := (ops[i]?).bind (·.dst)
def gdOf (ops : Array Oper) (o : Oper) : List Nat := match o.guard with | some (j, _) => (dstOf ops j).toList | none => []
def rdOf (ops : Array Oper) (i : Nat) : List Nat := match ops[i]? with | some o => tmpsOf o ++ gdOf ops o | none => []
def afterOf (ops : Array Oper) (i : Nat) : List Nat := match ops[i]? with | some o => (o.after.toList.filter (Region.binds .any)).map (·.on) | none => []
def ancF (ops : Array Oper) : Nat → Nat → List Nat
  | 0, _ => []
  | f + 1, i => (afterOf ops i).flatMap fun j => j :: ancF ops f j
def AlP (ops : Array Oper) (k : Nat) : Prop :=
  k + 1 < ops.size ∧ (∀ i, i < ops.size → ∀ j ∈ afterOf ops i, j < i) ∧ (∀ j, j < ops.size - 1 → j ∈ ancF ops ops.size (ops.size - 1)) ∧
  (∀ i, i < ops.size → ∀ j, j < ops.size → i ≠ j → (dstOf ops i ≠ none → dstOf ops j ≠ dstOf ops i) ∧
    (i ≠ k → i + 1 ≠ ops.size → ∀ t ∈ rdOf ops i, dstOf ops j = some t → j ≠ k ∧ ((j < i ∧ j ∈ ancF ops ops.size i) ∨ (i < j ∧ i ∈ ancF ops ops.size j))))
def alB (ops : Array Oper) (k : Nat) : Bool :=
  decide (k + 1 < ops.size) && ((List.range ops.size).all fun i => (afterOf ops i).all fun j => decide (j < i)) && ((List.range (ops.size - 1)).all fun j => decide (j ∈ ancF ops ops.size (ops.size - 1))) &&
  ((List.range ops.size).all fun i => (List.range ops.size).all fun j => decide (i = j) || ((decide (dstOf ops i = none) || decide (dstOf ops j ≠ dstOf ops i)) &&
    (decide (i = k) || decide (i + 1 = ops.size) || (rdOf ops i).all fun t => decide (dstOf ops j ≠ some t) || (decide (j ≠ k) && ((decide (j < i) && decide (j ∈ ancF ops ops.size i)) || (decide (i < j) && decide (i ∈ ancF ops ops.size j)))))))
theorem alB_spec {ops : Array Oper} {k : Nat} (h : alB ops k = true) : AlP ops k := by
  simp only [alB, Bool.and_eq_true, Bool.or_eq_true, List.all_eq_true, List.mem_range, decide_eq_true_eq] at h
  obtain ⟨⟨⟨h1, h2⟩, h3⟩, h4⟩ := h
  refine ⟨h1, h2, h3, fun i hi j hj hne => ?_⟩
  rcases h4 i hi j hj with e | ⟨h5, h6⟩
  · exact absurd e hne
  · refine ⟨fun hn => ?_, fun hk hf t ht hd => ?_⟩
    · rcases h5 with e | e
      · exact absurd e hn
      · exact e
    · rcases h6 with (e | e) | e
      · exact absurd e hk
      · exact absurd e hf
      · rcases e t ht with e | e
        · exact absurd hd e
        · exact e
def Lst (listed : Array Bool) (i : Nat) : Prop := listed.getD i true = true
section
variable {P : Program} {T : Tab} {n : Nat} {ops : Array Oper} {k : Nat}
def Closed (ops : Array Oper) (listed : Array Bool) : Prop := ∀ i, i < ops.size → Lst listed i → ∀ j ∈ afterOf ops i, Lst listed j
theorem closed_anc {listed : Array Bool} (hc : Closed ops listed) (hac : ∀ i, i < ops.size → ∀ j ∈ afterOf ops i, j < i) : ∀ (f i j : Nat), i < ops.size → Lst listed i → j ∈ ancF ops f i → Lst listed j
  | 0, _, _, _, _, h => by simp [ancF] at h
  | f + 1, i, j, hi, hl, h => by
    simp only [ancF, List.mem_flatMap, List.mem_cons] at h
    obtain ⟨m, hm, h⟩ := h
    have hlm := hc i hi hl m hm
    rcases h with rfl | h
    · exact hlm
    · exact closed_anc hc hac f m j (by have := hac i hi m hm; omega) hlm h
def cnt (listed : Array Bool) : Nat → Nat
  | 0 => 0
  | m + 1 => cnt listed m + (if listed.getD m true = true then 0 else 1)
theorem getD_set (listed : Array Bool) (i j : Nat) (hi : i < listed.size) : (listed.setIfInBounds i true).getD j true = if j = i then true else listed.getD j true := by
  simp only [Array.getD_eq_getD_getElem?, Array.getElem?_setIfInBounds]
  by_cases h : i = j
  · subst h; simp [hi]
  · rw [if_neg h, if_neg (fun e => h e.symm)]
theorem cnt_set (listed : Array Bool) (i : Nat) (hi : i < listed.size) (hn : ¬ Lst listed i) : ∀ m, cnt (listed.setIfInBounds i true) m + (if i < m then 1 else 0) = cnt listed m
  | 0 => by simp [cnt]
  | m + 1 => by
    have ih := cnt_set listed i hi hn m
    simp only [cnt, getD_set _ _ _ hi]
    unfold Lst at hn
    by_cases h : m = i
    · subst h
      rw [if_neg (by omega)] at ih
      rw [if_pos rfl, if_pos rfl, if_pos (by omega), if_neg hn]
      omega
    · rw [if_neg h]
      by_cases h2 : i < m
      · rw [if_pos h2] at ih; rw [if_pos (show i < m + 1 by omega)]; omega
      · rw [if_neg h2] at ih; rw [if_neg (show ¬ i < m + 1 by omega)]; omega
theorem cnt_pos (listed : Array Bool) (i : Nat) (hn : ¬ Lst listed i) : ∀ m, i < m → 0 < cnt listed m
  | 0, h => by omega
  | m + 1, h => by
    simp only [cnt]
    by_cases e : i = m
    · subst e; unfold Lst at hn; simp [hn]
    · have := cnt_pos listed i hn m (by omega); omega
theorem getD_both' {listed : Array Bool} {j : Nat} (h : j < listed.size) : listed.getD j false = listed.getD j true := by
  simp [Array.getD_eq_getD_getElem?, Array.getElem?_eq_getElem h]
theorem mem_ready {listed : Array Bool} (hs : listed.size = ops.size) (hac : ∀ i, i < ops.size → ∀ j ∈ afterOf ops i, j < i) {i : Nat} : i ∈ Region.ready .any ops listed ↔ i < ops.size ∧ ¬ Lst listed i ∧ ∀ j ∈ afterOf ops i, Lst listed j := by
  unfold Region.ready
  simp only [List.mem_filter, List.mem_range, Bool.and_eq_true, Bool.not_eq_true']
  constructor
  · rintro ⟨h1, h2, h3⟩
    refine ⟨h1, by unfold Lst; simp [h2], fun j hj => ?_⟩
    have hlt := hac i h1 j hj
    unfold afterOf at hj
    simp only [Array.getElem?_eq_getElem h1] at hj h3
    simp only [List.mem_map, List.mem_filter] at hj
    obtain ⟨e, ⟨he, hb⟩, rfl⟩ := hj
    simp only [Option.map_some, Option.getD_some, Array.all_eq_true'] at h3
    have := h3 e (by simpa using he)
    simp only [hb, Bool.not_true, Bool.false_or] at this
    unfold Lst
    rw [← getD_both' (by omega)]
    exact this
  · rintro ⟨h1, h2, h3⟩
    refine ⟨h1, by unfold Lst at h2; simpa using h2, ?_⟩
    simp only [Array.getElem?_eq_getElem h1, Option.map_some, Option.getD_some, Array.all_eq_true']
    intro e he
    by_cases hb : Region.binds .any e = true
    · have hm : e.on ∈ afterOf ops i := by
        unfold afterOf
        simp only [Array.getElem?_eq_getElem h1, List.mem_map, List.mem_filter]
        exact ⟨e, ⟨by simpa using he, hb⟩, rfl⟩
      have := h3 _ hm
      have hlt := hac i h1 _ hm
      unfold Lst at this
      rw [← getD_both' (by omega)] at this
      simp [this]
    · simp [hb]
def PhiF (F : Fr) (l : List Oper) (vals : Nat → Value) : Nat → Nat → Option Value
  | 0, t => look F.env t
  | m + 1, t => if (l[m]?).bind (·.dst) = some t then some (vals m) else PhiF F l vals m t
theorem PhiF_cons {F F1 : Fr} {o : Oper} {r : List Oper} {vals vals1 : Nat → Value} {v : Value} (h0 : vals 0 = v) (h1 : ∀ m, vals (m + 1) = vals1 m)
    (hF : ∀ t, look F1.env t = look (F.put o.dst v).env t) : ∀ m t, PhiF F (o :: r) vals (m + 1) t = PhiF F1 r vals1 m t
  | 0, t => by
    simp only [PhiF, List.getElem?_cons_zero, Option.bind_some, h0, hF]
    cases hd : o.dst with
    | none => simp [Fr.put]
    | some d =>
      simp only [Fr.put, look, Option.some.injEq]
      by_cases e : d = t
      · subst e; simp
      · have : Nat.beq d t = false := by cases hb : Nat.beq d t with | false => rfl | true => exact absurd (Nat.eq_of_beq_eq_true hb) e
        rw [if_neg e, this]
  | m + 1, t => by
    have ih := PhiF_cons (r := r) h0 h1 hF m t
    show (if ((o :: r)[m + 1]?).bind (·.dst) = some t then some (vals (m + 1)) else PhiF F (o :: r) vals (m + 1) t) = (if (r[m]?).bind (·.dst) = some t then some (vals1 m) else PhiF F1 r vals1 m t)
    rw [ih, h1, List.getElem?_cons_succ]
theorem PhiF_none {F : Fr} {l : List Oper} {vals : Nat → Value} {t : Nat} : ∀ m, (∀ j, j < m → (l[j]?).bind (·.dst) ≠ some t) → PhiF F l vals m t = look F.env t
  | 0, _ => rfl
  | m + 1, h => by rw [PhiF, if_neg (h m (by omega)), PhiF_none m (fun j hj => h j (by omega))]
theorem PhiF_some {F : Fr} {l : List Oper} {vals : Nat → Value} {t j : Nat} (hj : (l[j]?).bind (·.dst) = some t) (hu : ∀ i, i ≠ j → (l[i]?).bind (·.dst) ≠ some t) : ∀ m, j < m → PhiF F l vals m t = some (vals j)
  | 0, h => by omega
  | m + 1, h => by
    rw [PhiF]
    by_cases e : m = j
    · subst e; rw [if_pos hj]
    · rw [if_neg (hu m e), PhiF_some hj hu m (by omega)]
variable {W : World → Prop} {Rl : World → World → Prop}
def Yq (P : Program) (W : World → Prop) (Rl : World → World → Prop) (ops : Array Oper) (o : Oper) (v : Value) (Φ : Nat → Option Value) : Prop :=
  ∀ a : Act, (∀ t ∈ tmpsOf o ++ gdOf ops o, ∀ u, Φ t = some u → a.tmps[t]? = some u) →
    (Region.wanted o (yielded ops a.tmps) = false ∧ v = undef) ∨
    (Region.wanted o (yielded ops a.tmps) = true ∧ ∀ w, W w → (execOp a.eval o).run P w = Result.ok (.value v) w ∨
      ∃ f args, (execOp a.eval o).run P w = Result.ok (.enter f args) w ∧ Cl P f args w (fun u w'' => u = v ∧ Rl w w'') (fun _ _ => False))
theorem ev_of_phi {o : Oper} {F : Fr} {a : Act} {Φ : Nat → Option Value} (hΦ : ∀ t, look F.env t = Φ t) (ha : ∀ t ∈ tmpsOf o, ∀ u, Φ t = some u → a.tmps[t]? = some u) : ∀ x u, evR o F x = some u → a.eval x = u := by
  intro x u h
  cases x with
  | tmp t =>
    simp only [evR] at h
    split at h
    · rename_i hm
      have hmem : t ∈ tmpsOf o := by
        clear ha h
        generalize tmpsOf o = l at hm
        induction l with
        | nil => simp [memN] at hm
        | cons y r ih =>
          simp only [memN] at hm
          split at hm
          · rename_i he; have := Nat.eq_of_beq_eq_true he; subst this; simp
          · exact List.mem_cons_of_mem _ (ih hm)
      have := ha t hmem u (by rw [← hΦ]; exact h)
      simp [Act.eval, Array.getD_eq_getD_getElem?, this]
    · simp at h
  | const c => simpa [evR, Act.eval] using h
  | global g => simpa [evR, Act.eval] using h
  | func f => simpa [evR, Act.eval] using h
theorem look_put_same {F : Fr} {d : Nat} {v : Value} (h : look F.env d = some v) (t : Nat) : look (F.put (some d) v).env t = look F.env t := by
  simp only [Fr.put, look]
  split
  · rename_i he; have := Nat.eq_of_beq_eq_true he; subst this; exact h.symm
  · rfl
theorem look_put_congr {F F' : Fr} (h : ∀ t, look F.env t = look F'.env t) (d : Option Nat) (v : Value) (t : Nat) : look (F.put d v).env t = look (F'.put d v).env t := by
  cases d with
  | none => exact h t
  | some d => simp only [Fr.put, look]; split <;> simp_all
theorem guardV_spec {F : Fr} {j d : Nat} {v : Value} (hg : guardV ops.toList F j = some (d, v)) : look F.env d = some v ∧ dstOf ops j = some d := by
  unfold guardV at hg
  split at hg; · simp at hg
  rename_i o ho
  split at hg; · simp at hg
  rename_i d' hd
  split at hg <;> simp at hg
  rename_i u hu
  obtain ⟨rfl, rfl⟩ := hg
  refine ⟨hu, ?_⟩
  unfold dstOf
  have : ops[j]? = some o := by simpa using ho
  simp [this, hd]
def ybool : Value → Option Bool
  | .bool b => some b
  | _ => none
theorem yielded_of {a : Act} {j d : Nat} {v : Value} (hd : dstOf ops j = some d) (h : a.tmps[d]? = some v) : yielded ops a.tmps j = ybool v := by
  unfold yielded
  unfold dstOf at hd
  simp only [hd, Option.bind_some, h]
  cases v <;> rfl
theorem quOps_trace (hT : TabOk P T) : ∀ (l : List Oper) (F : Fr) (k : Fr → Prop), quOps P T n W Rl ops.toList l F k →
    ∃ (vals : Nat → Value) (F' : Fr), (∀ m o, l[m]? = some o → dstOk n o.dst = true ∧ Yq P W Rl ops o (vals m) (PhiF F l vals m)) ∧ (∀ t, look F'.env t = PhiF F l vals l.length t) ∧ F'.ds = F.ds ∧ k F'
  | [], F, k, h => ⟨fun _ => undef, F, fun m o h => by simp at h, fun t => rfl, rfl, h⟩
  | o :: r, F, k, h => by
    change stepQu P T n W Rl ops.toList o r (quOps P T n W Rl ops.toList r) F k at h
    unfold stepQu at h
    split at h; · exact h.elim
    rename_i hd
    -- what is left: a value, a frame that looks like F with it
    have key : ∀ (v : Value) (F1 : Fr), (∀ t, look F1.env t = look (F.put o.dst v).env t) → F1.ds = F.ds → Yq P W Rl ops o v (look F.env) → quOps P T n W Rl ops.toList r F1 k →
        ∃ (vals : Nat → Value) (F' : Fr), (∀ m o', (o :: r)[m]? = some o' → dstOk n o'.dst = true ∧ Yq P W Rl ops o' (vals m) (PhiF F (o :: r) vals m)) ∧ (∀ t, look F'.env t = PhiF F (o :: r) vals (o :: r).length t) ∧ F'.ds = F.ds ∧ k F' := by
      intro v F1 hF1 hds hy hq
      obtain ⟨vals1, F', h1, h2, h3, h4⟩ := quOps_trace hT r F1 k hq
      have hcons := PhiF_cons (F := F) (F1 := F1) (o := o) (r := r) (vals := fun m => match m with | 0 => v | m + 1 => vals1 m) (vals1 := vals1) rfl (fun _ => rfl) hF1
      refine ⟨fun m => match m with | 0 => v | m + 1 => vals1 m, F', fun m o' ho => ?_, fun t => ?_, h3.trans hds, h4⟩
      · cases m with
        | zero =>
          simp at ho; subst ho
          exact ⟨hd, hy⟩
        | succ m =>
          simp at ho
          obtain ⟨g1, g2⟩ := h1 m o' ho
          refine ⟨g1, ?_⟩
          have : PhiF F (o :: r) (fun m => match m with | 0 => v | m + 1 => vals1 m) (m + 1) = PhiF F1 r vals1 m := funext (hcons m)
          rw [this]; exact g2
      · rw [List.length_cons, hcons, h2]
    split at h
    · rename_i hg
      obtain ⟨v, hv, hr⟩ := quOp_run hT h
      refine key v _ (fun t => rfl) (by cases o.dst <;> rfl) (fun a ha => .inr ⟨wanted_none hg, fun w hw => hr a (ev_of_phi (fun t => rfl) fun t ht u hu => ha t (by simp [ht]) u hu) w hw⟩) hv
    · rename_i j want hg
      split at h; · exact h.elim
      rename_i d v hgv
      obtain ⟨hl, hdj⟩ := guardV_spec hgv
      have hgm : d ∈ tmpsOf o ++ gdOf ops o := by simp [gdOf, hg, hdj]
      have hyl : ∀ a : Act, (∀ t ∈ tmpsOf o ++ gdOf ops o, ∀ u, look F.env t = some u → a.tmps[t]? = some u) → yielded ops a.tmps j = ybool v := fun a ha => yielded_of hdj (ha d hgm v hl)
      have sk : ∀ F1 : Fr, (∀ t, look F1.env t = look F.env t) → F1.ds = F.ds → (∀ a : Act, (∀ t ∈ tmpsOf o ++ gdOf ops o, ∀ u, look F.env t = some u → a.tmps[t]? = some u) → Region.wanted o (yielded ops a.tmps) = false) →
          quOps P T n W Rl ops.toList r (F1.put o.dst undef) k →
          ∃ (vals : Nat → Value) (F' : Fr), (∀ m o', (o :: r)[m]? = some o' → dstOk n o'.dst = true ∧ Yq P W Rl ops o' (vals m) (PhiF F (o :: r) vals m)) ∧ (∀ t, look F'.env t = PhiF F (o :: r) vals (o :: r).length t) ∧ F'.ds = F.ds ∧ k F' := fun F1 hF1 hds hno hq =>
        key undef _ (look_put_congr hF1 o.dst undef) (by cases o.dst <;> exact hds) (fun a ha => .inl ⟨hno a ha, rfl⟩) hq
      have ex : ∀ F1 : Fr, (∀ t, look F1.env t = look F.env t) → F1.ds = F.ds → (∀ a : Act, (∀ t ∈ tmpsOf o ++ gdOf ops o, ∀ u, look F.env t = some u → a.tmps[t]? = some u) → Region.wanted o (yielded ops a.tmps) = true) →
          quOp P T W Rl (evR o F1) o (fun v => quOps P T n W Rl ops.toList r (F1.put o.dst v) k) →
          ∃ (vals : Nat → Value) (F' : Fr), (∀ m o', (o :: r)[m]? = some o' → dstOk n o'.dst = true ∧ Yq P W Rl ops o' (vals m) (PhiF F (o :: r) vals m)) ∧ (∀ t, look F'.env t = PhiF F (o :: r) vals (o :: r).length t) ∧ F'.ds = F.ds ∧ k F' := fun F1 hF1 hds hyes hq => by
        obtain ⟨v, hv, hr⟩ := quOp_run hT hq
        exact key v _ (look_put_congr hF1 o.dst v) (by cases o.dst <;> exact hds) (fun a ha => .inr ⟨hyes a ha, fun w hw => hr a (ev_of_phi hF1 fun t ht u hu => ha t (by simp [ht]) u hu) w hw⟩) hv
      split at h
      · rename_i b
        simp only [ybool] at hyl
        split at h
        · cases b
          · exact sk _ (look_put_same hl) rfl (fun a ha => by simp [Region.wanted, hg, hyl a ha]) (h.2 rfl)
          · exact ex _ (look_put_same hl) rfl (fun a ha => by simp [Region.wanted, hg, hyl a ha]) (h.1 rfl)
        · cases b
          · exact ex _ (look_put_same hl) rfl (fun a ha => by simp [Region.wanted, hg, hyl a ha]) (h.2 rfl)
          · exact sk _ (look_put_same hl) rfl (fun a ha => by simp [Region.wanted, hg, hyl a ha]) (h.1 rfl)
      · simp only [ybool] at hyl
        exact sk F (fun _ => rfl) rfl (fun a ha => by simp [Region.wanted, hg, hyl a ha]) h
      · exact h.elim
def ix (k i : Nat) : Nat := if i < k then i else i - 1
def quL (ops : Array Oper) (k : Nat) : List Oper := (ops.toList.dropLast).eraseIdx k
theorem quL_get {i : Nat} (_hk : k + 1 < ops.size) (hi : i + 1 < ops.size) (hne : i ≠ k) : (quL ops k)[ix k i]? = ops[i]? := by
  unfold quL ix
  rw [List.getElem?_eraseIdx]
  by_cases h : i < k
  · rw [if_pos h, if_pos h, List.getElem?_dropLast, if_pos (by simp; omega)]; simp
  · rw [if_neg h, if_neg (by omega), show i - 1 + 1 = i by omega, List.getElem?_dropLast, if_pos (by simp; omega)]; simp
theorem quL_get' {m : Nat} (hk : k + 1 < ops.size) : (quL ops k)[m]? = if m < k then ops[m]? else if m + 2 < ops.size then ops[m + 1]? else none := by
  unfold quL
  rw [List.getElem?_eraseIdx]
  by_cases h : m < k
  · rw [if_pos h, if_pos h, List.getElem?_dropLast, if_pos (by simp; omega)]; simp
  · rw [if_neg h, if_neg h, List.getElem?_dropLast]
    by_cases h2 : m + 2 < ops.size
    · rw [if_pos h2, if_pos (by simp; omega)]; simp
    · rw [if_neg h2, if_neg (by simp; omega)]
theorem quL_len (hk : k + 1 < ops.size) : (quL ops k).length = ops.size - 2 := by
  unfold quL
  rw [List.length_eraseIdx, if_pos (by simp; omega)]
  simp; omega
theorem Dr.al (hT : TabOk P T) (hm : P.follows .mixedOrders = true) (k : Nat) {id : Nat} {F : Fr} {w : World} {K : Exit → Fr → World → Prop} {ty : TypeId} {ti : TI} {ok of : Oper} {dk : Nat}
    (hB : alB ops k = true) (hk : ops[k]? = some ok) (hko : ok.op = .alloc ty) (hkg : ok.guard = none) (hkd : ok.dst = some dk) (hkn : dstOk n (some dk) = true) (hti : getT T.ts ty = some ti)
    (hf : ops.toList.getLast? = some of) (hfg : of.guard = none)
    (h : ∀ W, QW W w Ext → quOps P T n W Ext ops.toList (quL ops k) F (fun F' => ∀ p w', w.heap.size ≤ p → Ext w w' → Blk w' p ty ti.zero.cells.toList →
      exOps P T n ops.toList [of] (F'.put (some dk) (.pointer (some ⟨p, 0, none⟩))) w' (fun F w => K .normal F w) (fun ch F w => K (.panic ch) F w))) : Dr P n id ops F w K := by
  obtain ⟨hk1, hac, hlast, huq⟩ := alB_spec hB
  obtain ⟨vals, F', hY, hlook, hds, hfin⟩ := quOps_trace hT (quL ops k) F _ (h (fun x => Ext w x) ⟨fun _ q => q, fun a b q r => q.trans r⟩)
  have hN : ops.size - 1 < ops.size := by omega
  have hofx : ops[ops.size - 1]? = some of := by
    rw [List.getLast?_eq_getElem?] at hf
    simpa using hf
  have hlenq := quL_len (ops := ops) hk1
  have hdq : ∀ m, ((quL ops k)[m]?).bind (·.dst) = if m < k then dstOf ops m else if m + 2 < ops.size then dstOf ops (m + 1) else none := fun m => by
    rw [quL_get' hk1]
    unfold dstOf
    split
    · rfl
    · split <;> rfl
  -- the look of a slot ahead of operation i
  have hPhi : ∀ (i : Nat), i + 1 < ops.size → i ≠ k → ∀ (t : Nat) (M : Nat), (∀ j, j + 1 < ops.size → j ≠ k → dstOf ops j = some t → ix k j < M → False) → PhiF F (quL ops k) vals M t = look F.env t := by
    intro i hi hne t M hno
    refine PhiF_none M fun m hm hd => ?_
    rw [hdq] at hd
    split at hd
    · rename_i hlt
      exact hno m (by omega) (by omega) hd (by unfold ix; rw [if_pos hlt]; exact hm)
    · rename_i hge
      split at hd
      · rename_i hlt
        exact hno (m + 1) (by omega) (by omega) hd (by unfold ix; rw [if_neg (by omega)]; omega)
      · simp at hd
  have hPhiW : ∀ (j t M : Nat), j + 1 < ops.size → j ≠ k → dstOf ops j = some t → ix k j < M → PhiF F (quL ops k) vals M t = some (vals (ix k j)) := by
    intro j t M hj hjk hd hlt
    refine PhiF_some ?_ (fun m hm hd' => ?_) M hlt
    · rw [quL_get hk1 hj hjk]; exact hd
    · rw [hdq] at hd'
      split at hd'
      · rename_i hmk
        have hmj : m ≠ j := fun e => by subst e; unfold ix at hm; rw [if_pos hmk] at hm; exact hm rfl
        exact (huq j (by omega) m (by omega) (fun e => hmj e.symm)).1 (by rw [hd]; simp) (by rw [hd, hd'])
      · rename_i hmk
        split at hd'
        · have hmj : m + 1 ≠ j := fun e => by subst e; unfold ix at hm; rw [if_neg (by omega)] at hm; exact hm (by omega)
          exact (huq j (by omega) (m + 1) (by omega) (fun e => hmj e.symm)).1 (by rw [hd]; simp) (by rw [hd, hd'])
        · simp at hd'
  refine ⟨fun a0 ha0 => ?_⟩
  refine wp_region_any hm ?_
  -- the state while operations come up
  have main : ∀ (fuel : Nat) (listed : Array Bool) (a : Act) (w' : World), listed.size = ops.size → Closed ops listed → cnt listed ops.size ≤ fuel → ¬ Lst listed (ops.size - 1) → Ext w w' →
      a.tmps.size = n → a.defers = F.ds → (∀ i, i + 1 < ops.size → i ≠ k → Lst listed i → ∀ d, dstOf ops i = some d → a.tmps[d]? = some (vals (ix k i))) →
      (∀ t u, look F.env t = some u → (∀ i, i < ops.size → Lst listed i → dstOf ops i ≠ some t) → a.tmps[t]? = some u) →
      (Lst listed k → ∃ p, a.tmps[dk]? = some (.pointer (some ⟨p, 0, none⟩)) ∧ Blk w' p ty ti.zero.cells.toList ∧ w.heap.size ≤ p) →
      wpAny P .any ops (Lift n K) fuel listed a w' := by
    intro fuel
    induction fuel with
    | zero => intro listed a w' _ _ hc hnl; exact absurd (cnt_pos listed _ hnl ops.size hN) (by omega)
    | succ fuel ih =>
      intro listed a w' hs hcl hc hnl hx hsz hdf hA hB' hC
      refine ⟨fun hr => ?_, fun i hi => ?_⟩
      · -- some operation is ready
        exfalso
        have : ∃ i, i < ops.size ∧ ¬ Lst listed i ∧ ∀ j, j < i → Lst listed j := by
          have : ∀ m, m ≤ ops.size - 1 → (∀ j, j < m → Lst listed j) ∨ ∃ i, i < ops.size ∧ ¬ Lst listed i ∧ ∀ j, j < i → Lst listed j := by
            intro m
            induction m with
            | zero => intro _; exact .inl fun j hj => by omega
            | succ m ihm =>
              intro hm
              rcases ihm (by omega) with h1 | h1
              · by_cases hl : Lst listed m
                · exact .inl fun j hj => (Nat.lt_or_ge j m).elim (h1 j) fun h2 => (show j = m by omega) ▸ hl
                · exact .inr ⟨m, by omega, hl, h1⟩
              · exact .inr h1
          rcases this (ops.size - 1) (Nat.le_refl _) with h1 | h1
          · exact ⟨ops.size - 1, hN, hnl, h1⟩
          · exact h1
        obtain ⟨i, h1, h2, h3⟩ := this
        have := (mem_ready hs hac).2 ⟨h1, h2, fun j hj => h3 j (hac i h1 j hj)⟩
        rw [hr] at this
        exact absurd this (by simp)
      · obtain ⟨hi1, hi2, hi3⟩ := (mem_ready hs hac).1 hi
        have hs' : (listed.setIfInBounds i true).size = ops.size := by simpa using hs
        have hLs : ∀ j, Lst (listed.setIfInBounds i true) j ↔ j = i ∨ Lst listed j := fun j => by
          unfold Lst; rw [getD_set _ _ _ (by omega)]; by_cases e : j = i <;> simp [e]
        have hcl' : Closed ops (listed.setIfInBounds i true) := fun m hm hl j hj => by
          rw [hLs] at hl ⊢
          rcases hl with rfl | hl
          · exact .inr (hi3 j hj)
          · exact .inr (hcl m hm hl j hj)
        have hc' : cnt (listed.setIfInBounds i true) ops.size ≤ fuel := by
          have := cnt_set listed i (by omega) hi2 ops.size
          rw [if_pos hi1] at this; omega
        have hanc : ∀ j, j ∈ ancF ops ops.size i → Lst listed j := fun j hj => by
          have := closed_anc hcl' hac ops.size i j hi1 ((hLs i).2 (.inl rfl)) hj
          rcases (hLs j).1 this with rfl | h1
          · -- no operation is ahead of itself
            exfalso
            have lt : ∀ (f m j : Nat), m < ops.size → j ∈ ancF ops f m → j < m := by
              intro f
              induction f with
              | zero => intro m j _ h; simp [ancF] at h
              | succ f ihf =>
                intro m j hm h
                simp only [ancF, List.mem_flatMap, List.mem_cons] at h
                obtain ⟨q, hq, h⟩ := h
                have hqm := hac m hm q hq
                rcases h with rfl | h
                · exact hqm
                · have := ihf q j (by omega) h; omega
            have := lt _ _ _ hi1 hj; omega
          · exact h1
        unfold wpOp
        by_cases hlast' : i = ops.size - 1
        · -- the last one
          subst hlast'
          have hall : ∀ j, j < ops.size - 1 → Lst listed j := fun j hj => hanc j (hlast j hj)
          simp only [hofx]
          obtain ⟨p, hp1, hp2, hp3⟩ := hC (hall k (by omega))
          have hagr : Agr n (F'.put (some dk) (.pointer (some ⟨p, 0, none⟩))) a := by
            refine ⟨hsz, by simpa [Fr.put, hds] using hdf, fun t u ht => ?_⟩
            simp only [Fr.put, look] at ht
            split at ht
            · rename_i he; have := Nat.eq_of_beq_eq_true he; subst this
              simp at ht; subst ht; exact hp1
            · rename_i he
              have hne : dk ≠ t := fun e => by subst e; simp at he
              rw [hlook] at ht
              by_cases hw : ∃ j, j + 1 < ops.size ∧ j ≠ k ∧ dstOf ops j = some t
              · obtain ⟨j, h1, h2, h3⟩ := hw
                rw [hPhiW j t _ h1 h2 h3 (by rw [hlenq]; unfold ix; split <;> omega)] at ht
                simp at ht; subst ht
                exact hA j h1 h2 (hall j (by omega)) t h3
              · rw [PhiF_none] at ht
                · refine hB' t u ht fun j hj hl hd => ?_
                  by_cases e1 : j = ops.size - 1
                  · subst e1; exact hnl hl
                  · by_cases e2 : j = k
                    · subst e2
                      unfold dstOf at hd
                      rw [hk] at hd
                      simp [hkd] at hd
                      exact hne hd
                    · exact hw ⟨j, by omega, e2, hd⟩
                · intro m hm hd
                  rw [hdq] at hd
                  split at hd
                  · exact hw ⟨m, by omega, by omega, hd⟩
                  · split at hd
                    · exact hw ⟨m + 1, by omega, by omega, hd⟩
                    · simp at hd
          have hwp := exOps_sound hT ops.toList (Q := Lift n K) [of] _ a w' _ _ hagr (hfin p w' hp3 hx hp2) (fun F a w ha q => ⟨F, ha, q⟩) (fun ch F a w ha q => ⟨F, ha, q⟩)
          unfold wpList at hwp
          rw [if_pos (wanted_none hfg)] at hwp ⊢
          have hready : Region.ready .any ops (listed.setIfInBounds (ops.size - 1) true) = [] := by
            rw [List.eq_nil_iff_forall_not_mem]
            intro j hj
            obtain ⟨h1, h2, _⟩ := (mem_ready hs' hac).1 hj
            refine h2 ((hLs j).2 ?_)
            by_cases e : j = ops.size - 1
            · exact .inl e
            · exact .inr (hall j (by omega))
          rcases hwp with hwp | hwp
          · refine .inl (Oper.wp_mono (fun a w q => ?_) hwp)
            cases fuel with
            | zero => exact ⟨hready, q⟩
            | succ f => exact ⟨fun _ => q, fun j hj => by rw [hready] at hj; exact absurd hj (by simp)⟩
          · exact .inr hwp
        · have hi' : i + 1 < ops.size := by omega
          have hnl' : ¬ Lst (listed.setIfInBounds i true) (ops.size - 1) := fun e => by
            rcases (hLs _).1 e with e | e
            · omega
            · exact hnl e
          by_cases hik : i = k
          · -- the new block
            subst hik
            simp only [hk]
            rw [if_pos (wanted_none hkg)]
            refine .inl ?_
            unfold Oper.wp
            have hrun : (execOp a.eval ok).run P w' = Result.ok (.value (.pointer (some ⟨w'.heap.size, 0, none⟩))) (w'.alloc (.cells ti.zero.cells ty)) := by
              unfold execOp
              simp [hko, Instr.alloc, run_zero hT.1 hti, newVar, newRow]
            refine upon_val hrun ?_
            have hxa := Ext.alloc w' (.cells ti.zero.cells ty)
            have hdn : dk < a.tmps.size := by rw [hsz]; simpa [dstOk] using hkn
            refine ih _ _ _ hs' hcl' hc' hnl' (hx.trans hxa) (by simp [hkd, Act.put, hsz]) (by simpa [hkd, Act.put] using hdf) (fun j hj hjk hl d hd => ?_) (fun t u ht hno => ?_) (fun _ => ⟨w'.heap.size, ?_, ?_, hx.size⟩)
            · have hne : dk ≠ d := fun e => by
                subst e
                refine (huq i hi1 j (by omega) (fun e => hjk e.symm)).1 ?_ ?_ <;> simp [dstOf, hk, hkd] at hd ⊢
                exact hd
              simp only [hkd, Act.put]
              rw [Array.getElem?_setIfInBounds_ne hne]
              exact hA j hj hjk (((hLs j).1 hl).resolve_left hjk) d hd
            · have hne : dk ≠ t := fun e => by
                subst e
                exact hno i hi1 ((hLs i).2 (.inl rfl)) (by simp [dstOf, hk, hkd])
              simp only [hkd, Act.put]
              rw [Array.getElem?_setIfInBounds_ne hne]
              exact hB' t u ht fun j hj hl => hno j hj ((hLs j).2 (.inr hl))
            · simp only [hkd, Act.put]
              rw [Array.getElem?_setIfInBounds_self_of_lt hdn]
            · unfold Blk; show (w'.heap.push _)[w'.heap.size]? = _; simp
          · -- one that changes nothing
            obtain ⟨o, ho⟩ : ∃ o, ops[i]? = some o := ⟨ops[i], Array.getElem?_eq_getElem hi1⟩
            obtain ⟨hdo, hy⟩ := hY (ix k i) o (by rw [quL_get hk1 hi' hik]; exact ho)
            simp only [ho]
            have hreads : ∀ t ∈ tmpsOf o ++ gdOf ops o, ∀ u, PhiF F (quL ops k) vals (ix k i) t = some u → a.tmps[t]? = some u := by
              intro t ht u hu
              have hrd : t ∈ rdOf ops i := by unfold rdOf; simp only [ho]; exact ht
              by_cases hw : ∃ j, j < ops.size ∧ j ≠ i ∧ dstOf ops j = some t
              · obtain ⟨j, h1, h2, h3⟩ := hw
                obtain ⟨hjk, hor⟩ := (huq i hi1 j h1 (fun e => h2 e.symm)).2 hik (by omega) t hrd h3
                rcases hor with ⟨hlt, han⟩ | ⟨hlt, han⟩
                · have hlj := hanc j han
                  rw [hPhiW j t _ (by omega) hjk h3 (by unfold ix; split <;> split <;> omega)] at hu
                  simp at hu; subst hu
                  exact hA j (by omega) hjk hlj t h3
                · -- j comes behind: it isn't listed, nobody has written t
                  have hnlj : ¬ Lst listed j := fun hl => by
                    have := closed_anc hcl hac ops.size j i h1 hl han
                    exact hi2 this
                  have honly : ∀ m, m < ops.size → m ≠ j → dstOf ops m ≠ some t := fun m hm hmj hd => (huq j h1 m hm (fun e => hmj e.symm)).1 (by rw [h3]; simp) (by rw [h3, hd])
                  rw [hPhi i hi' hik t _ (fun m hm hmk hd hlt' => by
                    by_cases e : m = j
                    · subst e; unfold ix at hlt'; split at hlt' <;> split at hlt' <;> omega
                    · exact honly m (by omega) e hd)] at hu
                  exact hB' t u hu fun m hm hl hd => by
                    by_cases e : m = j
                    · subst e; exact hnlj hl
                    · exact honly m hm e hd
              · rw [hPhi i hi' hik t _ (fun m hm hmk hd hlt' => by
                  by_cases e : m = i
                  · subst e; omega
                  · exact hw ⟨m, by omega, e, hd⟩)] at hu
                exact hB' t u hu fun m hm hl hd => by
                  by_cases e : m = i
                  · subst e; exact hi2 hl
                  · exact hw ⟨m, hm, e, hd⟩
            have hnext : ∀ w'', Ext w' w'' → wpAny P .any ops (Lift n K) fuel (listed.setIfInBounds i true) (a.put o.dst (vals (ix k i))) w'' := fun w'' hx' => by
              have hdi : dstOf ops i = o.dst := by simp [dstOf, ho]
              refine ih _ _ _ hs' hcl' hc' hnl' (hx.trans hx') ?_ ?_ (fun j hj hjk hl d hd => ?_) (fun t u ht hno => ?_) (fun hl => ?_)
              · cases o.dst <;> simp [Act.put, hsz]
              · cases o.dst <;> simpa [Act.put] using hdf
              · by_cases e : j = i
                · subst e
                  rw [hdi] at hd
                  rw [hd] at hdo ⊢
                  simp only [Act.put]
                  rw [Array.getElem?_setIfInBounds_self_of_lt (by rw [hsz]; simpa [dstOk] using hdo)]
                · have := hA j hj hjk (((hLs j).1 hl).resolve_left e) d hd
                  cases hod : o.dst with
                  | none => exact this
                  | some d' =>
                    have hne : d' ≠ d := fun e' => by
                      subst e'
                      exact (huq i hi1 j (by omega) (fun e'' => e e''.symm)).1 (by rw [hdi, hod]; simp) (by rw [hdi, hod, hd])
                    simp only [Act.put]
                    rw [Array.getElem?_setIfInBounds_ne hne]
                    exact this
              · have := hB' t u ht fun j hj hl => hno j hj ((hLs j).2 (.inr hl))
                cases hod : o.dst with
                | none => exact this
                | some d' =>
                  have hne : d' ≠ t := fun e' => by subst e'; exact hno i hi1 ((hLs i).2 (.inl rfl)) (by rw [hdi, hod])
                  simp only [Act.put]
                  rw [Array.getElem?_setIfInBounds_ne hne]
                  exact this
              · obtain ⟨p, g1, g2, g3⟩ := hC (((hLs k).1 hl).resolve_left (fun e => hik e.symm))
                refine ⟨p, ?_, g2.ext hx', g3⟩
                cases hod : o.dst with
                | none => exact g1
                | some d' =>
                  have hne : d' ≠ dk := fun e' => by
                    subst e'
                    exact (huq i hi1 k (by omega) hik).1 (by rw [hdi, hod]; simp) (by rw [hdi, hod]; simp [dstOf, hk, hkd])
                  simp only [Act.put]
                  rw [Array.getElem?_setIfInBounds_ne hne]
                  exact g1
            rcases hy a hreads with ⟨hno, hv⟩ | ⟨hyes, hrun⟩
            · rw [if_neg (by rw [hno]; simp)]
              rw [← hv]
              exact hnext w' (Ext.refl _)
            · rw [if_pos hyes]
              refine .inl ?_
              unfold Oper.wp
              rcases hrun w' hx with e | ⟨f, args, e, hcl2⟩
              · exact upon_val e (hnext w' (Ext.refl _))
              · rw [e]
                refine Calls.mono hcl2.out fun en w'' q => ?_
                cases en with
                | returned u => obtain ⟨q1, q2⟩ := q; subst q1; exact hnext w'' q2
                | panicked ch => exact q.elim
                | outgrown => exact q.elim
  refine main ops.size _ a0 _ (by simp) (fun i hi hl => ?_) ?_ ?_ ⟨rfl, rfl, rfl, Nat.le_refl _, fun _ _ => rfl⟩ ha0.1 ha0.2.1 (fun i hi _ hl => ?_) (fun t u ht _ => ha0.2.2 t u ht) (fun hl => ?_)
  · exact absurd hl (by unfold Lst; simp [Array.getD_eq_getD_getElem?, hi])
  · have : ∀ m, m ≤ ops.size → cnt (Array.replicate ops.size false) m ≤ m := by
      intro m
      induction m with
      | zero => intro _; simp [cnt]
      | succ m ihm => intro h; have := ihm (by omega); simp only [cnt]; split <;> omega
    exact this _ (Nat.le_refl _)
  · unfold Lst; simp [Array.getD_eq_getD_getElem?, hN]
  · exact absurd hl (by unfold Lst; simp [Array.getD_eq_getD_getElem?, show i < ops.size by omega])
  · exact absurd hl (by unfold Lst; simp [Array.getD_eq_getD_getElem?, show k < ops.size by omega])
end
end Go.Sh
namespace Go.Sh
open Go.RowKit
section
variable {P : Program} {κ ν : Type} [DecidableEq κ] {K : TypeId} {kv : κ → Value} {vv : ν → Value}
structure Ents (kv : κ → Value) (vv : ν → Value) (es : List MapEntry) (clk : Nat) (m : List (κ × ν)) : Prop where
  len : es.length = m.length
  at_ : ∀ (i : Nat) (k : κ) (v : ν), m[i]? = some (k, v) → ∃ b : Nat, es[i]? = some (⟨kv k, vv v, b⟩ : MapEntry) ∧ b < clk
  inc : ∀ (i j : Nat) (a b : MapEntry), i < j → es[i]? = some a → es[j]? = some b → a.born < b.born
theorem Ents.map {es : List MapEntry} {clk : Nat} {m : List (κ × ν)} (h : Ents kv vv es clk m) : es.map (fun e => (e.key, e.val)) = m.map fun x => (kv x.1, vv x.2) := by
  apply List.ext_getElem?
  intro i
  simp only [List.getElem?_map]
  cases hm : m[i]? with
  | none =>
    have : es[i]? = none := by rw [List.getElem?_eq_none_iff, h.len]; exact List.getElem?_eq_none_iff.1 hm
    rw [this]; rfl
  | some x =>
    obtain ⟨b, hb, _⟩ := h.at_ i x.1 x.2 hm
    rw [hb]; rfl
def MapO (kv : κ → Value) (vv : ν → Value) (w : World) (r : Nat) (m : List (κ × ν)) : Prop := ∃ es clk, w.heap[r]? = some (.map es.toArray clk) ∧ Ents kv vv es clk m
theorem MapO.lt {w : World} {r : Nat} {m : List (κ × ν)} (h : MapO kv vv w r m) : r < w.heap.size := by
  obtain ⟨es, clk, h1, _⟩ := h
  exact (Array.getElem?_eq_some_iff.1 h1).1
theorem MapO.ext {w w' : World} {r : Nat} {m : List (κ × ν)} (h : MapO kv vv w r m) (e : Ext w w') : MapO kv vv w' r m := by
  have := h.lt
  obtain ⟨es, clk, h1, h2⟩ := h
  exact ⟨es, clk, (Below.block e r this).trans h1, h2⟩
theorem MapO.from {w w' : World} {r : Nat} {m : List (κ × ν)} (e : Ext w w') (h : MapO kv vv w r m) : MapO kv vv w' r m := h.ext e
theorem MapO.upd {w w' : World} {r b : Nat} {m : List (κ × ν)} (h : MapO kv vv w r m) (u : Upd b w w') (hne : r ≠ b) : MapO kv vv w' r m := by
  obtain ⟨es, clk, h1, h2⟩ := h
  exact ⟨es, clk, (u.block r hne).trans h1, h2⟩
theorem MapO.grow {w w' : World} {A : Option Addr} {r : Nat} {m : List (κ × ν)} (h : MapO kv vv w r m) (g : Grow A w w') (hne : obk A ≠ some r) : MapO kv vv w' r m := by
  have := h.lt
  obtain ⟨es, clk, h1, h2⟩ := h
  exact ⟨es, clk, (g.block r this fun e => hne (by rw [e, obk_eq])).trans h1, h2⟩
end
end Go.Sh
namespace Go.Sh
open Go.RowKit
section
variable {α : Type} {enc : α → List Value} {sz : Nat} {e : TypeId} {w w' : World} {B : Nat} {A : Option Addr} {c : Nat} {l : List α}
structure Que (enc : α → List Value) (sz : Nat) (e : TypeId) (w : World) (B : Nat) (A : Option Addr) (c : Nat) (l : List α) : Prop where
  sizes : ∀ x ∈ l, (enc x).length = sz
  le : l.length ≤ c
  place : (A = none ∧ c = 0) ∨ ∃ b off cs, A = some ⟨b, off, none⟩ ∧ B ≤ b ∧ Blk w b e cs ∧ off + c * sz ≤ cs.length ∧ ∀ j v, (l.flatMap enc)[j]? = some v → cs[off + j]? = some v
theorem Que.nil : Que enc sz e w B none 0 ([] : List α) := ⟨by simp, by simp, .inl ⟨rfl, rfl⟩⟩
theorem Que.of_blk {p off : Nat} {cs : List Value} (hb : Blk w p e cs) (hB : B ≤ p) (hl : ∀ x ∈ l, (enc x).length = sz) (hc : l.length ≤ c) (hcs : off + c * sz ≤ cs.length) (hat : ∀ j v, (l.flatMap enc)[j]? = some v → cs[off + j]? = some v) :
    Que enc sz e w B (some ⟨p, off, none⟩) c l := ⟨hl, hc, .inr ⟨p, off, cs, rfl, hB, hb, hcs, hat⟩⟩
theorem flat_len (h : ∀ x ∈ l, (enc x).length = sz) : (l.flatMap enc).length = l.length * sz := by
  induction l with
  | nil => simp
  | cons x r ih =>
    simp only [List.flatMap_cons, List.length_append, List.length_cons]
    rw [ih (fun y hy => h y (by simp [hy])), h x (by simp), Nat.add_mul]; omega
theorem Que.of_full {p : Nat} (hb : Blk w p e (l.flatMap enc)) (hB : B ≤ p) (hl : ∀ x ∈ l, (enc x).length = sz) : Que enc sz e w B (some ⟨p, 0, none⟩) l.length l :=
  .of_blk hb hB hl (Nat.le_refl _) (by rw [flat_len hl]; omega) fun j v h => by rw [Nat.zero_add]; exact h
theorem Que.ext (h : Que enc sz e w B A c l) (x : Ext w w') : Que enc sz e w' B A c l := by
  refine ⟨h.sizes, h.le, ?_⟩
  rcases h.place with h1 | ⟨b, off, cs, hA, hB, hb, r⟩
  · exact .inl h1
  · exact .inr ⟨b, off, cs, hA, hB, hb.ext x, r⟩
theorem Que.from (x : Ext w w') (h : Que enc sz e w B A c l) : Que enc sz e w' B A c l := h.ext x
theorem Que.upd {b : Nat} (h : Que enc sz e w B A c l) (u : Upd b w w') (hne : obk A ≠ some b) : Que enc sz e w' B A c l := by
  refine ⟨h.sizes, h.le, ?_⟩
  rcases h.place with h1 | ⟨b', off, cs, hA, hB, hb, r⟩
  · exact .inl h1
  · refine .inr ⟨b', off, cs, hA, hB, hb.upd u fun e => hne (by rw [hA, e]; rfl), r⟩
theorem Que.grow {A2 : Option Addr} (h : Que enc sz e w B A c l) (g : Grow A2 w w') (hne : obk A = none ∨ obk A ≠ obk A2) : Que enc sz e w' B A c l := by
  refine ⟨h.sizes, h.le, ?_⟩
  rcases h.place with h1 | ⟨b', off, cs, hA, hB, hb, r⟩
  · exact .inl h1
  · refine .inr ⟨b', off, cs, hA, hB, hb.grow' g fun e => ?_, r⟩
    rcases hne with h2 | h2
    · rw [hA] at h2; simp [obk] at h2
    · exact h2 (by rw [e, hA]; rfl)
theorem Que.obk_lt (h : Que enc sz e w B A c l) : ∀ k, obk A = some k → k < w.heap.size ∧ B ≤ k := by
  intro k hk
  rcases h.place with ⟨rfl, _⟩ | ⟨b, off, cs, rfl, hB, hb, _⟩
  · simp [obk] at hk
  · simp [obk] at hk; subst hk; exact ⟨hb.lt, hB⟩
theorem Que.rd (h : Que enc sz e w B A c l) : RdS enc sz w A l := by
  rcases h.place with ⟨rfl, h0⟩ | ⟨b, off, cs, rfl, hB, hb, hl, hat⟩
  · have : l = [] := List.length_eq_zero_iff.1 (by have := h.le; omega)
    subst this; exact RdS.nil
  · refine ⟨fun _ => ⟨by simp, hb.lt⟩, fun i x hx => ⟨enc x, h.sizes x (List.mem_of_getElem? hx), rfl, fun j v hv => ?_⟩⟩
    simp only [gA]
    rw [add_lit, hb.cell]
    exact hat _ _ (flatMap_at h.sizes i x hx j v hv)
theorem RdS.take {k : Nat} (h : RdS enc sz w A l) : RdS enc sz w A (l.take k) := by
  refine ⟨fun hn => h.some (fun e => by subst e; simp at hn), fun i x hx => h.at_ i x ?_⟩
  rw [List.getElem?_take] at hx
  split at hx
  · exact hx
  · simp at hx
variable {P : Program} {T : Tab} {k : Value → World → Prop} {Y : List PanicEntry → World → Prop}
theorem run_slice_of (hT : TabOk P T) {t : TypeId} {ti ei : TI} {n : Nat} (ht : getT T.ts t = some ti) (hd : ti.desc = .slice e) (he : getT T.ts e = some ei) (hsz : ei.size = sz) (lo hi : Option Value) :
    (Instr.sliceAt t (.slice A n c) lo hi none).run P w = ((Instr.sliceBounds true n c lo hi none).run P w).andThen fun b w => .ok (.slice (if b.2.2 = b.1 then A else A.map (·.add (b.1 * sz))) (b.2.1 - b.1) (b.2.2 - b.1)) w := by
  have hu := run_und hT.1 ht (w := w)
  have h1 : (Instr.sliceAt t (.slice A n c) lo hi none).run P w = (Instr.slice t (.slice A n c) lo hi none).run P w := by
    simp [Instr.sliceAt, hu, hd]
  rw [h1]
  simp only [Instr.slice, Sem.run_bind, hu, hd, Result.andThen_ok]
  cases hb : (Instr.sliceBounds true n c lo hi none).run P w with
  | ok b w1 => simp [Result.andThen, run_size hT.1 he, hsz]
  | halt x w1 => simp [Result.andThen]
theorem run_bound {kl : IntKind} {i y : Nat} {cd : BoundsCode} (h : i ≤ y) : (Instr.sliceBound (.int kl (i : Int)) y cd).run P w = .ok i w := by
  simp [Instr.sliceBound, asIntOf, h]
theorem Sm.cutHi (hT : TabOk P T) {t : TypeId} {ti ei : TI} {n i : Nat} {kl : IntKind} {a : Int} (ht : getT T.ts t = some ti) (hd : ti.desc = .slice e) (he : getT T.ts e = some ei) (hsz : ei.size = sz)
    (ha : a = (i : Int)) (hi : i ≤ c) (hk : k (.slice A i c) w) : Sm P (Instr.sliceAt t (.slice A n c) none (some (.int kl a)) none) w k Y := by
  subst ha
  refine ⟨?_⟩
  have hb : (Instr.sliceBounds true n c none (some (.int kl (i : Int))) none).run P w = .ok (0, i, c) w := by
    simp [Instr.sliceBounds, run_bound hi]
  rw [run_slice_of hT ht hd he hsz, hb]
  simp only [Result.andThen_ok, Nat.zero_mul, Nat.sub_zero]
  have : (if c = 0 then A else A.map (·.add 0)) = A := by
    split
    · rfl
    · cases A with
      | none => rfl
      | some a => simp [Addr.add]
  rw [this]; exact hk
theorem src_cells {X : Addr} {m : List α} (hpos : 0 < sz) (hr : RdS enc sz w (some X) m) (hm : ∀ x ∈ m, (enc x).length = sz) : ∀ j u, (m.flatMap enc)[j]? = some u → w.cell? (X.add j) = some u := by
  intro j u hu
  have hjl := (List.getElem?_eq_some_iff.1 hu).1
  rw [flat_len hm] at hjl
  have hq : j / sz < m.length := Nat.div_lt_of_lt_mul (by rw [Nat.mul_comm]; exact hjl)
  obtain ⟨vs, g1, g2, g3⟩ := hr.at_ (j / sz) m[j / sz] (List.getElem?_eq_getElem hq)
  unfold Fl at g2
  subst g2
  have hr := Nat.mod_lt j hpos
  have hx : (enc m[j / sz])[j % sz]? = some ((enc m[j / sz])[j % sz]'(by rw [g1]; exact hr)) := List.getElem?_eq_getElem _
  have e1 := flatMap_at hm (j / sz) _ (List.getElem?_eq_getElem hq) (j % sz) _ hx
  have e2 := g3 (j % sz) _ hx
  have hdm : j / sz * sz + j % sz = j := by rw [Nat.mul_comm]; exact Nat.div_add_mod j sz
  rw [hdm] at e1 e2
  rw [hu] at e1
  simp only [gA] at e2
  rw [e2, ← e1]
theorem Sm.appQ (hT : TabOk P T) {t ty : TypeId} {ti ei : TI} {X : Option Addr} {m : List α} {n n2 c2 : Nat}
    (ht : getT T.ts t = some ti) (hd : ti.desc = .slice e) (he : getT T.ts e = some ei) (hsz : ei.size = sz) (hz : ei.zero.cells.size = sz) (hpos : 0 < sz)
    (h : Que enc sz e w B A c l) (hn : n = l.length) (hr : RdS enc sz w X m) (hn2 : n2 = m.length) (hne : m ≠ []) (hm : ∀ x ∈ m, (enc x).length = sz) (h1 : ∀ x ∈ m, ∀ v ∈ enc x, v.oneCell' = true)
    (hlen : (l.length + m.length) * ei.bytes ≤ 140737488355328) (hlen2 : l.length + m.length ≤ 140737488355328) (hB : B ≤ w.heap.size)
    (hk : ∀ A' c' w', Que enc sz e w' B A' c' (l ++ m) → Grow A w w' → (obk A' = obk A ∨ obk A' = some w.heap.size) → k (.slice A' (l ++ m).length c') w') : Sm P (Builtin.append_ #[t, t] ty #[.slice A n c, .slice X n2 c2]) w k Y := by
  subst hn hn2
  obtain ⟨j, hj, hjz, hjs, hjb⟩ := info_of hT.1 he
  have hu := (hT.1.get ht).1
  rw [hd] at hu
  have hjs' : j.size = sz := hjs.trans hsz
  have hfm := flat_len hm
  have hfl := flat_len h.sizes
  have hm0 : 0 < m.length := List.length_pos_iff.2 hne
  obtain ⟨ad, rfl⟩ : ∃ ad, X = some ad := Option.ne_none_iff_exists'.1 (hr.some hne).1
  have hnews := src_cells hpos hr hm
  have hall : ∀ x ∈ l ++ m, (enc x).length = sz := fun x hx => (List.mem_append.1 hx).elim (h.sizes x) (hm x)
  have h1' : ∀ u ∈ m.flatMap enc, u.oneCell' = true := fun u hu => by
    obtain ⟨x, hx, hv⟩ := List.mem_flatMap.1 hu
    exact h1 x hx u hv
  have grown : ∀ (c0 : Nat) (old : List Value), old = l.flatMap enc → l.length + m.length ≤ c0 → ∀ (p : Nat) (w2 : World), p = w.heap.size → w2 = w.drew.alloc (.cells (old.toArray ++ (m.flatMap enc).toArray ++ Builtin.zeroCells ei.zero.cells (c0 - (l.length + m.length))) e) →
      Que enc sz e w2 B (some ⟨p, 0, none⟩) c0 (l ++ m) ∧ Grow A w w2 := by
    rintro c0 _ rfl hc p w2 rfl rfl
    refine ⟨Que.of_blk (cs := l.flatMap enc ++ m.flatMap enc ++ (Builtin.zeroCells ei.zero.cells (c0 - (l.length + m.length))).toList) ?_ hB hall (by simp; omega) ?_ ?_, ⟨rfl, rfl, rfl, ?_, fun i hi _ => ?_⟩⟩
    · unfold Blk
      show (w.heap.push _)[w.heap.size]? = _
      simp
    · simp only [List.length_append, hfm, hfl, Array.length_toList, size_zeroCells, hz]
      rw [← Nat.add_mul, ← Nat.add_mul, Nat.zero_add]
      exact Nat.mul_le_mul_right _ (by omega)
    · intro j v hv
      rw [Nat.zero_add, ← List.flatMap_append, List.getElem?_append_left (List.getElem?_eq_some_iff.1 hv).1]
      exact hv
    · show w.heap.size ≤ (w.heap.push _).size
      simp
    · show (w.heap.push _)[i]? = _
      rw [Array.getElem?_push_lt hi, Array.getElem?_eq_getElem hi]
  have h63 : ((l.length + m.length : Nat) : Int) ≤ 9223372036854775807 := by omega
  refine ⟨?_⟩
  rcases h.place with ⟨rfl, rfl⟩ | ⟨b, off, cs, rfl, hBb, hb, hcl, hat⟩
  · have hl0 : l = [] := List.length_eq_zero_iff.1 (by have := h.le; omega)
    subst hl0
    simp only [List.length_nil, Nat.zero_add] at hlen h63 ⊢
    rw [run_append_nil w t ty e j ei.zero hu hj hjz ad m.length c2 (m.flatMap enc) (by rw [hfm, hjs']) hnews hm0 h63 (by rw [hjb]; omega)]
    obtain ⟨g1, g2⟩ := grown (grownCap w m.length 0 e) [] rfl (by simp; exact grownCap_ge _ _ _ _) _ (w.drew.alloc (.cells ((m.flatMap enc).toArray ++ Builtin.zeroCells ei.zero.cells (grownCap w m.length 0 e - m.length)) e)) rfl (by simp)
    have := hk _ _ _ g1 g2 (.inr rfl)
    simpa using this
  · by_cases hroom : l.length + m.length ≤ c
    · have hf := run_firstCells_some (P := P) w j.size m.length ad m.length c2 (m.flatMap enc) (by rw [hfm, hjs']) hnews
      have hfit : off + l.length * sz + (m.flatMap enc).length ≤ cs.length := by
        rw [hfm]
        have := Nat.mul_le_mul_right sz hroom
        rw [Nat.add_mul] at this
        omega
      have hst := run_storeCells_sh (P := P) ((⟨b, off, none⟩ : Addr).add (l.length * sz)) (m.flatMap enc) 0 w h1' (fun i hi => by
        rw [add_add, add_lit]
        refine ⟨?_, hb.frozen _ rfl⟩
        rw [hb.cell]
        exact ⟨cs[off + (l.length * sz + (0 + i))]'(by omega), List.getElem?_eq_getElem (by omega)⟩)
      have hrun : (Builtin.append_ #[t, t] ty #[.slice (some ⟨b, off, none⟩) l.length c, .slice (some ad) m.length c2]).run P w = .ok (.slice (some ⟨b, off, none⟩) (l.length + m.length) c) (setCells w ((⟨b, off, none⟩ : Addr).add (l.length * sz)) (m.flatMap enc) 0) := by
        simp [Builtin.append_, run_underlying hu, sizeOf, typeInfo, hj, Builtin.lenOf, hroom, hf]
        rw [hjs', hst]
        simp
      rw [hrun]
      have hblk := setCells_blk (b := b) (o := off + l.length * sz) (m.flatMap enc) cs 0 w hb (by simpa using hfit)
      have hup := setCells_heap (⟨b, off + l.length * sz, none⟩) (m.flatMap enc) 0 w
      rw [add_lit]
      have hq : Que enc sz e (setCells w ⟨b, off + l.length * sz, none⟩ (m.flatMap enc) 0) B (some ⟨b, off, none⟩) c (l ++ m) := by
        refine Que.of_blk hblk hBb hall (by simp; omega) ?_ ?_
        · simp only [putL, List.length_append, List.length_take, List.length_drop, Nat.add_zero]
          omega
        · intro i v hv
          unfold putL
          rw [List.flatMap_append] at hv
          simp only [Nat.add_zero]
          have hil := (List.getElem?_eq_some_iff.1 hv).1
          simp only [List.length_append, hfl, hfm] at hil
          rw [List.append_assoc]
          rcases Nat.lt_or_ge i (l.length * sz) with hi | hi
          · rw [List.getElem?_append_left (by rw [hfl]; exact hi)] at hv
            rw [List.getElem?_append_left (by simp; omega), List.getElem?_take_of_lt (by omega)]
            exact hat i v hv
          · rw [List.getElem?_append_right (by rw [hfl]; exact hi), hfl] at hv
            rw [List.getElem?_append_right (by simp; omega), List.length_take, Nat.min_eq_left (by omega), show off + i - (off + l.length * sz) = i - l.length * sz by omega, List.getElem?_append_left (by rw [hfm]; omega)]
            exact hv
      have := hk _ _ _ hq ⟨hup.os, hup.tape, hup.output, Nat.le_of_eq hup.size.symm, fun i _ hne => hup.block i fun e' => hne (by rw [e']; rfl)⟩ (.inl rfl)
      simpa using this
    · have hgw : c < l.length + m.length := by omega
      have holds : ∀ j v, (l.flatMap enc)[j]? = some v → w.cell? ((⟨b, off, none⟩ : Addr).add j) = some v := fun j v hv => by
        rw [add_lit, hb.cell]
        exact hat j v hv
      rw [run_append_grow w t ty e j ei.zero hu hj hjz ⟨b, off, none⟩ l.length c (l.flatMap enc) (by rw [hfl, hjs']) holds ad m.length c2 (m.flatMap enc) (by rw [hfm, hjs']) hnews hgw h63 (growslice_fits hgw (by rw [hjb]; exact hlen))]
      obtain ⟨g1, g2⟩ := grown (grownCap w (l.length + m.length) c e) _ rfl (grownCap_ge _ _ _ _) _ _ rfl rfl
      have := hk _ _ _ g1 g2 (.inr rfl)
      simpa using this
end
section
variable {P : Program} {κ ν : Type} [DecidableEq κ] {K : TypeId} {kv : κ → Value} {vv : ν → Value} {w w' : World} {r b : Nat} {m : List (κ × ν)} {ix : List Nat}
def bornAt (es : List MapEntry) (i : Nat) : Nat := (es[i]?.map (·.born)).getD 0
def Iter (kv : κ → Value) (vv : ν → Value) (w : World) (r b : Nat) (m : List (κ × ν)) (ix : List Nat) : Prop :=
  ∃ es clk since seen c0, w.heap[b]? = some (.map es.toArray clk) ∧ Ents kv vv es clk m ∧ w.heap[r]? = some (.mapIter (some b) since seen c0) ∧ (∀ x ∈ es, x.born < since) ∧ since ≤ c0 ∧
    seen.toList = ix.map (bornAt es) ∧ ix.Nodup ∧ (∀ i ∈ ix, i < m.length) ∧ (ix ≠ [] → c0 = clk) ∧ since ≤ clk
theorem Ents.born_lt {es : List MapEntry} {clk : Nat} (h : Ents kv vv es clk m) : ∀ x ∈ es, x.born < clk := by
  intro x hx
  obtain ⟨i, hi⟩ := List.getElem?_of_mem hx
  have hlt := (List.getElem?_eq_some_iff.1 hi).1
  have hm : i < m.length := by rw [← h.len]; exact hlt
  obtain ⟨b, hb, hc⟩ := h.at_ i m[i].1 m[i].2 (by rw [List.getElem?_eq_getElem hm])
  rw [hi] at hb; simp at hb; subst hb; exact hc
theorem Ents.born_inj {es : List MapEntry} {clk : Nat} (h : Ents kv vv es clk m) {i j : Nat} {x y : MapEntry} (hi : es[i]? = some x) (hj : es[j]? = some y) (e : x.born = y.born) : i = j := by
  rcases Nat.lt_trichotomy i j with h1 | h1 | h1
  · have := h.inc i j x y h1 hi hj; omega
  · exact h1
  · have := h.inc j i y x h1 hj hi; omega
theorem Iter.lt (h : Iter kv vv w r b m ix) : r < w.heap.size ∧ b < w.heap.size := by
  obtain ⟨es, clk, since, seen, c0, h1, _, h3, _⟩ := h
  exact ⟨(Array.getElem?_eq_some_iff.1 h3).1, (Array.getElem?_eq_some_iff.1 h1).1⟩
theorem Iter.ext (h : Iter kv vv w r b m ix) (e : Ext w w') : Iter kv vv w' r b m ix := by
  obtain ⟨l1, l2⟩ := h.lt
  obtain ⟨es, clk, since, seen, c0, h1, h2, h3, h4⟩ := h
  exact ⟨es, clk, since, seen, c0, (Below.block e b l2).trans h1, h2, (Below.block e r l1).trans h3, h4⟩
theorem Iter.from (e : Ext w w') (h : Iter kv vv w r b m ix) : Iter kv vv w' r b m ix := h.ext e
theorem Iter.upd {c : Nat} (h : Iter kv vv w r b m ix) (u : Upd c w w') (hr : r ≠ c) (hb : b ≠ c) : Iter kv vv w' r b m ix := by
  obtain ⟨es, clk, since, seen, c0, h1, h2, h3, h4⟩ := h
  exact ⟨es, clk, since, seen, c0, (u.block b hb).trans h1, h2, (u.block r hr).trans h3, h4⟩
theorem Sm.range {T : Tab} {t E : TypeId} {ti : TI} {k : Value → World → Prop} {Y : List PanicEntry → World → Prop} (hT : TabOk P T) (ht : getT T.ts t = some ti) (hd : ti.desc = .map K E) (h : MapO kv vv w b m)
    (hk : ∀ r w', w.heap.size = r → Ext w w' → Iter kv vv w' r b m [] → k (.pointer (some ⟨r, 0, none⟩)) w') : Sm P (Instr.range t (.map (some b))) w k Y := by
  have hlt := h.lt
  obtain ⟨es, clk, h1, h2⟩ := h
  have hu := (hT.1.get ht).1
  rw [hd] at hu
  refine ⟨?_⟩
  rw [run_range_map w t K E b es.toArray clk hu h1]
  refine hk _ _ rfl (Ext.alloc w _) ⟨es, clk, clk, #[], clk, (Below.block (Ext.alloc w _) b hlt).trans h1, h2, ?_, h2.born_lt, Nat.le_refl _, rfl, List.nodup_nil, by simp, by simp, Nat.le_refl _⟩
  show (w.heap.push _)[w.heap.size]? = _
  simp
theorem Sm.next {ty : TypeId} {k : Value → World → Prop} {Y : List PanicEntry → World → Prop} (h : Iter kv vv w r b m ix) (h0 : (∀ i, i < m.length → i ∈ ix) → k (.tuple #[.bool false]) w)
    (h1 : ∀ i x w', m[i]? = some x → i ∉ ix → Upd r w w' → Iter kv vv w' r b m (ix ++ [i]) → k (.tuple #[.bool true, kv x.1, vv x.2]) w') : Sm P (Instr.next (.pointer (some ⟨r, 0, none⟩)) false ty) w k Y := by
  obtain ⟨es, clk, since, seen, c0, hb, hE, hr, hs, hsc, hse, hnd, hin, hc0, hsk⟩ := h
  have hne : r ≠ b := fun e => by rw [e, hb] at hr; simp at hr
  have hmem : ∀ i x, es[i]? = some x → (x.born ∈ seen ↔ i ∈ ix) := by
    intro i x hx
    rw [← Array.mem_toList_iff, hse, List.mem_map]
    refine ⟨fun ⟨j, hj, e⟩ => ?_, fun hi => ⟨i, hi, by simp [bornAt, hx]⟩⟩
    have hjl : j < es.length := by rw [hE.len]; exact hin j hj
    have hy : es[j]? = some es[j] := List.getElem?_eq_getElem hjl
    have e2 : es[j].born = x.born := by rw [← e]; simp [bornAt, hy]
    have := hE.born_inj hy hx e2
    exact this ▸ hj
  refine ⟨?_⟩
  rcases run_next_at (P := P) w ty r b since c0 seen es.toArray clk hr hb (by simpa using hs) hsc with ⟨hz, hrun⟩ | ⟨e, he, w1, hw1, hrun⟩
  · rw [hrun]
    refine h0 fun i hi => ?_
    have hil : i < es.length := by rw [hE.len]; exact hi
    have hx : es[i]? = some es[i] := List.getElem?_eq_getElem hil
    refine (hmem i _ hx).1 ?_
    have hempty : leftOf es.toArray seen = #[] := Array.eq_empty_of_size_eq_zero hz
    unfold leftOf at hempty
    rw [Array.filter_eq_empty_iff] at hempty
    have := hempty es[i] (by simp)
    simpa using this
  · rw [hrun]
    have hl : e ∈ es ∧ e.born ∉ seen := by
      unfold leftOf at he
      simp at he
      exact ⟨he.1, he.2⟩
    obtain ⟨i, hi⟩ := List.getElem?_of_mem hl.1
    have him : i < m.length := by rw [← hE.len]; exact (List.getElem?_eq_some_iff.1 hi).1
    obtain ⟨bb, hbb, _⟩ := hE.at_ i m[i].1 m[i].2 (by rw [List.getElem?_eq_getElem him])
    rw [hi] at hbb
    simp only [Option.some.injEq] at hbb
    have hni : i ∉ ix := fun h => hl.2 ((hmem i e hi).2 h)
    have hheap : w1.heap = w.heap := by rcases hw1 with rfl | rfl <;> rfl
    have hupd : Upd r w (ChangeMaps.setBlock w1 r (.mapIter (some b) since (seen.push e.born) clk)) := by
      refine ⟨?_, ?_, ?_, ?_, fun j hj => ?_⟩
      · rcases hw1 with rfl | rfl <;> rfl
      · rcases hw1 with rfl | rfl <;> rfl
      · rcases hw1 with rfl | rfl <;> rfl
      · simp [ChangeMaps.setBlock, hheap]
      · show (w1.heap.setIfInBounds r _)[j]? = w.heap[j]?
        rw [Array.getElem?_setIfInBounds, if_neg (fun e : r = j => hj e.symm), hheap]
    have hkey : e.key = kv m[i].1 ∧ e.val = vv m[i].2 := by rw [hbb]; exact ⟨rfl, rfl⟩
    rw [hkey.1, hkey.2]
    refine h1 i m[i] _ (List.getElem?_eq_getElem him) hni hupd ⟨es, clk, since, seen.push e.born, clk, (hupd.block b (fun e => hne e.symm)).trans hb, hE, ?_, hs, by omega, ?_, ?_, ?_, fun _ => rfl, hsk⟩
    · show (w1.heap.setIfInBounds r _)[r]? = _
      rw [hheap]
      simp [(Array.getElem?_eq_some_iff.1 hr).1]
    · simp [hse, bornAt, hi]
    · rw [List.nodup_append]
      exact ⟨hnd, by simp, fun a ha c hc => by simp at hc; subst hc; exact fun e => hni (e ▸ ha)⟩
    · intro j hj
      rcases List.mem_append.1 hj with hj | hj
      · exact hin j hj
      · simp at hj; subst hj; exact him
end
end Go.Sh
namespace Go.Sh
open Go.RowKit
structure Tch (S : Nat → Prop) (w w' : World) : Prop where
  os : w'.os = w.os
  tape : w'.tape = w.tape
  output : w'.output = w.output
  size : w.heap.size ≤ w'.heap.size
  block : ∀ k, k < w.heap.size → ¬ S k → w'.heap[k]? = w.heap[k]?
section
variable {S : Nat → Prop} {w0 w w' w'' : World}
theorem Tch.refl (S : Nat → Prop) (w : World) : Tch S w w := ⟨rfl, rfl, rfl, Nat.le_refl _, fun _ _ _ => rfl⟩
theorem Tch.ext (t : Tch S w w') (e : Ext w' w'') : Tch S w w'' :=
  ⟨(Below.os e).trans t.os, (Below.tape e).trans t.tape, (Below.output e).trans t.output, Nat.le_trans t.size (Below.size e), fun k hk hs => (Below.block e k (Nat.lt_of_lt_of_le hk t.size)).trans (t.block k hk hs)⟩
theorem Tch.upd {b : Nat} (t : Tch S w w') (u : Upd b w' w'') (hb : S b ∨ w.heap.size ≤ b) : Tch S w w'' :=
  ⟨u.os.trans t.os, u.tape.trans t.tape, u.output.trans t.output, by rw [u.size]; exact t.size, fun k hk hs => (u.block k fun e => by
    subst e
    rcases hb with h | h
    · exact hs h
    · omega).trans (t.block k hk hs)⟩
theorem Tch.of_ext (e : Ext w w') : Tch S w w' := (Tch.refl S w).ext e
theorem Ext.tch (e : Ext w0 w) (t : Tch S w w') (hS : ∀ k, S k → w0.heap.size ≤ k) : Ext w0 w' :=
  Below.trans e ⟨t.os, t.tape, t.output, t.size, fun k hk => t.block k (Nat.lt_of_lt_of_le hk (Below.size e)) fun h => by have := hS k h; omega⟩
theorem Blk.tch {b : Nat} {t : TypeId} {cs : List Value} (h : Blk w b t cs) (u : Tch S w w') (hb : ¬ S b) : Blk w' b t cs := (u.block b h.lt hb).trans h
theorem RdS.tch {α : Type} {enc : α → List Value} {sz : Nat} {A : Option Addr} {l : List α} (h : RdS enc sz w A l) (u : Tch S w w') (hb : ∀ b, obk A = some b → ¬ S b) : RdS enc sz w' A l :=
  h.keep u.size fun b hA hlt => u.block b hlt (hb b hA)
variable {α : Type} {enc : α → List Value} {sz : Nat} {e : TypeId} {A : Option Addr} {c : Nat} {l : List α} {P : Program} {T : Tab} {k : Value → World → Prop} {Y : List PanicEntry → World → Prop}
theorem Que.mono {B B' : Nat} (h : Que enc sz e w B A c l) (hB : B' ≤ B) : Que enc sz e w B' A c l := by
  refine ⟨h.sizes, h.le, ?_⟩
  rcases h.place with h1 | ⟨b, off, cs, h2, h3, r⟩
  · exact .inl h1
  · exact .inr ⟨b, off, cs, h2, Nat.le_trans hB h3, r⟩
end
end Go.Sh
namespace Go.Sh
open Go.RowKit
structure Ck where
  fp : Nat → Prop
  P : World → Prop
  own : Bool
  old : Bool
structure Ck.Ok (c : Ck) (w : World) : Prop where
  holds : c.P w
  lt : ∀ k, c.fp k → k < w.heap.size
  loc : ∀ w', w.heap.size ≤ w'.heap.size → (∀ k, c.fp k → w'.heap[k]? = w.heap[k]?) → c.P w'
theorem Ck.Ok.move {c : Ck} {w w' : World} (h : c.Ok w) (hs : w.heap.size ≤ w'.heap.size) (hb : ∀ k, c.fp k → w'.heap[k]? = w.heap[k]?) : c.Ok w' :=
  ⟨h.loc w' hs hb, fun k hk => Nat.lt_of_lt_of_le (h.lt k hk) hs, fun w'' hs' hb' => h.loc w'' (Nat.le_trans hs hs') fun k hk => (hb' k hk).trans (hb k hk)⟩
abbrev nw : Nat → Prop := fun _ => False
abbrev Ck.new (c : Ck) : Prop := c.own = true ∨ c.old = false
structure Hp (S : Nat → Prop) (w0 w : World) (Γ : List Ck) : Prop where
  tch : Tch S w0 w
  ok : ∀ c ∈ Γ, c.Ok w
  sep : Γ.Pairwise fun a b => (a.own = true ∨ b.own = true) → ∀ k, ¬ (a.fp k ∧ b.fp k)
  dom : ∀ c ∈ Γ, c.new → ∀ k, c.fp k → S k ∨ w0.heap.size ≤ k
section
variable {S S' : Nat → Prop} {w0 w w' wb : World} {Γ Γ' Γ1 Γ2 : List Ck} {c c' d : Ck}
theorem Hp.begin (S : Nat → Prop) (w : World) : Hp S w w [] := ⟨Tch.refl S w, by simp, List.Pairwise.nil, by simp⟩
theorem Hp.frame (H : Hp S w0 w (Γ1 ++ Γ2)) (h1 : ∀ c ∈ Γ1, c.own = true) (hS : ∀ k, S' k → ∃ c ∈ Γ1, c.fp k) (H' : Hp S' w w' Γ') (hn : ∀ c ∈ Γ', c.new) : Hp S w0 w' (Γ' ++ Γ2) := by
  have hsep := List.pairwise_append.1 H.sep
  have hout : ∀ b ∈ Γ2, ∀ k, b.fp k → ¬ S' k := fun b hb k hk hs => by
    obtain ⟨c, hc, hck⟩ := hS k hs
    exact hsep.2.2 c hc b hb (.inl (h1 c hc)) k ⟨hck, hk⟩
  have hdom : ∀ k, S' k → S k ∨ w0.heap.size ≤ k := fun k hs => by
    obtain ⟨c, hc, hck⟩ := hS k hs
    exact H.dom c (List.mem_append_left _ hc) (.inl (h1 c hc)) k hck
  have hsz := H.tch.size
  refine ⟨⟨H'.tch.os.trans H.tch.os, H'.tch.tape.trans H.tch.tape, H'.tch.output.trans H.tch.output, Nat.le_trans H.tch.size H'.tch.size, fun k hk hn => ?_⟩, fun b hb => ?_, ?_, fun b hb hn' k hk => ?_⟩
  · rw [H'.tch.block k (by omega) (fun hs => by rcases hdom k hs with h | h; exact hn h; omega)]
    exact H.tch.block k hk hn
  · rcases List.mem_append.1 hb with hb | hb
    · exact H'.ok b hb
    · have h := H.ok b (List.mem_append_right _ hb)
      exact h.move H'.tch.size fun k hk => H'.tch.block k (h.lt k hk) (hout b hb k hk)
  · refine List.pairwise_append.2 ⟨H'.sep, hsep.2.1, fun a ha b hb _ k ⟨h2, h3⟩ => ?_⟩
    have h4 := (H.ok b (List.mem_append_right _ hb)).lt k h3
    rcases H'.dom a ha (hn a ha) k h2 with h | h
    · exact hout b hb k h3 h
    · omega
  · rcases List.mem_append.1 hb with hb | hb
    · rcases H'.dom b hb hn' k hk with h | h
      · exact hdom k h
      · exact .inr (by omega)
    · exact H.dom b (List.mem_append_right _ hb) hn' k hk
theorem Hp.ext (H : Hp S w0 w Γ) (e : Ext w w') : Hp S w0 w' Γ :=
  Hp.frame (Γ1 := []) (Γ' := []) (S' := nw) H (by simp) (fun k h => h.elim) ⟨Tch.of_ext e, by simp, List.Pairwise.nil, by simp⟩ (by simp)
theorem Hp.e (H : Hp nw w0 w Γ) : Ext w0 w := Ext.tch (Ext.refl w0) H.tch (fun k h => h.elim)
theorem Hp.base (H : Hp S w0 w Γ) (hb : Ext wb w0) (hS : ∀ k, S k → wb.heap.size ≤ k) : Ext wb w := Ext.tch hb H.tch hS
def BaseOk (S : Nat → Prop) (wb w0 : World) : Prop := Ext wb w0 ∧ ∀ k, S k → wb.heap.size ≤ k
theorem Hp.base2 (H : Hp S w0 w Γ) (h : BaseOk S wb w0) : Ext wb w := H.base h.1 h.2
theorem Hp.size (H : Hp S w0 w Γ) : w0.heap.size ≤ w.heap.size := H.tch.size
theorem Hp.perm (H : Hp S w0 w Γ) (h : List.Perm Γ Γ') : Hp S w0 w Γ' :=
  ⟨H.tch, fun c hc => H.ok c (h.mem_iff.2 hc), (h.pairwise_iff (fun {a b} q r k z => q r.symm k ⟨z.2, z.1⟩)).1 H.sep, fun c hc => H.dom c (h.mem_iff.2 hc)⟩
theorem Hp.sub (H : Hp S w0 w Γ) (h : List.Sublist Γ' Γ) : Hp S w0 w Γ' :=
  ⟨H.tch, fun c hc => H.ok c (h.mem hc), H.sep.sublist h, fun c hc => H.dom c (h.mem hc)⟩
theorem Hp.atC (H : Hp S w0 w Γ) (i : Nat) (h : Γ[i]? = some c) : c.P w := (H.ok c (List.mem_of_getElem? h)).holds
def selN : List Ck → List Nat → List Ck
  | _, [] => []
  | Γ, i :: r => match Γ[i]? with | some c => c :: selN (Γ.eraseIdx i) r | none => []
theorem erase_perm {α : Type} : ∀ {l : List α} {i : Nat} {x : α}, l[i]? = some x → List.Perm l (x :: l.eraseIdx i)
  | [], i, x, h => by simp at h
  | y :: r, 0, x, h => by simp at h; subst h; simp
  | y :: r, i + 1, x, h => by
    have ih := erase_perm (l := r) (i := i) (x := x) (by simpa using h)
    simp only [List.eraseIdx_cons_succ]
    exact (List.Perm.cons y ih).trans (List.Perm.swap x y _)
theorem selN_sub : ∀ (is : List Nat) (Γ : List Ck), ∃ Δ, List.Perm Γ (selN Γ is ++ Δ)
  | [], Γ => ⟨Γ, by simp [selN]⟩
  | i :: r, Γ => by
    unfold selN
    split
    · rename_i c hc
      obtain ⟨Δ, h⟩ := selN_sub r (Γ.eraseIdx i)
      refine ⟨Δ, ?_⟩
      exact (erase_perm hc).trans (List.Perm.cons _ h)
    · exact ⟨Γ, by simp⟩
theorem Hp.sel (H : Hp S w0 w Γ) (is : List Nat) (h : selN Γ is = Γ') : Hp S w0 w Γ' := by
  obtain ⟨Δ, hp⟩ := selN_sub is Γ
  subst h
  exact (H.perm hp).sub (List.sublist_append_left _ _)
theorem Hp.fr0 (H : Hp S w0 w Γ) (H' : Hp nw w w' [c]) (hn : c.new) : Hp S w0 w' (c :: Γ) :=
  Hp.frame (Γ1 := []) (S' := nw) H (by simp) (fun k h => h.elim) H' (by simpa using hn)
theorem Hp.fr0L (H : Hp S w0 w Γ) (H' : Hp nw w w' Γ') (hn : ∀ c ∈ Γ', c.new) : Hp S w0 w' (Γ' ++ Γ) :=
  Hp.frame (Γ1 := []) (S' := nw) H (by simp) (fun k h => h.elim) H' hn
theorem Hp.join2 (H : Hp S w0 w (c :: d :: Γ)) {e : Ck} (hco : c.own = true) (hdo : d.own = true) (heo : e.new) (hfp : ∀ k, e.fp k → c.fp k ∨ d.fp k) (hok : (∀ k, ¬ (c.fp k ∧ d.fp k)) → c.Ok w → d.Ok w → e.Ok w) : Hp S w0 w (e :: Γ) := by
  have hs := List.pairwise_cons.1 H.sep
  have hs2 := List.pairwise_cons.1 hs.2
  refine ⟨H.tch, fun b hb => ?_, List.pairwise_cons.2 ⟨fun b hb h k hk => ?_, hs2.2⟩, fun b hb hb' k hk => ?_⟩
  · rcases List.mem_cons.1 hb with rfl | hb
    · exact hok (fun k => hs.1 d (by simp) (.inl hco) k) (H.ok c (by simp)) (H.ok d (by simp))
    · exact H.ok b (by simp [hb])
  · rcases hfp k hk.1 with h' | h'
    · exact hs.1 b (by simp [hb]) (.inl hco) k ⟨h', hk.2⟩
    · exact hs2.1 b hb (.inl hdo) k ⟨h', hk.2⟩
  · rcases List.mem_cons.1 hb with rfl | hb
    · rcases hfp k hk with h | h
      · exact H.dom c (by simp) (.inl hco) k h
      · exact H.dom d (by simp) (.inl hdo) k h
    · exact H.dom b (by simp [hb]) hb' k hk
end
theorem lit0 : (0 : Int) = ((0 : Nat) : Int) := rfl
theorem lit1 : (1 : Int) = ((1 : Nat) : Int) := rfl
theorem lit2 : (2 : Int) = ((2 : Nat) : Int) := rfl
abbrev bk (p : Nat) (t : TypeId) (cs : List Value) : Ck := ⟨(· = p), fun w => Blk w p t cs, true, false⟩
theorem bk_ok {p : Nat} {t : TypeId} {cs : List Value} {w : World} (h : Blk w p t cs) : (bk p t cs).Ok w :=
  ⟨h, fun k hk => by subst hk; exact h.lt, fun w' _ hb => (hb p rfl).trans h⟩
abbrev qu {α : Type} (enc : α → List Value) (sz : Nat) (e : TypeId) (A : Option Addr) (c : Nat) (l : List α) : Ck := ⟨fun k => obk A = some k, fun w => Que enc sz e w 0 A c l, true, false⟩
theorem qu_ok {α : Type} {enc : α → List Value} {sz : Nat} {e : TypeId} {A : Option Addr} {c : Nat} {l : List α} {w : World} (h : Que enc sz e w 0 A c l) : (qu enc sz e A c l).Ok w := by
  refine ⟨h, fun k hk => (h.obk_lt k hk).1, fun w' _ hb => ?_⟩
  obtain ⟨h1, h2, h3⟩ := h
  refine ⟨h1, h2, ?_⟩
  rcases h3 with h3 | ⟨b, off, cs, hA, hB, hblk, h4, h5⟩
  · exact .inl h3
  · exact .inr ⟨b, off, cs, hA, hB, (hb b (by show obk A = some b; rw [hA]; rfl)).trans hblk, h4, h5⟩
theorem Hp.one {S : Nat → Prop} {w w' : World} {c : Ck} (t : Tch S w w') (h : c.Ok w') (hd : ∀ k, c.fp k → S k ∨ w.heap.size ≤ k) : Hp S w w' [c] :=
  ⟨t, by simpa using h, List.pairwise_singleton _ _, fun b hb _ => by have := List.mem_singleton.1 hb; subst this; exact hd⟩
theorem Hp.start {S : Nat → Prop} {w : World} {c : Ck} (h : c.Ok w) (hd : ∀ k, c.fp k → S k) : Hp S w w [c] := Hp.one (Tch.refl S w) h fun k hk => .inl (hd k hk)
section
variable {S : Nat → Prop} {w0 w w' : World} {Γ : List Ck} {b p o : Nat} {t : TypeId} {cs vs : List Value} {α : Type} {enc : α → List Value} {sz c : Nat} {e : TypeId} {A : Option Addr} {l : List α}
theorem Hp.blk (H : Hp S w0 w Γ) (i : Nat) (h : Γ[i]? = some (bk p t cs)) : Blk w p t cs := H.atC i h
theorem Hp.que (H : Hp S w0 w Γ) (i : Nat) (h : Γ[i]? = some (qu enc sz e A c l)) : Que enc sz e w 0 A c l := H.atC i h
theorem Hp.rdq (H : Hp S w0 w Γ) (i : Nat) (h : Γ[i]? = some (qu enc sz e A c l)) : RdS enc sz w A l := (H.que i h).rd
theorem rd_full (h : Blk w p t (l.flatMap enc)) (hl : ∀ x ∈ l, (enc x).length = sz) : RdS enc sz w (some ⟨p, 0, none⟩) l := (Que.of_full h (Nat.zero_le _) hl).rd
theorem Hp.rdb (H : Hp S w0 w Γ) (i : Nat) (h : Γ[i]? = some (bk p t (l.flatMap enc))) (hl : ∀ x ∈ l, (enc x).length = sz) : RdS enc sz w (some ⟨p, 0, none⟩) l := rd_full (H.blk i h) hl
abbrev rk {α : Type} (enc : α → List Value) (sz : Nat) (A : Option Addr) (l : List α) : Ck := ⟨fun k => l ≠ [] ∧ obk A = some k, fun w => RdS enc sz w A l, false, false⟩
theorem Al.hp (H : Hp S w0 w Γ) {k : Nat → World → Prop} (h : ∀ p w', Hp S w0 w' (bk p t cs :: Γ) → w0.heap.size ≤ p → k p w') : Al cs t w k :=
  Al.mk fun p w' hp hb e hs => h p w' (H.fr0 (Hp.one (Tch.of_ext e) (bk_ok hb) (fun k hk => .inr (by subst hk; omega))) (.inl rfl)) (by have := H.size; omega)
theorem upd_hp {cs' : List Value} (u : Upd b w w') (h : Blk w' b t cs') : Hp (· = b) w w' [bk b t cs'] :=
  Hp.one ((Tch.refl _ _).upd u (.inl rfl)) (bk_ok h) fun k hk => .inl hk
theorem grow_hp {A2 : Option Addr} {c2 : Nat} {l2 : List α} (g : Grow A w w') (hA : Que enc sz e w 0 A c l) (h : Que enc sz e w' 0 A2 c2 l2) (hb : obk A2 = obk A ∨ obk A2 = some w.heap.size) : Hp (fun k => obk A = some k) w w' [qu enc sz e A2 c2 l2] := by
  refine Hp.one ?_ (qu_ok h) fun k hk => ?_
  · have hg : w.grownBy w' (obk A) := by rw [← obk_eq A 0 0]; exact g
    exact ⟨hg.os, hg.tape, hg.output, hg.size, fun k hk hS => hg.block k hk (fun e => hS e.symm)⟩
  · rcases hb with hb | hb
    · exact .inl (hb ▸ hk)
    · exact .inr (by have : obk A2 = some k := hk; rw [hb] at this; simp at this; omega)
end
section
variable {S : Nat → Prop} {w0 w w' wb : World} {Γ Γ' L R : List Ck} {c c' d : Ck} {b o : Nat} {t e : TypeId} {cs vs : List Value} {α : Type} {enc : α → List Value} {sz cp : Nat} {A : Option Addr} {l m : List α} {x : α}
inductive Upd1 : List Ck → Ck → Ck → List Ck → Prop
  | head {Γ : List Ck} {c c' : Ck} : Upd1 (c :: Γ) c c' (c' :: Γ)
  | tail {a : Ck} {Γ Γ' : List Ck} {c c' : Ck} : Upd1 Γ c c' Γ' → Upd1 (a :: Γ) c c' (a :: Γ')
inductive Sp : List Ck → List Ck → Ck → List Ck → Prop
  | head {Γ : List Ck} {c : Ck} : Sp (c :: Γ) [] c Γ
  | tail {a : Ck} {Γ L R : List Ck} {c : Ck} : Sp Γ L c R → Sp (a :: Γ) (a :: L) c R
theorem Sp.eq {Γ L R : List Ck} {c : Ck} (h : Sp Γ L c R) : Γ = L ++ c :: R := by
  induction h with
  | head => rfl
  | tail _ ih => rw [ih]; rfl
theorem Upd1.sp {Γ Γ' : List Ck} {c c' : Ck} (h : Upd1 Γ c c' Γ') : ∃ L R, Sp Γ L c R ∧ Γ' = L ++ c' :: R := by
  induction h with
  | head => exact ⟨[], _, .head, rfl⟩
  | tail _ ih => obtain ⟨L, R, h1, h2⟩ := ih; exact ⟨_ :: L, R, .tail h1, by rw [h2]; rfl⟩
theorem Hp.putS (H : Hp S w0 w Γ) (u : Sp Γ L c R) (H' : Hp c.fp w w' [c']) (ho : c.own = true) (hn : c'.new) : Hp S w0 w' (L ++ c' :: R) := by
  have H1 := (u.eq ▸ H : Hp S w0 w (L ++ c :: R)).perm List.perm_middle
  have H2 := Hp.frame (Γ1 := [c]) (Γ2 := L ++ R) (S' := c.fp) (Γ' := [c']) H1 (by simpa using ho) (fun k h => ⟨c, by simp, h⟩) H' (by simpa using hn)
  exact (show Hp S w0 w' (c' :: (L ++ R)) from H2).perm List.perm_middle.symm
theorem Hp.upd (H : Hp S w0 w Γ) (H' : Hp c.fp w w' [c']) (ho : c.own = true) (hn : c'.new) (u : Upd1 Γ c c' Γ' := by (repeat (first | exact Upd1.head | apply Upd1.tail))) : Hp S w0 w' Γ' := by
  obtain ⟨L, R, h1, rfl⟩ := u.sp
  exact H.putS h1 H' ho hn
theorem Hp.updb {cs' : List Value} (H : Hp S w0 w Γ) (H' : Hp (· = b) w w' [bk b t cs']) (u : Upd1 Γ (bk b t cs) (bk b t cs') Γ' := by (repeat (first | exact Upd1.head | apply Upd1.tail))) : Hp S w0 w' Γ' := H.upd (c := bk b t cs) H' rfl (.inl rfl) u
theorem Hp.updn (H : Hp S w0 w Γ) (H' : Hp c.fp w w' [c', d]) (ho : c.own = true) (hn : c'.new) (hd : d.new) (u : Upd1 Γ c c' Γ' := by (repeat (first | exact Upd1.head | apply Upd1.tail))) : Hp S w0 w' (d :: Γ') := by
  obtain ⟨L, R, h1, rfl⟩ := u.sp
  have H1 := (h1.eq ▸ H : Hp S w0 w (L ++ c :: R)).perm List.perm_middle
  have H2 := Hp.frame (Γ1 := [c]) (Γ2 := L ++ R) (S' := c.fp) (Γ' := [c', d]) H1 (by simpa using ho) (fun k h => ⟨c, by simp, h⟩) H' (by simpa using ⟨hn, hd⟩)
  exact (show Hp S w0 w' (c' :: d :: (L ++ R)) from H2).perm ((List.Perm.swap d c' _).trans (List.Perm.cons d List.perm_middle.symm))
theorem Hp.mem (H : Hp S w0 w Γ) (h : c ∈ Γ) : c.P w := (H.ok c h).holds
theorem src_e (H : Hp nw w0 w Γ) (h : RdS enc sz w0 A l) : RdS enc sz w A l := RdS.from H.e h
theorem src_b (H : Hp S w0 w Γ) (hb : BaseOk S wb w0) (h : RdS enc sz wb A l) : RdS enc sz w A l := RdS.from (H.base2 hb) h
theorem src_q (H : Hp S w0 w Γ) (h : qu enc sz e A cp l ∈ Γ) : RdS enc sz w A l := (show Que enc sz e w 0 A cp l from H.mem h).rd
theorem src_r (H : Hp S w0 w Γ) (h : rk enc sz A l ∈ Γ) : RdS enc sz w A l := H.mem h
theorem Ld1.h {k : Value → Prop} {v : Value} (H : Hp S w0 w Γ) (hm : bk b t cs ∈ Γ := by (repeat (first | exact List.Mem.head _ | apply List.Mem.tail))) (hv : cs[o]? = some v := by rfl) (hk : k v) : Ld1 w ⟨b, o, none⟩ k := Ld1.blk (H.mem hm) hv hk
theorem Ld.h {k : List Value → Prop} {n : Nat} (H : Hp S w0 w Γ) (hm : bk b t cs ∈ Γ := by (repeat (first | exact List.Mem.head _ | apply List.Mem.tail))) (hv : ((cs.drop o).take n).length = n := by rfl) (hk : k ((cs.drop o).take n)) : Ld w ⟨b, o, none⟩ n k := Ld.blk (H.mem hm) hv hk
theorem Ld1.r {k : Value → Prop} {v : Value} {i : Nat} 
    (hr : RdS enc 1 w A l := by (first | assumption | exact src_e (by assumption) (by assumption) | exact src_q (by assumption) (by (repeat (first | exact List.Mem.head _ | apply List.Mem.tail))) | exact src_r (by assumption) (by (repeat (first | exact List.Mem.head _ | apply List.Mem.tail))) | exact src_b (by assumption) (by assumption) (by assumption)))
    (hx : l[i]? = some x := by (first | with_reducible assumption | assumption)) (hv : (enc x)[0]? = some v := by rfl) (hk : k v) : Ld1 w ((gA A).add (i * 1)) k := Ld1.rs hr hx hv hk
theorem Ld1.rF {k : Value → Prop} {v : Value} {i : Nat} 
    (hr : RdS enc sz w A l := by (first | assumption | exact src_e (by assumption) (by assumption) | exact src_q (by assumption) (by (repeat (first | exact List.Mem.head _ | apply List.Mem.tail))) | exact src_r (by assumption) (by (repeat (first | exact List.Mem.head _ | apply List.Mem.tail))) | exact src_b (by assumption) (by assumption) (by assumption)))
    (hx : l[i]? = some x := by (first | with_reducible assumption | assumption)) (hv : (enc x)[o]? = some v := by rfl) (hk : k v) : Ld1 w (pAdd ((gA A).add (i * sz)) o) k := Ld1.rsF hr hx hv hk
theorem Ld.r {k : List Value → Prop} {i : Nat} 
    (hr : RdS enc sz w A l := by (first | assumption | exact src_e (by assumption) (by assumption) | exact src_q (by assumption) (by (repeat (first | exact List.Mem.head _ | apply List.Mem.tail))) | exact src_r (by assumption) (by (repeat (first | exact List.Mem.head _ | apply List.Mem.tail))) | exact src_b (by assumption) (by assumption) (by assumption)))
    (hx : l[i]? = some x := by (first | with_reducible assumption | assumption)) (hk : k (enc x)) : Ld w ((gA A).add (i * sz)) sz k := Ld.rs hr hx hk
theorem Ix.h {k : Addr → Prop} {n : Int} {i : Nat} 
    (hr : RdS enc sz w A l := by (first | assumption | exact src_e (by assumption) (by assumption) | exact src_q (by assumption) (by (repeat (first | exact List.Mem.head _ | apply List.Mem.tail))) | exact src_r (by assumption) (by (repeat (first | exact List.Mem.head _ | apply List.Mem.tail))) | exact src_b (by assumption) (by assumption) (by assumption)))
    (he : n = (i : Int) := by (first | (with_reducible exact lit0) | (with_reducible exact lit1) | (with_reducible exact lit2) | with_reducible rfl | with_reducible assumption | assumption)) (h1 : i < l.length := by (first | with_reducible assumption | omega | assumption)) (hk : k ((gA A).add (i * sz))) : Ix A l.length n sz k := Ix.rs hr he h1 hk
theorem Ix.ha {k : Addr → Prop} {n : Int} {i len : Nat} 
    (hr : RdS enc sz w A l := by (first | assumption | exact src_e (by assumption) (by assumption) | exact src_q (by assumption) (by (repeat (first | exact List.Mem.head _ | apply List.Mem.tail))) | exact src_r (by assumption) (by (repeat (first | exact List.Mem.head _ | apply List.Mem.tail))) | exact src_b (by assumption) (by assumption) (by assumption)))
    (hl : l.length = len := by (first | with_reducible assumption | (simp; done) | assumption)) (he : n = (i : Int) := by (first | (with_reducible exact lit0) | (with_reducible exact lit1) | (with_reducible exact lit2) | with_reducible rfl | with_reducible assumption | assumption)) (h1 : i < l.length := by (first | with_reducible assumption | omega | assumption)) (hk : k ((gA A).add (i * sz))) : Ix A len n sz k := Ix.arr hr hl he h1 hk
section
variable {W : World → Prop} {Rl : World → World → Prop} (hW : QW W w Rl)
include hW
theorem QLd1.h {k : Value → Prop} {v : Value} (H : Hp S w0 w Γ) (hm : bk b t cs ∈ Γ := by (repeat (first | exact List.Mem.head _ | apply List.Mem.tail))) (hv : cs[o]? = some v := by rfl) (hk : k v) : QLd1 W ⟨b, o, none⟩ k := QLd1.blk hW (H.mem hm) hv hk
theorem QLd.h {k : List Value → Prop} {n : Nat} (H : Hp S w0 w Γ) (hm : bk b t cs ∈ Γ := by (repeat (first | exact List.Mem.head _ | apply List.Mem.tail))) (hv : ((cs.drop o).take n).length = n := by rfl) (hk : k ((cs.drop o).take n)) : QLd W ⟨b, o, none⟩ n k := QLd.blk hW (H.mem hm) hv hk
theorem QLd1.r {k : Value → Prop} {v : Value} {i : Nat} 
    (hr : RdS enc 1 w A l := by (first | assumption | exact src_e (by assumption) (by assumption) | exact src_q (by assumption) (by (repeat (first | exact List.Mem.head _ | apply List.Mem.tail))) | exact src_r (by assumption) (by (repeat (first | exact List.Mem.head _ | apply List.Mem.tail))) | exact src_b (by assumption) (by assumption) (by assumption)))
    (hx : l[i]? = some x := by (first | with_reducible assumption | assumption)) (hv : (enc x)[0]? = some v := by rfl) (hk : k v) : QLd1 W ((gA A).add (i * 1)) k := QLd1.rs hW hr hx hv hk
theorem QLd1.rF {k : Value → Prop} {v : Value} {i : Nat} 
    (hr : RdS enc sz w A l := by (first | assumption | exact src_e (by assumption) (by assumption) | exact src_q (by assumption) (by (repeat (first | exact List.Mem.head _ | apply List.Mem.tail))) | exact src_r (by assumption) (by (repeat (first | exact List.Mem.head _ | apply List.Mem.tail))) | exact src_b (by assumption) (by assumption) (by assumption)))
    (hx : l[i]? = some x := by (first | with_reducible assumption | assumption)) (hv : (enc x)[o]? = some v := by rfl) (hk : k v) : QLd1 W (pAdd ((gA A).add (i * sz)) o) k := QLd1.rsF hW hr hx hv hk
theorem QLd.r {k : List Value → Prop} {i : Nat} 
    (hr : RdS enc sz w A l := by (first | assumption | exact src_e (by assumption) (by assumption) | exact src_q (by assumption) (by (repeat (first | exact List.Mem.head _ | apply List.Mem.tail))) | exact src_r (by assumption) (by (repeat (first | exact List.Mem.head _ | apply List.Mem.tail))) | exact src_b (by assumption) (by assumption) (by assumption)))
    (hx : l[i]? = some x := by (first | with_reducible assumption | assumption)) (hk : k (enc x)) : QLd W ((gA A).add (i * sz)) sz k := QLd.rs hW hr hx hk
end
theorem Hp.d0 (H : Hp S w0 w (c :: Γ)) : Hp S w0 w Γ := H.sub (List.sublist_cons_self _ _)
end
section
variable {S : Nat → Prop} {w0 w w' : World} {Γ Γ' L R : List Ck} {b p o q : Nat} {t : TypeId} {cs vs : List Value} {α : Type} {enc : α → List Value} {sz c : Nat} {e : TypeId} {A : Option Addr} {l m : List α} {x : α} {k : World → Prop}
theorem putL_el {x : α} : ∀ {l : List α} {i : Nat}, (∀ y ∈ l, (enc y).length = sz) → (enc x).length = sz → i < l.length → putL (l.flatMap enc) (i * sz) (enc x) = (l.set i x).flatMap enc
  | [], i, _, _, hi => by simp at hi
  | y :: r, 0, h, hx, _ => by
    have hy := h y (by simp)
    simp [putL, hx, List.drop_append, hy]
  | y :: r, i + 1, h, hx, hi => by
    have ih := putL_el (l := r) (i := i) (fun z hz => h z (by simp [hz])) hx (by simpa using hi)
    have hy := h y (by simp)
    unfold putL at ih ⊢
    simp only [List.flatMap_cons, List.set_cons_succ]
    rw [← ih, show (i + 1) * sz = (enc y).length + i * sz by rw [hy, Nat.add_mul, Nat.one_mul, Nat.add_comm], List.take_length_add_append]
    rw [show (enc y).length + i * sz + (enc x).length = (enc y).length + (i * sz + (enc x).length) by omega, List.drop_length_add_append]
    simp
theorem St.h (H : Hp S w0 w Γ) (hk : ∀ w', Hp S w0 w' Γ' → k w') (u : Upd1 Γ (bk b t cs) (bk b t (putL cs o vs)) Γ' := by (repeat (first | exact Upd1.head | apply Upd1.tail)))
    (hl : Nat.ble (o + vs.length) cs.length = true := by rfl) (h1 : vs.all Value.oneCell' = true := by rfl) : St w ⟨b, o, none⟩ vs k := by
  obtain ⟨L, R, h2, rfl⟩ := u.sp
  exact St.upd (H.mem (c := bk b t cs) (by rw [h2.eq]; simp)) hl h1 fun w' u hb => hk w' (H.putS h2 (upd_hp u hb) rfl (.inl rfl))
variable {P : Program} {T : Tab} {ku : Value → World → Prop} {Y : List PanicEntry → World → Prop}
theorem Sm.lith (H : Hp S w0 w Γ) (hT : TabOk P T) {t : TypeId} {ti ei : TI} {len : Nat} {parts : List (Nat × Value)} {cs : List Value}
    (hk : ∀ p w', Hp S w0 w' (bk p e cs :: Γ) → w0.heap.size ≤ p → ku (.slice (some ⟨p, 0, none⟩) len len) w')
    (ht : getT T.ts t = some ti := by rfl) (hd : ti.desc = .slice e := by rfl) (he : getT T.ts e = some ei := by rfl) (hz : Nat.beq ei.zero.cells.toList.length ei.size = true := by rfl)
    (hcs : puBuild ((List.range len).map fun i => (i * ei.size, ei.size)) (List.replicate len ei.zero.cells.toList).flatten (parts.map fun (i, v) => (i, some v)) = some cs := by rfl)
    (hsmall : Nat.ble (len * ei.size) 16777216 = true := by rfl) (hne : Nat.blt 0 (len * ei.size) = true := by rfl) : Sm P (Instr.buildSlice t len parts.toArray) w ku Y :=
  Sm.lit hT ht hd he hz hcs hsmall hne fun p w' hp hb ex _ => hk p w' (H.fr0 (Hp.one (Tch.of_ext ex) (bk_ok hb) (fun k hk => .inr (by subst hk; omega))) (.inl rfl)) (by have := H.size; omega)
theorem Sm.makeh (H : Hp S w0 w Γ) (hT : TabOk P T) {t : TypeId} {ti ei : TI} {n : Nat} {kl kc : IntKind} {a b : Int} {z : α}
    (hbytes : ei.bytes * n ≤ 281474976710656) (h63 : n ≤ 140737488355328)
    (hk : ∀ p w', Hp S w0 w' (bk p e ((List.replicate n z).flatMap enc) :: Γ) → w0.heap.size ≤ p → ku (.slice (some ⟨p, 0, none⟩) n n) w')
    (ht : getT T.ts t = some ti := by rfl) (hd : ti.desc = .slice e := by rfl) (he : getT T.ts e = some ei := by rfl) (ha : a = (n : Int) := by first | rfl | assumption) (hb : b = (n : Int) := by first | rfl | assumption) (hsz : ei.size = sz := by rfl) (hz : ei.zero.cells.toList = enc z := by rfl) (hzl : (enc z).length = sz := by rfl) (hpos : 0 < sz := by decide)
    : Sm P (Instr.makeSlice t (.int kl a) (.int kc b)) w ku Y :=
  Sm.make hT ht hd he ha hb hsz hz hzl hpos hbytes h63 fun p w' hp hb ex => hk p w' (H.fr0 (Hp.one (Tch.of_ext ex) (bk_ok hb) (fun k hk => .inr (by subst hk; omega))) (.inl rfl)) (by have := H.size; omega)
theorem Hp.nil (H : Hp S w0 w Γ) (enc : α → List Value) (sz : Nat) (e : TypeId) : Hp S w0 w (qu enc sz e none 0 ([] : List α) :: Γ) :=
  H.fr0 (Hp.one (Tch.refl _ _) (qu_ok Que.nil) (fun k hk => by have : none = some k := hk; simp at this)) (.inl rfl)
theorem Sm.appm (H : Hp S w0 w Γ) (hT : TabOk P T) {t ty : TypeId} {ti ei : TI} {X : Option Addr} {n n2 c2 : Nat}
    (hn : n = l.length) (hr : RdS enc sz w X m) (hn2 : n2 = m.length) (hne : m ≠ []) (hm : ∀ x ∈ m, (enc x).length = sz) (h1 : ∀ x ∈ m, ∀ v ∈ enc x, v.oneCell' = true)
    (hlen : (l.length + m.length) * ei.bytes ≤ 140737488355328) (hlen2 : l.length + m.length ≤ 140737488355328)
    (hk : ∀ A' c' w', Hp S w0 w' (L ++ qu enc sz e A' c' (l ++ m) :: R) → ku (.slice A' (l ++ m).length c') w')
    (u : Sp Γ L (qu enc sz e A c l) R := by (repeat (first | exact Sp.head | apply Sp.tail)))
    (ht : getT T.ts t = some ti := by rfl) (hd : ti.desc = .slice e := by rfl) (he : getT T.ts e = some ei := by rfl) (hsz : ei.size = sz := by rfl) (hz : ei.zero.cells.size = sz := by rfl) (hpos : 0 < sz := by decide)
    : Sm P (Builtin.append_ #[t, t] ty #[.slice A n c, .slice X n2 c2]) w ku Y := by
  have hq : Que enc sz e w 0 A c l := H.mem (c := qu enc sz e A c l) (by rw [u.eq]; simp)
  exact Sm.appQ hT ht hd he hsz hz hpos hq hn hr hn2 hne hm h1 hlen hlen2 (Nat.zero_le _) fun A' c' w' hQ g hb => hk A' c' w' (H.putS u (grow_hp g hq hQ hb) rfl (.inl rfl))
theorem Sm.ap1 (x : α) (H : Hp S w0 w (bk q e (enc x) :: Γ)) (hT : TabOk P T) {t ty : TypeId} {ti ei : TI} {n c2 : Nat}
    (hlen : (n + 1) * ei.bytes ≤ 140737488355328) (hlen2 : n + 1 ≤ 140737488355328)
    (hk : ∀ A' c' w', Hp S w0 w' (L ++ qu enc sz e A' c' (l ++ [x]) :: R) → ku (.slice A' (n + 1) c') w')
    (u : Sp Γ L (qu enc sz e A c l) R := by (repeat (first | exact Sp.head | apply Sp.tail))) (hn : n = l.length := by first | rfl | assumption | (simp; done))
    (hx : (enc x).length = sz := by rfl) (h1 : (enc x).all Value.oneCell' = true := by rfl)
    (ht : getT T.ts t = some ti := by rfl) (hd : ti.desc = .slice e := by rfl) (he : getT T.ts e = some ei := by rfl) (hsz : ei.size = sz := by rfl) (hz : ei.zero.cells.size = sz := by rfl) (hpos : 0 < sz := by decide)
    : Sm P (Builtin.append_ #[t, t] ty #[.slice A n c, .slice (some ⟨q, 0, none⟩) 1 c2]) w ku Y := by
  have hb : Blk w q e ([x].flatMap enc) := by simpa using H.blk 0 rfl
  subst hn
  refine Sm.appm H hT (m := [x]) rfl (rd_full hb (by simpa using hx)) rfl (by simp) (by simpa using hx) (by simpa using h1) hlen hlen2 (L := bk q e (enc x) :: L) (R := R) (fun A' c' w' H' => ?_) (.tail u) ht hd he hsz hz hpos
  have := hk A' c' w' (Hp.d0 H')
  simpa using this
theorem Sm.run_of {s : Sem Value} {v : Value} (h : Sm P s w (fun u w' => u = v ∧ w' = w) (fun _ _ => False)) : s.run P w = .ok v w := by
  have := h.out
  split at this
  · rename_i hr; rw [hr, this.1, this.2]
  · exact this.elim
  · exact this.elim
theorem QSm.cutHi {W : World → Prop} {Rl : World → World → Prop} (hW : QW W w Rl) (hT : TabOk P T) {t : TypeId} {ti ei : TI} {n i : Nat} {kl : IntKind} {a : Int} {k : Value → Prop} (hi : i ≤ c) (hk : k (.slice A i c))
    (ht : getT T.ts t = some ti := by rfl) (hd : ti.desc = .slice e := by rfl) (he : getT T.ts e = some ei := by rfl) (hsz : ei.size = sz := by rfl) (ha : a = (i : Int) := by first | with_reducible rfl | assumption) : QSm P (Instr.sliceAt t (.slice A n c) none (some (.int kl a)) none) W k :=
  QSm.mk hW (fun w' _ => Sm.run_of (Sm.cutHi hT ht hd he hsz ha hi ⟨rfl, rfl⟩)) hk
end
end Go.Sh
